/- Walk: the program's question whether common elements below have a greatest one, by words of bits. No condition but the sizes of memory. -/
import Derived.Test.YtbioelmofceaaaaLatP
import Derived.Test.YtbioelmofceaaaaOpp
import Derived.Test.YtbioelmofceaaaaRow
import Derived.Test.YtbioelmofceaaaaLawP
import Derived.Laws.BitsAllLaws
import Derived.Test.YtbioelmofceaaaaLen64
import Derived.RegionTactic
import Derived.BigRegion
import Derived.Deep.Cut
import Derived.Deep.CutRange
namespace Go.Proofs.Ytbioelmofceaaaa
open Go.RowKit
set_option linter.unusedVariables false
set_option maxRecDepth 100000
theorem bor_word (M q m : Nat) (hm : m < 64) : bits BinOp.or IntKind.u64 (((wd M q : Nat)) : Int) (IntKind.u64.wrap (2 ^ min m 64)) = ((wd M q ||| 2 ^ m : Nat) : Int) := by
  have h2 : (2 : Nat) ^ m < 18446744073709551616 := Nat.lt_of_lt_of_le (Nat.pow_lt_pow_right (by decide) hm) (by decide)
  have h0 : ((2 : Int) ^ m) = ((2 ^ m : Nat) : Int) := by push_cast; rfl
  rw [Nat.min_eq_left (by omega), h0]
  generalize 2 ^ m = z at h2 ⊢
  have h1 : IntKind.u64.wrap (z : Int) = (z : Int) := by
    simp [IntKind.wrap, IntKind.bits, IntKind.signed]
    omega
  rw [h1, u64_or_nat _ _ (wd_lt _ _) h2]
/-- the block of common words, the first k of them laid -/
def cmA (m k : Nat) : Array Value := ((List.range 8).map fun i => .int .u64 (if i < k then wd m i else 0 : Nat)).toArray
theorem cmA_get {m k i : Nat} (h : i < 8) : (cmA m k)[i]? = some (.int .u64 (if i < k then wd m i else 0 : Nat)) := by
  simp [cmA, h]
theorem cmA_size (m k : Nat) : (cmA m k).size = 8 := by simp [cmA]
theorem cmA_set {m k : Nat} (h : k < 8) : (cmA m k).setIfInBounds k (.int .u64 (wd m k : Nat)) = cmA m (k + 1) := by
  apply Array.ext_getElem?
  intro i
  rw [Array.getElem?_setIfInBounds]
  by_cases hi : i < 8
  · rw [cmA_get hi, cmA_get hi]
    by_cases e : k = i
    · subst e
      rw [if_pos rfl, if_pos (by rw [cmA_size]; exact h), if_pos (by omega)]
    · rw [if_neg e]
      by_cases g : i < k
      · rw [if_pos g, if_pos (by omega)]
      · rw [if_neg g, if_neg (by omega)]
  · rw [if_neg (by omega), Array.getElem?_eq_none (by rw [cmA_size]; omega), Array.getElem?_eq_none (by rw [cmA_size]; omega)]
theorem cmA_zero (m : Nat) : cmA m 0 = #[.int .u64 0, .int .u64 0, .int .u64 0, .int .u64 0, .int .u64 0, .int .u64 0, .int .u64 0, .int .u64 0] := by
  apply Array.ext_getElem?
  intro i
  by_cases hi : i < 8
  · rw [cmA_get hi]
    rcases i with _ | _ | _ | _ | _ | _ | _ | _ | i <;> first | rfl | omega
  · rw [Array.getElem?_eq_none (by rw [cmA_size]; omega), Array.getElem?_eq_none (by simp; omega)]
theorem made8 (n : Nat) : (madeCells #[Value.int .u64 0, .int .u64 0, .int .u64 0, .int .u64 0, .int .u64 0, .int .u64 0, .int .u64 0, .int .u64 0] (n * 8)).toList = List.replicate (n * 8) (.int .u64 0) := by
  apply List.ext_getElem?
  intro j
  by_cases hj : j < n * 8
  · rw [List.getElem?_replicate, if_pos hj]
    have h8 : j % 8 < 8 := Nat.mod_lt _ (by decide)
    have key : ∀ i, i < 8 → ([Value.int .u64 0, .int .u64 0, .int .u64 0, .int .u64 0, .int .u64 0, .int .u64 0, .int .u64 0, .int .u64 0] : List Value)[i]?.getD default = .int .u64 0 := by
      intro i hi
      rcases i with _ | _ | _ | _ | _ | _ | _ | _ | i <;> first | rfl | omega
    simp [madeCells, hj, key _ h8]
  · rw [List.getElem?_eq_none (by rw [Array.length_toList, size_madeCells]; omega), List.getElem?_eq_none (by simp; omega)]
theorem infoW : (Try.prog.info? 76).map (fun i => (i.zero, i.size, i.bytes)) = some (some (.agg #[.int .u64 0, .int .u64 0, .int .u64 0, .int .u64 0, .int .u64 0, .int .u64 0, .int .u64 0, .int .u64 0]), 8, 64) := by kernel_rfl
set_option maxHeartbeats 8000000 in
theorem haveGreatest_any (r : Int) (D : Option Addr) (e0 n : Nat) (ps : List Int) (A : Option Addr) (c : Nat) (xss : List (List Int)) (w : World) {lo hi : Nat} (h : RS w lo hi A n xss) (hhi : hi ≤ w.heap.size) (hn5 : n ≤ 500) (hD : Dwn xss) :
    Calls Try.prog 31 #[.agg #[.int .i64 r, .slice D n e0, .slice A n c]] w fun e w' => e = .returned (.bool (meetB xss)) ∧ Below w.heap.size w w' := by
  obtain ⟨j0, hj0, hy0, hy1, hy2⟩ := info_parts infoW
  have hl := h.len
  have hR := rs_alloc h hhi (.cells #[.int .i64 r, .slice D n e0, .slice A n c] 29)
  have hB : Below w.heap.size w (w.alloc (.cells #[.int .i64 r, .slice D n e0, .slice A n c] 29)) := (Below.refl _ _).alloc (Nat.le_refl _) _
  have c1 : (w.alloc (.cells #[.int .i64 r, .slice D n e0, .slice A n c] 29)).cell? ⟨w.heap.size, 1, none⟩ = some (.slice D n e0) := by simp
  have c2 : (w.alloc (.cells #[.int .i64 r, .slice D n e0, .slice A n c] 29)).cell? ⟨w.heap.size, 2, none⟩ = some (.slice A n c) := by simp
  replace hl := Lib.hid hl
  replace hD := Lib.hid hD
  go_enter Try.func31, Try.ntmps31
  go_wp2_with (at_make; refine wpList_make_full _ rfl _ _ 74 rfl (w.heap.size + 1) 76 j0 _ 8 Try.underlying74 hj0 hy0 hy1 _ _ _ _ n rfl rfl rfl rfl ?c1 ?c2 ?c3 ?_)
  case c1 => rw [hy2]; omega
  case c2 => simp only [maxLen]; omega
  case c3 => simp
  intro w2 hown hg
  obtain ⟨W1, hW⟩ : ∃ W1 : World, w.alloc (.cells #[.int .i64 r, .slice D n e0, .slice A n c] 29) = W1 := ⟨_, rfl⟩
  have hz1 : W1.heap.size = w.heap.size + 1 := by rw [← hW]; simp
  rw [hW] at hR hB c1 c2 hg
  clear hW h
  have hb2 : Below (w.heap.size + 1) W1 w2 := below_of_grown hg (by omega) (by simp)
  have hz2 : w.heap.size + 1 < w2.heap.size := (hown.lt (w.heap.size + 1) rfl).2
  have c22 := (hb2.cell (p := ⟨w.heap.size, 2, none⟩) (by first | (simp; done) | (simp; omega))).trans c2
  have e1 : (madeCells #[Value.int .u64 0, .int .u64 0, .int .u64 0, .int .u64 0, .int .u64 0, .int .u64 0, .int .u64 0, .int .u64 0] (n * 8)).toList = wds (mskA xss 0) n := by rw [mskA_zero, wds_start, made8]
  rw [e1] at hown
  clear e1 hg
  go_wp2_with fail
  go_loopw [21] (fun kv wq => ∃ e : Nat, e ≤ n ∧ kv = .int .i64 e ∧ wq.ownsRow (w.heap.size + 1) 76 8 (.slice (some ⟨w.heap.size + 1, 0, none⟩) n n) n (wds (mskA xss e) n) ∧ Below (w.heap.size + 1) W1 wq) (fun kv _ => n - (intOf kv).toNat)
  case atStart => exact ⟨0, by omega, rfl, hown, hb2⟩
  case round =>
    clear hown hb2 c22
    obtain ⟨e, he, rfl, hown, hb⟩ := hrel
    by_cases hen : e < n
    · obtain ⟨b0, o0, Ae, ne, ce, Be, hA, hA1, hA2, hBe, hcBe0, hrBe⟩ := hR.at_ hen
      subst hA
      have hcBe := (hb.cell (p := ⟨b0, o0 + e, none⟩) (by simp; omega)).trans hcBe0
      have e0' : (0 : Int) ≤ (e : Int) := by omega
      have e1' : (e : Int) < (n : Int) := by omega
      obtain ⟨q, hq⟩ : ∃ q : Nat, e / 64 = q := ⟨_, rfl⟩
      obtain ⟨m, hm⟩ : ∃ m : Nat, e % 64 = m := ⟨_, rfl⟩
      have hq1 : Int.tdiv (e : Int) 64 = (q : Int) := by rw [Int.tdiv_eq_ediv_of_nonneg (by omega)]; omega
      have hm1 : Int.tmod (e : Int) 64 = (m : Int) := by rw [Int.tmod_eq_emod_of_nonneg (by omega)]; omega
      have hq2 : IntKind.i64.wrap (q : Int) = (q : Int) := by rw [IntKind.wrap_i64]; omega
      have q0 : (0 : Int) ≤ (q : Int) := by omega
      have q1 : (q : Int) < 8 := by omega
      have hce : wr.cell? ⟨w.heap.size + 1, e * 8 + q, none⟩ = some (.int .u64 (wd (mskA xss e e) q : Nat)) := by
        rw [hown.cellAt _ (by omega)]
        exact wds_get _ hen (by omega)
      have hfe := hown.frozenAt (e * 8 + q)
      replace hBe := Lib.hid hBe
      replace hq := Lib.hid hq
      replace hm := Lib.hid hm
      replace hown := Lib.hid hown
      go_wp2_with fail
      go_region
      have hbv := bor_word (mskA xss e e) q m (by have := hm.out; omega)
      have hsto := (hown.out.stored (e * 8 + q) (.int .u64 ((wd (mskA xss e e) q ||| 2 ^ m : Nat) : Int))).1
      have hset := wds_set (M := mskA xss e) (M' := mskE xss e 0) (n := n) (e := e) (x := e) hen (by omega) (mskE_zero_here xss e) (fun j hj => mskE_zero_there xss e j hj)
      rw [hq.out, hm.out] at hset
      rw [hset] at hsto
      have hb5 := hb.setCell (p := ⟨w.heap.size + 1, e * 8 + q, none⟩) (by simp) (.int .u64 ((wd (mskA xss e e) q ||| 2 ^ m : Nat) : Int))
      rw [hbv]
      obtain ⟨w5, hw5⟩ : ∃ w5 : World, (wr.setCell ⟨w.heap.size + 1, e * 8 + q, none⟩ (.int .u64 ((wd (mskA xss e e) q ||| 2 ^ m : Nat) : Int))).drew = w5 := ⟨_, rfl⟩
      have hsto5 : w5.ownsRow (w.heap.size + 1) 76 8 (.slice (some ⟨w.heap.size + 1, 0, none⟩) n n) n (wds (mskE xss e 0) n) := by rw [← hw5]; exact hsto
      have hb6 : Below (w.heap.size + 1) W1 w5 := by rw [← hw5]; exact below_drew hb5
      rw [hw5]
      clear hw5 hsto hset hbv hb5 hce hfe hown hq1 hm1 hq2 q0 q1 hcBe
      go_wp2_with fail
      go_loopw [41] (fun kv wq => ∃ k : Nat, k ≤ ne ∧ kv = .int .i64 k ∧ wq.ownsRow (w.heap.size + 1) 76 8 (.slice (some ⟨w.heap.size + 1, 0, none⟩) n n) n (wds (mskE xss e k) n) ∧ Below (w.heap.size + 1) W1 wq) (fun kv _ => ne - (intOf kv).toNat)
      case atStart => exact ⟨0, by omega, rfl, hsto5, hb6⟩
      case round =>
        clear hsto5 hb6
        obtain ⟨k, hk, rfl, hown, hb⟩ := hrel
        by_cases hkn : k < ne
        · obtain ⟨b1, o1, f, hAe, _, _, hf, hcf⟩ := (hrBe.below hb (by omega)).at_ hkn
          subst hAe
          have hgB : xss.getD e [] = Be := getD_some hBe.out
          have hfr := hD.out e f (by rw [hgB]; exact mem_of_get? hf)
          obtain ⟨x, rfl⟩ : ∃ x : Nat, f = x := ⟨f.toNat, by omega⟩
          have k0 : (0 : Int) ≤ (k : Int) := by omega
          have k1 : (k : Int) < (ne : Int) := by omega
          obtain ⟨q, hq⟩ : ∃ q : Nat, x / 64 = q := ⟨_, rfl⟩
          obtain ⟨m, hm⟩ : ∃ m : Nat, x % 64 = m := ⟨_, rfl⟩
          have hq1 : Int.tdiv (x : Int) 64 = (q : Int) := by rw [Int.tdiv_eq_ediv_of_nonneg (by omega)]; omega
          have hm1 : Int.tmod (x : Int) 64 = (m : Int) := by rw [Int.tmod_eq_emod_of_nonneg (by omega)]; omega
          have hq2 : IntKind.i64.wrap (q : Int) = (q : Int) := by rw [IntKind.wrap_i64]; omega
          have q0 : (0 : Int) ≤ (q : Int) := by omega
          have q1 : (q : Int) < 8 := by omega
          have hce : wr.cell? ⟨w.heap.size + 1, e * 8 + q, none⟩ = some (.int .u64 (wd (mskE xss e k e) q : Nat)) := by
            rw [hown.cellAt _ (by omega)]
            exact wds_get _ hen (by omega)
          have hfe := hown.frozenAt (e * 8 + q)
          have hsuc := mskE_succ_here (xss := xss) (E := e) (k := k) (f := (x : Int)) (by rw [hgB]; exact hf)
          rw [Int.toNat_natCast] at hsuc
          have hset := wds_set (M := mskE xss e k) (M' := mskE xss e (k + 1)) (n := n) (e := e) (x := x) hen (by omega) hsuc (fun j hj => mskE_there xss e (k + 1) k j hj)
          rw [hq, hm] at hset
          have hmeas : (e : Int) < (n : Int) := by omega
          replace hsuc := Lib.hid hsuc
          replace hset := Lib.hid hset
          replace hf := Lib.hid hf
          replace hq := Lib.hid hq
          replace hm := Lib.hid hm
          replace hgB := Lib.hid hgB
          replace hown := Lib.hid hown
          go_wp2_with fail
          go_region
          have hbv := bor_word (mskE xss e k e) q m (by have := hm.out; omega)
          have hsto := (hown.out.stored (e * 8 + q) (.int .u64 ((wd (mskE xss e k e) q ||| 2 ^ m : Nat) : Int))).1
          rw [hset.out] at hsto
          have hb5 := hb.setCell (p := ⟨w.heap.size + 1, e * 8 + q, none⟩) (by simp) (.int .u64 ((wd (mskE xss e k e) q ||| 2 ^ m : Nat) : Int))
          rw [hbv]
          obtain ⟨w7, hw7⟩ : ∃ w7 : World, (wr.setCell ⟨w.heap.size + 1, e * 8 + q, none⟩ (.int .u64 ((wd (mskE xss e k e) q ||| 2 ^ m : Nat) : Int))).drew = w7 := ⟨_, rfl⟩
          have hsto7 : w7.ownsRow (w.heap.size + 1) 76 8 (.slice (some ⟨w.heap.size + 1, 0, none⟩) n n) n (wds (mskE xss e (k + 1)) n) := by rw [← hw7]; exact hsto
          have hb7 : Below (w.heap.size + 1) W1 w7 := by rw [← hw7]; exact below_drew hb5
          rw [hw7]
          clear hw7 hsto hbv hb5 hce hfe hown hq1 hm1 hq2 q0 q1 hcf
          have hw1 : IntKind.i64.wrap ((k : Int) + 1) = ((k + 1 : Nat) : Int) := by rw [IntKind.wrap_i64]; have := hrBe.max; omega
          go_wp2_with fail
          clear hw1
          go_roundw
          case measure => first | (simp [intOf]; done) | (simp [intOf]; omega)
          case rel => first | exact ⟨k + 1, by omega, rfl, hsto7, hb7⟩ | ((repeat (apply Exists.intro)); exact ⟨⟨k + 1, by omega, rfl, hsto7, hb7⟩, rfl⟩)
        · have hkk : k = ne := by omega
          have hend : mskE xss e k = mskA xss (e + 1) := by
            have h1 := mskE_end xss e
            rw [show (xss.getD e []).length = k by rw [getD_some hBe.out, hkk]; exact hrBe.len] at h1
            exact h1
          rw [hend] at hown
          have hw1 : IntKind.i64.wrap ((e : Int) + 1) = ((e + 1 : Nat) : Int) := by rw [IntKind.wrap_i64]; omega
          clear hend
          replace hkk := Lib.hid hkk
          go_wp2_with fail
          clear hw1
          go_roundw
          case measure => first | (simp [intOf]; done) | (simp [intOf]; omega)
          case rel => first | exact ⟨e + 1, by omega, rfl, hown, hb⟩ | ((repeat (apply Exists.intro)); exact ⟨⟨e + 1, by omega, rfl, hown, hb⟩, rfl⟩)
    · have hee : e = n := by omega
      subst hee
      have hM : wds (mskA xss e) e = wds (msk xss) e := by
        unfold wds
        apply List.map_congr_left
        intro j hj
        rw [mskA_all (by have := List.mem_range.1 hj; omega)]
      rw [hM] at hown
      clear hM
      obtain ⟨w3, rfl⟩ : ∃ w3 : World, w3 = wr := ⟨_, rfl⟩
      have hz3 := hb.size
      have hg3 : w.heap.size + 1 < w3.heap.size := (hown.lt (w.heap.size + 1) rfl).2
      have own3 : Own w3 (w.heap.size + 1) w3.heap.size 76 none 0 0 [] := Own.nil
      go_wp2_with fail
      go_loopw [62] (fun kv wq => ∃ a : Nat, a ≤ e ∧ kv = .int .i64 a ∧ Hid (∀ e2 f2, f2 < e2 → e2 < a → Mt xss e2 f2) ∧ Below w3.heap.size w3 wq) (fun kv _ => e - (intOf kv).toNat)
      case atStart => exact ⟨0, by omega, rfl, Lib.hid (fun e2 f2 h1 h2 => by omega), Below.refl _ _⟩
      case round =>
        obtain ⟨a, ha, rfl, hpa, hba⟩ := hrel
        by_cases han : a < e
        · go_wp2_with fail
          go_loopw [66] (fun kv wq => ∃ b : Nat, b ≤ a ∧ kv = .int .i64 b ∧ Hid (∀ f2, f2 < b → Mt xss a f2) ∧ Below w3.heap.size w3 wq) (fun kv _ => a - (intOf kv).toNat)
          case atStart => exact ⟨0, by omega, rfl, Lib.hid (fun f2 h1 => by omega), hba⟩
          case round =>
            clear hba
            obtain ⟨b, hb0, rfl, hpb, hbb⟩ := hrel
            by_cases hba : b < a
            · obtain ⟨w4, rfl⟩ : ∃ w4 : World, w4 = wr := ⟨_, rfl⟩
              have hz4 := hbb.size
              obtain ⟨M, hM⟩ : ∃ M, msk xss a &&& msk xss b = M := ⟨_, rfl⟩
              have hMt := mt_iff (xss := xss) hD.out hba (by omega)
              have hbit := fun i => cmn_bit (xss := xss) hD.out hba i
              rw [hM] at hMt
              simp only [hM] at hbit
              have hwA : ∀ k, wd M k = wd (msk xss a) k &&& wd (msk xss b) k := fun k => by rw [← hM, wd_and]
              replace hM := Lib.hid hM
              replace hMt := Lib.hid hMt
              replace hbit := Lib.hid hbit
              replace hwA := Lib.hid hwA
              have p0 : (w4.alloc (.cells (cmA M 0) 76)).heap[w4.heap.size]? = some (.cells (cmA M 0) 76 (0, 0)) := heap_new _ _ _ rfl
              rw [cmA_zero] at p0
              have f0 : Below w4.heap.size w4 (w4.alloc (.cells #[.int .u64 0, .int .u64 0, .int .u64 0, .int .u64 0, .int .u64 0, .int .u64 0, .int .u64 0, .int .u64 0] 76)) := (Below.refl _ _).alloc (Nat.le_refl _) _
              replace p0 := Lib.hid p0
              go_wp2_with fail
              obtain ⟨W4, hW4⟩ : ∃ W4 : World, w4.alloc (.cells #[.int .u64 0, .int .u64 0, .int .u64 0, .int .u64 0, .int .u64 0, .int .u64 0, .int .u64 0, .int .u64 0] 76) = W4 := ⟨_, rfl⟩
              have zW : w4.heap.size < W4.heap.size := by rw [← hW4]; simp
              rw [hW4] at p0 f0 ⊢
              clear hW4
              have p1 : W4.heap[w4.heap.size]? = some (.cells (cmA M 0) 76 (0, 0)) := by rw [cmA_zero]; exact p0.out
              replace p1 := Lib.hid p1
              clear p0
              obtain ⟨g4, hg4⟩ : ∃ g : Nat, w4.heap.size = g := ⟨_, rfl⟩
              rw [hg4] at p1 zW ⊢
              go_loopw [11, 69] (fun tv kv wq => ∃ (k : Nat) (T : Int), k ≤ 8 ∧ kv = .int .i64 k ∧ tv = .int .i64 T ∧ Hid (T = topW M k) ∧ Hid (wq.heap[g4]? = some (.cells (cmA M k) 76 (0, 0))) ∧ Below w4.heap.size w4 wq ∧ g4 < wq.heap.size) (fun _ kv _ => 8 - (intOf kv).toNat)
              case atStart => exact ⟨0, -1, by omega, rfl, rfl, Lib.hid rfl, p1, f0, zW⟩
              case round =>
                clear p1 f0 zW
                obtain ⟨k, T, hk8, rfl, rfl, hT, hp, hf, hzz⟩ := hrel
                by_cases hk : k < 8
                · have k0 : (0 : Int) ≤ (k : Int) := by omega
                  have k1 : (k : Int) < 8 := by omega
                  have a0 : (0 : Int) ≤ (a : Int) := by omega
                  have a1 : (a : Int) < (e : Int) := by omega
                  have b0' : (0 : Int) ≤ (b : Int) := by omega
                  have b1' : (b : Int) < (e : Int) := by omega
                  have ca := (hf.cell (p := ⟨w.heap.size + 1, a * 8 + k, none⟩) (by first | (simp; done) | (simp; omega))).trans ((hbb.cell (p := ⟨w.heap.size + 1, a * 8 + k, none⟩) (by first | (simp; done) | (simp; omega))).trans ((hown.cellAt (a * 8 + k) (by omega)).trans (wds_get (msk xss) han hk)))
                  have cb := (hf.cell (p := ⟨w.heap.size + 1, b * 8 + k, none⟩) (by first | (simp; done) | (simp; omega))).trans ((hbb.cell (p := ⟨w.heap.size + 1, b * 8 + k, none⟩) (by first | (simp; done) | (simp; omega))).trans ((hown.cellAt (b * 8 + k) (by omega)).trans (wds_get (msk xss) (show b < e by omega) hk)))
                  have cc : wr.cell? ⟨g4, k, none⟩ = some (.int .u64 (0 : Nat)) := by rw [cell_of_row _ _ _ _ _ _ hp.out, cmA_get hk, if_neg (Nat.lt_irrefl _)]
                  have fc : wr.frozen? ⟨g4, k, none⟩ = false := frozen_of_row _ _ _ _ _ hp.out
                  have hand : bits BinOp.and IntKind.u64 ((wd (msk xss a) k : Nat) : Int) ((wd (msk xss b) k : Nat) : Int) = ((wd M k : Nat) : Int) := by rw [u64_and_nat _ _ (wd_lt _ _) (wd_lt _ _), hwA.out]
                  have hp2 := heap_setCell_same _ _ k _ _ (Value.int .u64 (wd M k : Nat)) hp.out
                  rw [cmA_set hk] at hp2
                  have hf2 := hf.setCell (p := ⟨g4, k, none⟩) (by show w4.heap.size ≤ g4; omega) (.int .u64 (wd M k : Nat))
                  replace hp2 := Lib.hid hp2
                  obtain ⟨v, hv⟩ : ∃ v, wd M k = v := ⟨_, rfl⟩
                  have hv64 := wd_lt M k
                  rw [hv] at hand hp2 hf2 hv64
                  go_wp2_with fail
                  go_region
                  obtain ⟨w8, hw8⟩ : ∃ w8 : World, (wr.setCell ⟨g4, k, none⟩ (.int .u64 (v : Int))).drew = w8 := ⟨_, rfl⟩
                  have hp8 : w8.heap[g4]? = some (.cells (cmA M (k + 1)) 76 (0, 0)) := by rw [← hw8]; exact hp2.out
                  have hf8 : Below w4.heap.size w4 w8 := by rw [← hw8]; exact below_drew hf2
                  have hz8 : g4 < w8.heap.size := by rw [← hw8]; simpa using hzz
                  rw [hw8]
                  have cv : w8.cell? ⟨g4, k, none⟩ = some (.int .u64 (v : Nat)) := by rw [cell_of_row _ _ _ _ _ _ hp8, cmA_get hk, if_pos (Nat.lt_succ_self _), hv]
                  replace hp8 := Lib.hid hp8
                  clear hw8 hp2 hf2 ca cb cc fc hand hp hf hzz a0 a1 b0' b1'
                  have hw1 : IntKind.i64.wrap ((k : Int) + 1) = ((k + 1 : Nat) : Int) := by rw [IntKind.wrap_i64]; omega
                  by_cases hv0 : v = 0
                  · have hv1 : ((v : Int) != 0) = false := by simpa using hv0
                    have hT2 : T = topW M (k + 1) := by rw [topW_succ0 (hv.trans hv0)]; exact hT.out
                    replace hT2 := Lib.hid hT2
                    replace hv := Lib.hid hv
                    replace hv0 := Lib.hid hv0
                    go_wp2_with fail
                    clear hw1
                    go_roundw
                    case measure => first | (simp [intOf]; done) | (simp [intOf]; omega)
                    case rel => first | exact ⟨k + 1, T, by omega, rfl, rfl, hT2, hp8, hf8, hz8⟩ | ((repeat (apply Exists.intro)); exact ⟨⟨k + 1, T, by omega, rfl, rfl, hT2, hp8, hf8, hz8⟩, rfl⟩)
                  · have hv1 : ((v : Int) != 0) = true := by simp; omega
                    obtain ⟨l1, l2, _, _⟩ := bitLen_pos hv0 hv64
                    have hT2 : ((64 * k + Lib.bitLen v - 1 : Nat) : Int) = topW M (k + 1) := by rw [topW_succ1 (by rw [hv]; exact hv0), hv]
                    have hlen := Ytbioelmofceaaaa.bits_Len64 (v : Int) w8 (by omega) (by omega)
                    rw [Int.toNat_natCast] at hlen
                    obtain ⟨L, hL⟩ : ∃ L, Lib.bitLen v = L := ⟨_, rfl⟩
                    rw [hL] at hT2 l1 l2 hlen
                    obtain ⟨z, hz⟩ : ∃ z, 64 * k + L - 1 = z := ⟨_, rfl⟩
                    obtain ⟨p, hpp⟩ : ∃ p, 64 * k = p := ⟨_, rfl⟩
                    obtain ⟨u, huu⟩ : ∃ u, p + L = u := ⟨_, rfl⟩
                    rw [hz] at hT2
                    have hm1 : IntKind.i64.wrap (64 * (k : Int)) = (p : Int) := by rw [IntKind.wrap_i64]; omega
                    have hm2 : IntKind.i64.wrap ((p : Int) + (L : Int)) = (u : Int) := by rw [IntKind.wrap_i64]; omega
                    have hm3 : IntKind.i64.wrap ((u : Int) - 1) = (z : Int) := by rw [IntKind.wrap_i64]; omega
                    replace hT2 := Lib.hid hT2
                    replace hv := Lib.hid hv
                    replace hL := Lib.hid hL
                    replace hz := Lib.hid hz
                    replace hpp := Lib.hid hpp
                    replace huu := Lib.hid huu
                    go_wp2_with fail
                    ((with_reducible refine hlen.mono ?_); rintro e9 w9 ⟨rfl, hw9⟩)
                    subst hw9
                    go_wp2_with fail
                    clear hw1 hm1 hm2 hm3
                    go_roundw
                    case measure => first | (simp [intOf]; done) | (simp [intOf]; omega)
                    case rel => first | exact ⟨k + 1, (z : Int), by omega, rfl, rfl, hT2, hp8, hf8, hz8⟩ | ((repeat (apply Exists.intro)); exact ⟨⟨k + 1, (z : Int), by omega, rfl, rfl, hT2, hp8, hf8, hz8⟩, rfl⟩)
                · have hkk : k = 8 := by omega
                  subst hkk
                  obtain ⟨w8, rfl⟩ : ∃ w8 : World, w8 = wr := ⟨_, rfl⟩
                  go_wp2_with fail
                  go_loopw [100] (fun kv wq => ∃ k : Nat, k ≤ 8 ∧ kv = .int .i64 k ∧ Hid (∀ i, i < k → ∀ t : Nat, T = t → okW M (msk xss t) i) ∧ Below w8.heap.size w8 wq) (fun kv _ => 8 - (intOf kv).toNat)
                  case atStart => exact ⟨0, by omega, rfl, Lib.hid (fun i hi => by omega), Below.refl _ _⟩
                  case round =>
                    obtain ⟨k, hk8, rfl, hok, hf9⟩ := hrel
                    have hfa : Below w4.heap.size w4 wr := below_then hf hf9 (by omega)
                    have hw1 : IntKind.i64.wrap ((k : Int) + 1) = ((k + 1 : Nat) : Int) := by rw [IntKind.wrap_i64]; omega
                    by_cases hk : k < 8
                    · have k0 : (0 : Int) ≤ (k : Int) := by omega
                      have k1 : (k : Int) < 8 := by omega
                      by_cases hT0 : T < 0
                      · have hg1 : decide (T ≥ 0) = false := by simp; omega
                        have hok2 : ∀ i, i < k + 1 → ∀ t : Nat, T = t → okW M (msk xss t) i := fun i hi t ht => by omega
                        replace hok2 := Lib.hid hok2
                        replace hT0 := Lib.hid hT0
                        go_wp2_with fail
                        go_quiet (fail)
                        go_wp2_with fail
                        clear hw1
                        go_roundw
                        case measure => first | (simp [intOf]; done) | (simp [intOf]; omega)
                        case rel => first | exact ⟨k + 1, by omega, rfl, hok2, below_dn hf9 _⟩ | ((repeat (apply Exists.intro)); exact ⟨⟨k + 1, by omega, rfl, hok2, below_dn hf9 _⟩, rfl⟩)
                      · have hg1 : decide (T ≥ 0) = true := by simp; omega
                        obtain ⟨t, rfl⟩ : ∃ t : Nat, T = t := ⟨T.toNat, by omega⟩
                        have hte : t < e := by
                          rcases topW_spec M 8 with ⟨h1, _⟩ | ⟨t', h1, h2, h3, h4⟩
                          · have := hT.out; omega
                          · obtain rfl : t = t' := by have := hT.out; omega
                            have := cmn_le hD.out ((hbit.out t).1 h3)
                            omega
                        have t0 : (0 : Int) ≤ (t : Int) := by omega
                        have t1 : (t : Int) < (e : Int) := by omega
                        have cc : wr.cell? ⟨g4, k, none⟩ = some (.int .u64 (wd M k : Nat)) := (hf9.cell (p := ⟨g4, k, none⟩) (by first | (simp; done) | (simp; omega))).trans (by rw [cell_of_row _ _ _ _ _ _ hp.out, cmA_get hk, if_pos hk])
                        have ct := (hfa.cell (p := ⟨w.heap.size + 1, t * 8 + k, none⟩) (by first | (simp; done) | (simp; omega))).trans ((hbb.cell (p := ⟨w.heap.size + 1, t * 8 + k, none⟩) (by first | (simp; done) | (simp; omega))).trans ((hown.cellAt (t * 8 + k) (by omega)).trans (wds_get (msk xss) hte hk)))
                        have han2 : bits BinOp.andNot IntKind.u64 ((wd M k : Nat) : Int) ((wd (msk xss t) k : Nat) : Int) = ((wd M k &&& (18446744073709551615 - wd (msk xss t) k) : Nat) : Int) := u64_andNot_nat _ _ (wd_lt _ _) (wd_lt _ _)
                        obtain ⟨v, hv⟩ : ∃ v, wd M k &&& (18446744073709551615 - wd (msk xss t) k) = v := ⟨_, rfl⟩
                        rw [hv] at han2
                        by_cases hv0 : v = 0
                        · have hv1 : ((v : Int) != 0) = false := by simpa using hv0
                          have hok2 : ∀ i, i < k + 1 → ∀ t' : Nat, (t : Int) = t' → okW M (msk xss t') i := fun i hi t' ht => by
                            by_cases q : i = k
                            · subst q
                              obtain rfl : t = t' := by omega
                              exact hv.trans hv0
                            · exact hok.out i (by omega) t' ht
                          replace hok2 := Lib.hid hok2
                          replace hv := Lib.hid hv
                          replace hv0 := Lib.hid hv0
                          go_wp2_with fail
                          go_quiet (fail)
                          go_wp2_with fail
                          clear hw1
                          go_roundw
                          case measure => first | (simp [intOf]; done) | (simp [intOf]; omega)
                          case rel => first | exact ⟨k + 1, by omega, rfl, hok2, below_dn hf9 _⟩ | ((repeat (apply Exists.intro)); exact ⟨⟨k + 1, by omega, rfl, hok2, below_dn hf9 _⟩, rfl⟩)
                        · have hv1 : ((v : Int) != 0) = true := by simp; omega
                          have hF : meetB xss = false := meetB_not hba (by rw [hl.out]; exact han) (fun hM2 => hv0 (hv.symm.trans (hMt.out.1 hM2 t hT.out.symm k hk)))
                          replace hF := Lib.hid hF
                          replace hv := Lib.hid hv
                          replace hv0 := Lib.hid hv0
                          go_wp2_with fail
                          go_quiet (fail)
                          go_wp2_with fail
                          go_ret
                          exact ⟨ret_bool hF.out.symm, hB.trans ((hb.trans ((below_then hbb (below_dn hfa _) (by omega)).mono (by omega))).mono (by omega))⟩
                    · have hkk : k = 8 := by omega
                      subst hkk
                      have hMt2 : Mt xss a b := hMt.out.2 (fun t ht i hi => hok.out i hi t (hT.out.trans ht))
                      have hpb2 : ∀ f2, f2 < b + 1 → Mt xss a f2 := fun f2 h2 => by
                        by_cases q : f2 = b
                        · subst q; exact hMt2
                        · exact hpb.out f2 (by omega)
                      have hw2 : IntKind.i64.wrap ((b : Int) + 1) = ((b + 1 : Nat) : Int) := by rw [IntKind.wrap_i64]; omega
                      have hbz := below_then hbb hfa (by omega)
                      replace hpb2 := Lib.hid hpb2
                      clear hMt2 hw1
                      go_wp2_with fail
                      clear hw2
                      go_roundw
                      case measure => first | (simp [intOf]; done) | (simp [intOf]; omega)
                      case rel => first | exact ⟨b + 1, by omega, rfl, hpb2, hbz⟩ | ((repeat (apply Exists.intro)); exact ⟨⟨b + 1, by omega, rfl, hpb2, hbz⟩, rfl⟩)
            · have hbe : b = a := by omega
              have hpa2 : ∀ e2 f2, f2 < e2 → e2 < a + 1 → Mt xss e2 f2 := fun e2 f2 h1 h2 => by
                by_cases q : e2 = a
                · subst q; exact hpb.out f2 (by omega)
                · exact hpa.out e2 f2 h1 (by omega)
              have hw1 : IntKind.i64.wrap ((a : Int) + 1) = ((a + 1 : Nat) : Int) := by rw [IntKind.wrap_i64]; omega
              replace hpa2 := Lib.hid hpa2
              replace hbe := Lib.hid hbe
              go_wp2_with fail
              clear hw1
              go_roundw
              case measure => first | (simp [intOf]; done) | (simp [intOf]; omega)
              case rel => first | exact ⟨a + 1, by omega, rfl, hpa2, hbb⟩ | ((repeat (apply Exists.intro)); exact ⟨⟨a + 1, by omega, rfl, hpa2, hbb⟩, rfl⟩)
        · have hae : a = e := by omega
          have hF : meetB xss = true := meetB_iff.2 (fun e2 f2 h1 h2 => hpa.out e2 f2 h1 (by rw [hl.out] at h2; omega))
          replace hF := Lib.hid hF
          replace hae := Lib.hid hae
          go_wp2_with fail
          go_ret
          exact ⟨ret_bool hF.out.symm, hB.trans ((hb.trans (hba.mono (by omega))).mono (by omega))⟩
end Go.Proofs.Ytbioelmofceaaaa
