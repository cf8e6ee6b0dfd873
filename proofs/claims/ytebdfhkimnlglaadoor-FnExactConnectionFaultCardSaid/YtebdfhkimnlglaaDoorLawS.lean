/- The laws' helpers at [][]int64: sizes, copies, comparison, marks and their check. Up to 2^20 numbers and rows together (copies), 2^62 (marks). -/
import Derived.Test.YtebdfhkimnlglaaDoorLawI
import Derived.Test.YtebdfhkimnlglaaDoorSls
import Derived.Test.YtebdfhkimnlglaaDoorPlain
namespace Go.Proofs.YtebdfhkimnlglaaDoor
open Go.RowKit
set_option linter.unusedVariables false
set_option maxRecDepth 100000

/-- rows and numbers together -/
def numsIn : List (List Int) → Nat
  | [] => 0
  | r :: t => r.length + numsIn t
theorem numsIn_append (a b : List (List Int)) : numsIn (a ++ b) = numsIn a + numsIn b := by
  induction a with
  | nil => simp [numsIn]
  | cons r t ih => simp [numsIn, ih]; omega
theorem numsIn_take_succ {xss : List (List Int)} {k : Nat} {r : List Int} (h : xss[k]? = some r) : numsIn (xss.take (k + 1)) = numsIn (xss.take k) + r.length := by
  rw [take_succ_of h, numsIn_append]; simp [numsIn]
theorem numsIn_take_le (xss : List (List Int)) (k : Nat) : numsIn (xss.take k) ≤ numsIn xss := by
  have := numsIn_append (xss.take k) (xss.drop k)
  rw [List.take_append_drop] at this
  omega
theorem numsIn_mem_le {xss : List (List Int)} {k : Nat} {r : List Int} (h : xss[k]? = some r) : r.length ≤ numsIn xss := by
  have := numsIn_take_le xss (k + 1)
  rw [numsIn_take_succ h] at this
  omega
/-- what is left of a bound, or -1 -/
def leftOf (left need : Nat) : Int := if need ≤ left then (left : Int) - need else -1

theorem infoSS : (Tryd.prog.info? 22).map (fun i => (i.zero, i.size, i.bytes)) = some (some (.slice none 0 0), 1, 24) := by kernel_rfl
set_option maxHeartbeats 400000 in
theorem szI_any (A : Option Addr) (n c left : Nat) (w : World) (hn : n ≤ 9223372036854775807) (hl : left ≤ 1048576) :
    Calls Tryd.prog 13 #[.slice A n c, .int .i64 left] w fun e w' => e = .returned (.int .i64 (leftOf left n)) ∧ w = w' := by
  by_cases h : n ≤ left
  · go_enter Tryd.func13, Tryd.ntmps13
    go_wp2_with fail
    go_ret
    exact ⟨ret_int (by simp [leftOf, h]), rfl⟩
  · go_enter Tryd.func13, Tryd.ntmps13
    go_wp2_with fail
    go_ret
    refine ⟨ret_int ?_, rfl⟩
    unfold leftOf
    rw [if_neg h]
set_option maxHeartbeats 400000 in
theorem szS_any (A : Option Addr) (n c left : Nat) (xss : List (List Int)) (w : World) {lo hi : Nat} (h : RS w lo hi A n xss) (hl : left ≤ 1048576) :
    Calls Tryd.prog 14 #[.slice A n c, .int .i64 left] w fun e w' => e = .returned (.int .i64 (leftOf left (n + numsIn xss))) ∧ w = w' := by
  have hm := h.max
  by_cases h0 : n ≤ left
  · go_enter Tryd.func14, Tryd.ntmps14
    go_wp2_with fail
    go_loop [1, 5] (fun lv iv => ∃ (k m : Nat), k ≤ n ∧ iv = .int .i64 k ∧ lv = .int .i64 m ∧ Hid (m + n + numsIn (xss.take k) = left) ∧ m ≤ left) (fun _ i => n - (intOf i).toNat)
    case atStart => exact ⟨0, left - n, by omega, rfl, by go_num, Lib.hid (by simp [numsIn]; omega), by omega⟩
    case round =>
      obtain ⟨k, m, hk, rfl, rfl, hs, hml⟩ := hrel
      by_cases hlt : k < n
      · obtain ⟨b, o, Ak, nk, ck, ys, rfl, _, _, hys, hcell, hrow⟩ := h.at_ hlt
        have hyl := hrow.len
        have hnm := hrow.max
        have hnx := numsIn_take_succ hys
        have hle := numsIn_take_le xss (k + 1)
        rw [hyl] at hnx
        by_cases hfit : nk ≤ m
        · have hlo : leftOf m nk = ((m - nk : Nat) : Int) := by unfold leftOf; rw [if_pos hfit]; omega
          replace hlo := Lib.hid hlo
          replace hys := Lib.hid hys
          replace hyl := Lib.hid hyl
          replace hnx := Lib.hid hnx
          go_wp2_with fail
          ((with_reducible refine (szI_any _ _ _ _ _ hnm (by omega)).mono ?_); rintro e w' ⟨rfl, rfl⟩)
          rw [hlo.out]
          go_wp2_with fail
          go_round
          case rel => exact ⟨k + 1, m - nk, by omega, by go_num, rfl, Lib.hid (by have := hs.out; have := hnx.out; omega), by omega⟩
          case measure => simp [intOf]; omega
        · have hlo : leftOf m nk = -1 := by unfold leftOf; rw [if_neg hfit]
          replace hlo := Lib.hid hlo
          replace hys := Lib.hid hys
          replace hyl := Lib.hid hyl
          replace hnx := Lib.hid hnx
          go_wp2_with fail
          ((with_reducible refine (szI_any _ _ _ _ _ hnm (by omega)).mono ?_); rintro e w' ⟨rfl, rfl⟩)
          rw [hlo.out]
          go_wp2_with fail
          go_ret
          refine ⟨ret_int ?_, rfl⟩
          unfold leftOf
          have := hs.out; have := hnx.out
          rw [if_neg (by omega)]
      · go_wp2_with fail
        go_ret
        have hkn : k = n := by omega
        subst hkn
        refine ⟨ret_int ?_, rfl⟩
        have hs := hs.out
        rw [List.take_of_length_le (by have := h.len; omega)] at hs
        unfold leftOf
        rw [if_pos (by omega)]
        omega
  · go_enter Tryd.func14, Tryd.ntmps14
    go_wp2_with fail
    go_ret
    refine ⟨ret_int ?_, rfl⟩
    unfold leftOf
    rw [if_neg (by omega)]
theorem szS0_any (A : Option Addr) (n c : Nat) (xss : List (List Int)) (w : World) {lo hi : Nat} (h : RS w lo hi A n xss) :
    Calls Tryd.prog 14 #[.slice A n c, .int .i64 1048576] w fun e w' => e = .returned (.int .i64 (leftOf 1048576 (n + numsIn xss))) ∧ w = w' :=
  szS_any A n c 1048576 xss w h (Nat.le_refl _)
theorem set_after {α : Type} (vs : List α) (z v : α) (m : Nat) (hm : 0 < m) : (vs ++ List.replicate m z).set vs.length v = (vs ++ [v]) ++ List.replicate (m - 1) z := by
  obtain ⟨m, rfl⟩ : ∃ k, m = k + 1 := ⟨m - 1, by omega⟩
  rw [List.set_append_right _ _ (Nat.le_refl _)]
  simp [List.replicate_succ]
set_option maxHeartbeats 1000000 in
theorem toS_any (A : Option Addr) (n c : Nat) (xss : List (List Int)) (w : World) {lo hi : Nat} (h : RS w lo hi A n xss) (hhi : hi ≤ w.heap.size) (hn : n + numsIn xss ≤ 1048576) :
    Calls Tryd.prog 18 #[.slice A n c] w fun e w' => ∃ A', e = .returned (.slice A' n n) ∧ OwnS w' w.heap.size w'.heap.size 22 2 A' n n xss ∧ Below w.heap.size w w' := by
  obtain ⟨i0, hi0, hz0, hz1, hz2⟩ := info_parts infoSS
  have hm := h.max
  have hl := Lib.hid h.len
  go_enter Tryd.func18, Tryd.ntmps18
  go_wp2_with (at_make; refine wpList_make_full _ rfl _ _ 23 rfl w.heap.size 22 i0 (.slice none 0 0) 1 Tryd.underlying23 hi0 hz0 hz1 _ _ _ _ n rfl rfl rfl rfl ?c1 ?c2 (Nat.le_refl _) ?_)
  case c1 => rw [hz2]; omega
  case c2 => simp only [maxLen]; omega
  intro w1 hown hg
  have hb1 : Below w.heap.size w w1 := below_of_grown hg (Nat.le_refl _) (by simp)
  have hs1 : w.heap.size + 1 ≤ w1.heap.size := (hown.lt _ rfl).2
  go_wp2_with fail
  go_loopw [4] (fun i wr => ∃ (vs : List Value), vs.length ≤ n ∧ i = .int .i64 vs.length ∧ wr.ownsRow w.heap.size 22 1 (.slice (some ⟨w.heap.size, 0, none⟩) n n) n (vs ++ List.replicate (n - vs.length) (.slice none 0 0)) ∧ RowsOwn wr (w.heap.size + 1) wr.heap.size 2 vs (xss.take vs.length) ∧ w.heap.size + 1 ≤ wr.heap.size ∧ Below w.heap.size w wr) (fun i wr => n - (intOf i).toNat)
  case atStart =>
    refine ⟨[], by simp, rfl, ?_, by simpa using RowsOwn.nil, hs1, hb1⟩
    simpa [toList_madeCells_one, Value.cells] using hown
  case round =>
    obtain ⟨vs, hk, rfl, ho, hr, hsz, hb⟩ := hrel
    by_cases hlt : vs.length < n
    · obtain ⟨b, o, Ak, nk, ck, ys, rfl, _, hbhi, hys, hcell, hrow⟩ := (h.below hb hhi).at_ hlt
      have hyl := hrow.len
      have hle := numsIn_mem_le hys
      rw [hyl] at hle
      have hcz : wr.cell? ⟨w.heap.size, vs.length, none⟩ = some (.slice none 0 0) := by
        rw [ho.cellAt vs.length (by omega), List.getElem?_append_right (Nat.le_refl _)]
        rw [Nat.sub_self, List.getElem?_replicate, if_pos (by omega)]
      have hfr := ho.frozenAt vs.length
      replace hys := Lib.hid hys
      replace hyl := Lib.hid hyl
      go_wp2_with fail
      ((with_reducible refine (toI_any _ _ _ ys _ _ _ hrow (by omega) (by omega)).mono ?_); rintro e w2 ⟨A2, rfl, ho2, hb2⟩)
      have hs2 := hb2.size
      have hcz2 : w2.cell? ⟨w.heap.size, vs.length, none⟩ = some (.slice none 0 0) := (hb2.cell (p := ⟨w.heap.size, vs.length, none⟩) (by simp; omega)).trans hcz
      have hfr2 : w2.frozen? ⟨w.heap.size, vs.length, none⟩ = false := (hb2.frozen (p := ⟨w.heap.size, vs.length, none⟩) (by simp; omega)).trans hfr
      clear hcz hfr hcell
      have hh2 : w2.ownsRow w.heap.size 22 1 (.slice (some ⟨w.heap.size, 0, none⟩) n n) n (vs ++ List.replicate (n - vs.length) (.slice none 0 0)) := ((Own.of_row ho).below hb2 (Nat.le_refl _)).1
      go_wp2_with fail
      go_roundw
      case rel =>
        refine ⟨vs ++ [.slice A2 nk nk], by simp; omega, by simp, ?_, ?_, by simp; omega, ((hb.trans (hb2.mono (by omega))).setCell (by simp) _)⟩
        · have e := (hh2.stored vs.length (.slice A2 nk nk)).1
          rw [set_after _ _ _ _ (by omega)] at e
          simpa [Nat.sub_sub] using e
        · have hr2 := (hr.keep (Same.of_below hb2 (Nat.le_refl _))).snoc ho2 (by omega) hs2
          rw [List.length_append, List.length_singleton, take_succ_of hys.out, World.size_setCell]
          exact hr2.keep (same_set _ _ _ _ _ (by simp))
      case measure => simp [intOf]; omega
    · go_wp2_with fail
      go_ret
      have hkn : vs.length = n := by omega
      refine ⟨_, rfl, ⟨vs, ?_, ?_⟩, hb⟩
      · have ho' := ho
        rw [show n - vs.length = 0 by omega, List.replicate_zero, List.append_nil] at ho'
        exact Own.of_row ho'
      · rw [List.take_of_length_le (by have := hl.out; omega)] at hr
        exact hr.more (by omega) (Nat.le_refl _)
set_option maxHeartbeats 1000000 in
theorem eqS_any (A : Option Addr) (n c : Nat) (xss : List (List Int)) (A' : Option Addr) (n' c' : Nat) (yss : List (List Int)) (w : World) {lo hi lo' hi' : Nat} (h : RS w lo hi A n xss) (h' : RS w lo' hi' A' n' yss) (hhi : hi ≤ w.heap.size) (hhi' : hi' ≤ w.heap.size) :
    Calls Tryd.prog 21 #[.slice A n c, .slice A' n' c'] w fun e w' => e = .returned (.bool (decide (xss = yss))) ∧ Below w.heap.size w w' := by
  have hm := h.max
  have hm' := h'.max
  have hl := Lib.hid h.len
  have hl' := Lib.hid h'.len
  by_cases hne : n = n'
  · subst hne
    go_enter Tryd.func21, Tryd.ntmps21
    go_wp2_with fail
    go_loopw [5] (fun i wr => ∃ k : Nat, k ≤ n ∧ i = .int .i64 k ∧ Hid (∀ j, j < k → xss[j]? = yss[j]?) ∧ Below w.heap.size w wr) (fun i wr => n - (intOf i).toNat)
    case atStart => exact ⟨0, by omega, rfl, Lib.hid (fun j hj => absurd hj (by omega)), Below.refl _ _⟩
    case round =>
      obtain ⟨k, hk, rfl, hys, hb⟩ := hrel
      by_cases hlt : k < n
      · obtain ⟨b, o, A1, n1, c1, x, rfl, _, _, hx, hc, hrx⟩ := (h.below hb hhi).at_ hlt
        obtain ⟨b', o', A2, n2, c2, y, rfl, _, _, hy, hc', hry⟩ := (h'.below hb hhi').at_ hlt
        have hbs := hb.size
        replace hx := Lib.hid hx
        replace hy := Lib.hid hy
        by_cases hxy : x = y
        · have hd : decide (x = y) = true := decide_eq_true hxy
          go_wp2_with fail
          go_quiet ((go_at_call 8; exact Calls.quiet_of (eqI_q _ _ _ x _ _ _ y _ lo hi lo' hi' hrx hry (by simp; omega) (by simp; omega))))
          go_wp2_with fail
          go_roundw
          case rel =>
            refine ⟨k + 1, by omega, by go_num, Lib.hid (fun j hj => ?_), below_drewN hb _⟩
            by_cases e : j = k
            · subst e; rw [hx.out, hy.out, hxy]
            · exact hys.out j (by omega)
          case measure => simp [intOf]; omega
        · have hd : decide (x = y) = false := decide_eq_false hxy
          go_wp2_with fail
          go_quiet ((go_at_call 8; exact Calls.quiet_of (eqI_q _ _ _ x _ _ _ y _ lo hi lo' hi' hrx hry (by simp; omega) (by simp; omega))))
          go_wp2_with fail
          go_ret
          refine ⟨ret_bool ?_, below_drewN hb _⟩
          symm
          apply decide_eq_false
          rintro rfl
          have := hx.out.symm.trans hy.out
          exact hxy (Option.some.inj this)
      · go_wp2_with fail
        go_ret
        refine ⟨ret_bool ?_, hb⟩
        have hl := hl.out
        have hl' := hl'.out
        symm
        apply decide_eq_true
        exact list_ext_upto k (by omega) (by omega) hys.out
  · have hne' : ((n : Int) != (n' : Int)) = true := by simp; omega
    go_enter Tryd.func21, Tryd.ntmps21
    go_wp2_with fail
    go_ret
    refine ⟨ret_bool ?_, Below.refl _ _⟩
    have hl := hl.out
    have hl' := hl'.out
    symm
    apply decide_eq_false
    rintro rfl
    omega
/-- the marks of rows, numbered through -/
def mkSS (k : Int) : List (List Int) → List (List Int)
  | [] => []
  | r :: t => mkI k r.length :: mkSS (k + r.length) t
theorem mkSS_len (k : Int) (xss : List (List Int)) : (mkSS k xss).length = xss.length := by
  induction xss generalizing k with
  | nil => rfl
  | cons r t ih => simp [mkSS, ih]
theorem mkSS_get {xss : List (List Int)} : ∀ {k : Int} {i : Nat} {r : List Int}, xss[i]? = some r → (mkSS k xss)[i]? = some (mkI (k + numsIn (xss.take i)) r.length) := by
  induction xss with
  | nil => intro k i r h; simp at h
  | cons q t ih =>
    intro k i r h
    cases i with
    | zero => simp at h; subst h; simp [mkSS, numsIn]
    | succ i =>
      simp at h
      simp only [mkSS, List.getElem?_cons_succ, List.take_succ_cons, numsIn]
      rw [ih h]
      congr 2
      push_cast
      omega
set_option maxHeartbeats 1000000 in
theorem markS_any (A : Option Addr) (n c : Nat) (xss : List (List Int)) (k0 : Int) (w : World) (lo hi : Nat) (h : OwnS w lo hi 22 2 A n c xss) (hhi : hi ≤ w.heap.size) (h0 : 0 ≤ k0) (h1 : k0 + numsIn xss ≤ 4611686018427387904) :
    Calls Tryd.prog 22 #[.slice A n c, .int .i64 k0] w fun e w' => e = .returned (.int .i64 (k0 + numsIn xss)) ∧ OwnS w' lo hi 22 2 A n c (mkSS k0 xss) ∧ Chg lo hi w w' := by
  have hl := h.len
  have hm := h.rs.max
  obtain ⟨vs, hh, hr⟩ := h
  have hvl : vs.length = n := hh.len
  replace hl := Lib.hid hl
  replace hvl := Lib.hid hvl
  go_enter Tryd.func22, Tryd.ntmps22
  go_wp2_with fail
  go_loopw [1, 5] (fun kk i wr => ∃ (k q : Nat) (zss : List (List Int)), k ≤ n ∧ i = .int .i64 k ∧ kk = .int .i64 (k0 + q) ∧ Hid (q = numsIn (xss.take k)) ∧ Hid (∀ j, zss[j]? = if j < k then (mkSS k0 xss)[j]? else xss[j]?) ∧ Own wr lo hi 22 A n c vs ∧ RowsOwn wr lo hi 2 vs zss ∧ w.heap.size ≤ wr.heap.size ∧ Chg lo hi w wr) (fun _ i wr => n - (intOf i).toNat)
  case atStart => exact ⟨0, 0, xss, by omega, rfl, by simp, Lib.hid (by simp [numsIn]), Lib.hid (fun j => by simp), hh, hr, Nat.le_refl _, Chg.refl _ _ _⟩
  case round =>
    obtain ⟨k, q, zss, hk, rfl, rfl, hq, hz, hh, hr, hsz, hb⟩ := hrel
    by_cases hlt : k < n
    · obtain ⟨b, v, rfl, hb1, hb2, hb3, hx, -, hc, hfr⟩ := hh.at_ hlt
      clear hfr
      have hxs : xss[k]? = some (xss.getD k []) := by
        have hl := hl.out
        simp [List.getD, show k < xss.length by omega]
      have hzk := hz.out k
      rw [if_neg (by omega), hxs] at hzk
      obtain ⟨Ak, nk, ck, rfl, ho⟩ := hr.2.2 k v _ hx hzk
      have hnk := ho.ri.len
      have hnx := numsIn_take_succ hxs
      have hle := numsIn_take_le xss (k + 1)
      rw [hnk] at hnx
      have hq' := hq.out
      have hbound : k0 + (q : Int) + (nk : Int) ≤ 4611686018427387904 := by omega
      clear hq'
      have hmk := mkSS_get (k := k0) hxs
      rw [hnk] at hmk
      generalize xss.getD k [] = r at *
      replace hxs := Lib.hid hxs
      replace hzk := Lib.hid hzk
      replace hx := Lib.hid hx
      replace hnk := Lib.hid hnk
      replace hnx := Lib.hid hnx
      replace hmk := Lib.hid hmk
      go_wp2_with fail
      ((with_reducible refine (markI_g _ _ _ r _ _ lo hi ho (by omega) (by omega) (by omega)).mono ?_); rintro e w2 ⟨rfl, ho2, hg2⟩)
      have hh2 := hh.kept_ty ho.1 (by decide) hg2
      have hr2 := hr.upd hx.out ho2 hg2
      have hgs := hg2.size
      go_wp2_with fail
      go_roundw
      case rel =>
        refine ⟨k + 1, q + nk, zss.set k (mkI (k0 + q) nk), by omega, by go_num, by go_num, Lib.hid (by rw [hnx.out, hq.out]), Lib.hid (fun j => ?_), hh2, hr2, by omega, hb.trans (Chg.of_grown hg2 (fun g hg => ⟨(ho.1.lt g hg).1, ?_⟩)) ⟨Nat.le_refl _, Nat.le_refl _⟩ ⟨Nat.le_refl _, Nat.le_refl _⟩⟩
        · rw [List.getElem?_set]
          by_cases e : k = j
          · subst e
            have := (List.getElem?_eq_some_iff.1 hzk.out).1
            rw [if_pos rfl, if_pos this, if_pos (by omega), hmk.out, hq.out]
          · rw [if_neg e, hz.out j]
            by_cases e2 : j < k
            · rw [if_pos e2, if_pos (by omega)]
            · rw [if_neg e2, if_neg (by omega)]
        · rcases Ak with _ | ad
          · simp [Value.ownBlock] at hg
          · have := ho.2 ad rfl; simp [Value.ownBlock] at hg; omega
      case measure => simp [intOf]; omega
    · go_wp2_with fail
      go_ret
      have hkn : k = n := by omega
      subst hkn
      have hq := hq.out
      rw [List.take_of_length_le (by have := hl.out; omega)] at hq
      have e : zss = mkSS k0 xss := list_ext_upto k (by have := hr.1; have := hvl.out; omega) (by rw [mkSS_len]; have := hl.out; omega) fun j hj => by rw [hz.out j, if_pos hj]
      exact ⟨ret_int (by rw [hq]), ⟨vs, hh, e ▸ hr⟩, hb⟩
end Go.Proofs.YtebdfhkimnlglaaDoor
