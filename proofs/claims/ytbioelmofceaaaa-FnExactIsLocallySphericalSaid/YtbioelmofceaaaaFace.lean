/- Walks: the faces of a rank: the orbits of all moves but one, the program's and the reference's. Up to 400 flags. -/
import Derived.Test.YtbioelmofceaaaaRun
import Derived.Test.YtbioelmofceaaaaOrbN
import Derived.Deep.RegionLaw
import Derived.Lib.SliceRun
namespace Go.Proofs.Ytbioelmofceaaaa
open Go.RowKit
set_option linter.unusedVariables false
set_option maxRecDepth 100000
theorem sysOf_erase {xss : List (List Int)} {n : Nat} (h : SysOf xss n) (i : Nat) : SysOf (xss.eraseIdx i) n := fun p hp => h p (List.mem_of_mem_eraseIdx hp)
theorem rowsAt_erase {w : World} {lo hi : Nat} {vs : List Value} {xss : List (List Int)} (h : RowsAt w lo hi vs xss) (i : Nat) : RowsAt w lo hi (vs.eraseIdx i) (xss.eraseIdx i) := by
  refine ⟨by rw [List.length_eraseIdx, List.length_eraseIdx, h.1], fun k v xs h1 h2 => ?_⟩
  rw [List.getElem?_eraseIdx] at h1 h2
  by_cases hk : k < i
  · rw [if_pos hk] at h1 h2; exact h.2 k v xs h1 h2
  · rw [if_neg hk] at h1 h2; exact h.2 (k + 1) v xs h1 h2
theorem rowsAt_one {w : World} {lo hi : Nat} {vs : List Value} {xss : List (List Int)} (h : RowsAt w lo hi vs xss) : ∀ v ∈ vs, v.oneCell' = true := by
  intro v hv
  obtain ⟨k, hk⟩ := List.mem_iff_getElem?.1 hv
  have hlt := (List.getElem?_eq_some_iff.1 hk).1
  obtain ⟨A, n, c, rfl, _⟩ := h.2 k v _ hk (List.getElem?_eq_getElem (by have := h.1; omega))
  rfl
theorem rowsAt_snoc {w : World} {lo hi n c : Nat} {A : Option Addr} {vs : List Value} {xss : List (List Int)} {xs : List Int} (h : RowsAt w lo hi vs xss) (hr : RI w lo hi A n xs) : RowsAt w lo hi (vs ++ [.slice A n c]) (xss ++ [xs]) := by
  refine ⟨by simp [h.1], fun k v ys h1 h2 => ?_⟩
  by_cases hk : k < vs.length
  · rw [List.getElem?_append_left hk] at h1
    rw [List.getElem?_append_left (by have := h.1; omega)] at h2
    exact h.2 k v ys h1 h2
  · have hk2 := (List.getElem?_eq_some_iff.1 h1).1
    simp at hk2
    have e : k = vs.length := by omega
    subst e
    rw [List.getElem?_append_right (Nat.le_refl _)] at h1
    rw [List.getElem?_append_right (by have := h.1; omega)] at h2
    have hl := h.1
    simp at h1
    simp [hl] at h2
    subst h1; subst h2
    exact ⟨A, n, c, rfl, hr⟩
theorem below_cells {B b : Nat} {a : World} (hb : B ≤ b) : ∀ (vs : List Value) (o : Nat) (w : World), Below B a w → Below B a (w.setCells b o vs) := by
  intro vs
  induction vs with
  | nil => intro o w h; exact h
  | cons v t ih => intro o w h; exact ih _ _ (h.setCell (p := ⟨b, o, none⟩) hb v)
theorem cloneSS_any (A : Option Addr) (n c : Nat) (vs : List Value) (w : World) {lo hi : Nat} (h : Rd w lo hi A n vs) (hhi : hi ≤ w.heap.size) (h1 : ∀ v ∈ vs, v.oneCell' = true) (hn : 0 < n) (hn2 : n ≤ 1048576) :
    Calls Try.prog 127 #[.slice A n c] w fun e w' => ∃ (A1 : Option Addr) (c1 : Nat), e = .returned (.slice A1 n c1) ∧ Own w' w.heap.size w'.heap.size 22 A1 n c1 vs ∧ Below w.heap.size w w' := by
  obtain ⟨s0, hs0, hu0, hu1, hu2⟩ := info_parts infoS
  obtain ⟨b, o, v0, rfl, _, _, _, _⟩ := h.at_ hn
  have h0 := World.ownsRow_lit (e := 22) (base := w.heap.size) (size := 1) w #[] 0 (Nat.le_refl _) (by omega) rfl
  have hr := h.keep (same_alloc w (.cells #[] 22) lo hi hhi)
  have heq : ∀ w' : World, (binOp .eql 23 (.slice (some ⟨b, o, none⟩) n c) (.slice none 0 0)).run Try.prog w' = .ok (.bool false) w' := fun w' => Lib.run_eql_slice_nil w' _ _ _ _ _ _ _ Try.underlying23
  replace h1 := Lib.hid h1
  go_enter Try.func127, Try.ntmps127
  go_wp2_with (at_builtin; refine wpList_appendL (w.alloc (.cells #[] 22)) rfl (.tmp 5) (.tmp 6) 23 rfl w.heap.size 22 s0 (.slice none 0 0) 24 Try.underlying23 hs0 hu0 hu1 hu2 rfl (by omega) _ 0 0 [] rfl h0 _ n c vs lo hi rfl hr h1.out (by omega) (by simp) ?_)
  intro A2 c2 w2 ho hg hor
  have hb : Below w.heap.size w w2 := ((Below.refl _ _).alloc (Nat.le_refl _) _).grown hg (by simp) (fun q hq => by have := (h0.lt q hq).1; omega)
  go_wp2_with fail
  go_ret
  exact ⟨A2, c2, rfl, Own.of_row ho, hb⟩
theorem zeroS (w : World) : (zeroValue 22).run Try.prog w = .ok (.slice none 0 0) w := Try.zeroValue22 w
set_option maxHeartbeats 4000000 in
theorem deleteSS_any (g n c i j : Nat) (hij : j = i + 1) (vs : List Value) (w : World) {lo hi : Nat} (ho : Own w lo hi 22 (some ⟨g, 0, none⟩) n c vs) (h1 : ∀ v ∈ vs, v.oneCell' = true) (hi0 : i < n) (hn2 : n ≤ 1048576) :
    Calls Try.prog 126 #[.slice (some ⟨g, 0, none⟩) n c, .int .i64 i, .int .i64 j] w fun e w' => e = .returned (.slice (some ⟨g, 0, none⟩) (n - 1) c) ∧ Rd w' lo hi (some ⟨g, 0, none⟩) (n - 1) (vs.eraseIdx i) ∧ Below lo w w' := by
  obtain ⟨s0, hs0, hu0, hu1, hu2⟩ := info_parts infoS
  have hcap := ho.cap
  have hvl := ho.len
  have hlo : lo ≤ g ∧ g < hi ∧ g < w.heap.size := by
    obtain ⟨b, v, e, q1, q2, q3, _⟩ := ho.at_ hi0
    injection e with e; injection e with e _ _; subst e
    exact ⟨q1, q2, q3⟩
  have hcm : c ≤ 9223372036854775807 := by
    rcases ho.1.2 with ⟨hv, _⟩ | ⟨g', cap, cur, hv, _, _, _, hcm, _⟩
    · cases hv
    · injection hv with _ _ e3
      subst e3
      simp only [maxLen] at hcm
      omega
  have hcell : ∀ k, k < n → w.cell? ⟨g, k, none⟩ = vs[k]? := fun k hk => ho.1.cellAt k (by omega)
  have hfrz : ∀ k, w.frozen? ⟨g, k, none⟩ = false := fun k => ho.frz k
  obtain ⟨k, rfl⟩ : ∃ k, n = j + k := ⟨n - j, by omega⟩
  obtain ⟨news, hnews⟩ : ∃ news, news = vs.drop j := ⟨_, rfl⟩
  have hlen : news.length = k := by rw [hnews]; simp; omega
  have hget : ∀ t, t < k → news[t]? = vs[j + t]? := by intro t ht; rw [hnews, List.getElem?_drop]
  obtain ⟨A, hA, hsrc⟩ : ∃ A : Addr, (if c = j then some (⟨g, 0, none⟩ : Addr) else some ⟨g, j, none⟩) = some A ∧ Hid (∀ t u, news[t]? = some u → w.drew.cell? (A.add t) = some u) := by
    by_cases h : c = j
    · refine ⟨⟨g, 0, none⟩, by simp [h], Lib.hid fun t u hu => ?_⟩
      have h0 : news.length = 0 := by rw [hlen]; omega
      rw [List.length_eq_zero_iff.1 h0] at hu
      simp at hu
    · refine ⟨⟨g, j, none⟩, by simp [h], Lib.hid fun t u hu => ?_⟩
      have ht : t < k := by have := (List.getElem?_eq_some_iff.1 hu).1; omega
      rw [hget t ht] at hu
      rw [Addr.add_lit]
      exact (hcell (j + t) (by omega)).trans hu
  have s1 : Hid (news.length = k * 1) := Lib.hid (by rw [Nat.mul_one]; exact hlen)
  have s2 : Hid (∀ u ∈ news, u.oneCell' = true) := Lib.hid (by intro u hu; rw [hnews] at hu; exact h1 u (List.mem_of_mem_drop hu))
  have hsome : ∀ t, t < j + k → (w.cell? ⟨g, t, none⟩).isSome = true := fun t ht => by rw [hcell t ht, List.getElem?_eq_getElem (by omega)]; rfl
  have s3 : Hid (∀ t, t < news.length → (w.drew.cell? ⟨g, 0 + i * 1 + t, none⟩).isSome = true ∧ w.drew.frozen? ⟨g, 0 + i * 1 + t, none⟩ = false) := Lib.hid (by
    intro t ht
    rw [hlen] at ht
    rw [Nat.mul_one, Nat.zero_add]
    exact ⟨hsome (i + t) (by omega), hfrz _⟩)
  obtain ⟨W1, hW1⟩ : ∃ W1, W1 = w.drew.setCells g (0 + i * 1) news := ⟨_, rfl⟩
  have hW : Hid (W1 = w.drew.setCells g (0 + i * 1) news) := Lib.hid hW1
  have hsome1 : ∀ t, t < j + k → (W1.cell? ⟨g, t, none⟩).isSome = true := fun t ht => by rw [hW1]; exact World.isSome_setCells g news (0 + i * 1) w.drew ⟨g, t, none⟩ (hsome t ht)
  have hfrz1 : ∀ t, W1.frozen? ⟨g, t, none⟩ = false := fun t => by rw [hW1, World.frozen?_setCells]; exact hfrz t
  have hcl : ∀ ty, (Builtin.clear_ #[23] ty #[.slice (some ⟨g, i + k, none⟩) 1 (c - (i + k))]).run Try.prog W1 = .ok (.tuple #[]) (W1.setCells g (i + k) (List.replicate 1 (.slice none 0 0))) :=
    fun ty => Lib.run_clear_slice W1 _ _ ty _ Try.underlying23 zeroS rfl rfl g (i + k) _ _ (by omega) (fun t ht => hsome1 (i + k + t) (by omega)) (fun t ht => hfrz1 (i + k + t))
  have hfin : ∀ t, t < i + k → (W1.setCells g (i + k) [.slice none 0 0]).cell? ⟨g, t, none⟩ = (vs.eraseIdx i)[t]? := by
    intro t ht
    rw [World.cell?_setCells_out g _ _ _ _ (fun _ _ => .inl (by simpa using ht)), List.getElem?_eraseIdx, hW1]
    by_cases hti : t < i
    · rw [if_pos hti, World.cell?_setCells_out g _ _ _ _ (fun _ _ => .inl (by simp; omega))]
      exact hcell t (by omega)
    · rw [if_neg hti]
      obtain ⟨s, rfl⟩ : ∃ s, t = i + s := ⟨t - i, by omega⟩
      have hin := World.cell?_setCells_in g news (0 + i * 1) w.drew (fun q hq => by rw [Nat.mul_one, Nat.zero_add]; exact hsome (i + q) (by omega)) s (by omega)
      rw [Nat.mul_one, Nat.zero_add] at hin ⊢
      rw [hin]
      have h2 := hget s (by omega)
      rw [List.getElem?_eq_getElem (by omega)] at h2
      rw [h2, hij]
      congr 1
      omega
  have hbel : Below lo w (W1.setCells g (i + k) [.slice none 0 0]) := by
    rw [hW1]
    exact below_cells hlo.1 _ _ _ (below_cells hlo.1 _ _ _ (below_drew (Below.refl lo w)))
  have hrd : Rd (W1.setCells g (i + k) [.slice none 0 0]) lo hi (some ⟨g, 0, none⟩) (i + k) (vs.eraseIdx i) := by
    refine ⟨by rw [List.length_eraseIdx, if_pos (by omega)]; omega, by omega, fun _ => ⟨g, 0, rfl, hlo.1, hlo.2.1, fun t v hv => ?_⟩⟩
    have ht := (List.getElem?_eq_some_iff.1 hv).1
    rw [List.length_eraseIdx, if_pos (by omega)] at ht
    rw [Nat.zero_add, hfin t (by omega)]
    exact hv
  replace hfin := Lib.hid hfin
  replace hbel := Lib.hid hbel
  replace hrd := Lib.hid hrd
  have hijl : i ≤ j := by omega
  have hjkI : (j : Int) ≤ (j : Int) + (k : Int) := by omega
  have hikI : (i : Int) + (k : Int) ≤ (j : Int) + (k : Int) := by omega
  have hijk : j + k - (i + k) = 1 := by omega
  have hij2 : ¬ (i = j) := by omega
  have hjn : j ≤ j + k := by omega
  replace hij := Lib.hid hij
  have hic : i ≤ c := by omega
  have hjc : j ≤ c := by omega
  clear hW1 hget hnews hlen hsome hsome1 hcell hfrz hfrz1
  go_enter Try.func126, Try.ntmps126
  go_wp2_with fail
  go_region_law (refine step_append_room rfl (.tmp 22) (.tmp 25) 23 rfl 22 s0 1 Try.underlying23 hs0 hu1 g 0 i c (by simp [Act.eval, Act.put]) A k (c - j) news (by simp [Act.eval, Act.put]) s1.out hsrc.out s2.out (by omega) s3.out ?_; rw [← hW.out])
  go_wp2_with fail
  go_ret
  have e : j + k - 1 = i + k := by have := hij.out; omega
  rw [e]
  exact ⟨rfl, hrd.out, hbel.out⟩
theorem without_any (b : Nat) (A : Option Addr) (n c i : Nat) (xss : List (List Int)) (w : World) (hc : w.cell? ⟨b, 0, none⟩ = some (.slice A n c)) {lo hi : Nat} (h : RS w lo hi A n xss) (hhi : hi ≤ w.heap.size) (hi0 : i < n) (hn2 : n ≤ 1048576) :
    Calls Try.prog 106 #[.pointer (some ⟨b, 0, none⟩), .int .i64 i] w fun e w' => ∃ (A1 : Option Addr) (c1 : Nat), e = .returned (.slice A1 (n - 1) c1) ∧ RS w' 0 w'.heap.size A1 (n - 1) (xss.eraseIdx i) ∧ Below w.heap.size w w' := by
  obtain ⟨vs, hrd, hrw⟩ := h
  have h1 := rowsAt_one hrw
  have hcl := cloneSS_any A n c vs w hrd hhi h1 (by omega) hn2
  replace h1 := Lib.hid h1
  go_enter Try.func106, Try.ntmps106
  go_wp2_with fail
  ((with_reducible refine hcl.mono ?_); rintro e w2 ⟨A2, c2, rfl, o2, f2⟩)
  obtain ⟨g, v0, rfl, _, _, _, _⟩ := o2.at_ (k := 0) (by omega)
  have hd := deleteSS_any g n c2 i (i + 1) rfl vs w2 o2 h1.out hi0 hn2
  rw [show (((i + 1 : Nat)) : Int) = (i : Int) + 1 from by omega] at hd
  clear hcl
  go_wp2_with fail
  ((with_reducible refine hd.mono ?_); rintro e w3 ⟨rfl, r3, f3⟩)
  have y2 := f2.size
  have y3 := f3.size
  have B3 : Below w.heap.size w w3 := f2.trans f3
  clear hd
  go_wp2_with fail
  go_ret
  exact ⟨_, c2, rfl, ⟨vs.eraseIdx i, r3.more (by omega) y3, rowsAt_erase ((hrw.keep (Same.of_below B3 hhi)).more (by omega) (by omega)) i⟩, B3⟩
theorem faces_any (b : Nat) (A : Option Addr) (n c i : Nat) (xss : List (List Int)) (w : World) (hc : w.cell? ⟨b, 0, none⟩ = some (.slice A n c)) {lo hi : Nat} (h : RS w lo hi A n xss) (hhi : hi ≤ w.heap.size) (hi0 : i < n) (hn2 : n ≤ 1048576) (N : Nat) (hN : flg xss = N) (h4 : N ≤ 400) (hs : SysOf xss N) :
    Calls Try.prog 82 #[.pointer (some ⟨b, 0, none⟩), .int .i64 i] w fun e w' => ∃ A1, e = .returned (.tuple #[.slice A1 N N, .int .i64 (cntR (xss.eraseIdx i) N)]) ∧ Own w' w.heap.size w'.heap.size 2 A1 N N ((labL (xss.eraseIdx i) N).map (Value.int .i64)) ∧ Below w.heap.size w w' := by
  have hwo := without_any b A n c i xss w hc h hhi hi0 hn2
  replace hs := Lib.hid hs
  go_enter Try.func82, Try.ntmps82
  go_wp2_with fail
  ((with_reducible refine (flags_any _ A n c xss _ hc h (by omega)).mono ?_); rintro e w' ⟨rfl, rfl⟩)
  rw [hN]
  go_wp2_with fail
  ((with_reducible refine hwo.mono ?_); rintro e w2 ⟨A2, c2, rfl, r2, f2⟩)
  have y2 := f2.size
  clear hwo
  go_wp2_with fail
  ((with_reducible refine (orbitLabels_any N A2 (n - 1) c2 (xss.eraseIdx i) _ r2 (Nat.le_refl _) h4 (sysOf_erase hs.out i)).mono ?_); rintro e w3 ⟨A3, rfl, o3, f3⟩)
  go_wp2_with fail
  go_ret2
  exact ⟨A3, rfl, o3.more y2 (Nat.le_refl _), below_then f2 f3 y2⟩
/-- the first index of x, or -1 -/
def idxI (xs : List Int) (x : Int) : Int := if x ∈ xs then (xs.idxOf x : Int) else -1
theorem idx_first {xs : List Int} {k : Nat} {x : Int} (h : xs[k]? = some x) (hn : x ∉ xs.take k) : xs.idxOf x = k := by
  have hk := (List.getElem?_eq_some_iff.1 h).1
  have hm := mem_of_get? h
  have h1 := get?_idxOf hm
  have hle : ¬ xs.idxOf x < k := by
    intro hlt
    refine hn ?_
    have : (xs.take k)[xs.idxOf x]? = some x := by rw [List.getElem?_take_of_lt hlt]; exact h1
    exact mem_of_get? this
  have hge : ¬ k < xs.idxOf x := by
    intro hlt
    have e := List.take_append_drop k xs
    have hl : (xs.take k).length = k := by simp; omega
    have e2 : xs.idxOf x = ((xs.take k) ++ (xs.drop k)).idxOf x := by rw [e]
    rw [List.idxOf_append, if_neg hn, hl] at e2
    have e3 : xs.drop k = x :: xs.drop (k + 1) := by
      rw [List.drop_eq_getElem_cons hk]
      congr 1
      have := (List.getElem?_eq_some_iff.1 h).2
      exact this
    rw [e3, List.idxOf_cons_self] at e2
    omega
  omega
theorem l01Index_any (A : Option Addr) (n c : Nat) (xs : List Int) (x : Int) (w : World) {lo hi : Nat} (h : RI w lo hi A n xs) :
    Calls Try.prog 85 #[.slice A n c, .int .i64 x] w fun e w' => e = .returned (.int .i64 (idxI xs x)) ∧ w = w' := by
  have hm := h.max
  have hl := Lib.hid h.len
  go_enter Try.func85, Try.ntmps85
  go_wp2_with fail
  go_loopw [5] (fun kv wq => ∃ k : Nat, k ≤ n ∧ kv = .int .i64 k ∧ Hid (x ∉ xs.take k) ∧ w = wq) (fun kv _ => n - (intOf kv).toNat)
  case atStart => exact ⟨0, by omega, rfl, Lib.hid (by simp), by first | rfl | trivial⟩
  case round =>
    obtain ⟨k, hk, rfl, hnx, rfl⟩ := hrel
    by_cases hlt : k < n
    · obtain ⟨b, o, v, rfl, _, _, hv, hcv⟩ := h.at_ hlt
      have htk := take_succ_of hv
      by_cases hvx : v = x
      · subst hvx
        have hix : idxI xs v = k := by unfold idxI; rw [if_pos (mem_of_get? hv), idx_first hv hnx.out]
        replace hv := Lib.hid hv
        replace htk := Lib.hid htk
        replace hix := Lib.hid hix
        go_wp2_with fail
        go_ret
        exact ⟨ret_int hix.out.symm, rfl⟩
      · have hbq : (v == x) = false := by simpa using hvx
        have hn2 : x ∉ xs.take (k + 1) := by rw [htk]; simp only [List.mem_append, List.mem_singleton]; rintro (hh | hh); exact hnx.out hh; exact hvx hh.symm
        replace hn2 := Lib.hid hn2
        replace hv := Lib.hid hv
        replace htk := Lib.hid htk
        go_wp2_with fail
        go_roundw
        case measure => simp [intOf]; omega
        case rel => exact ⟨k + 1, by omega, by go_num, hn2, by first | rfl | trivial⟩
    · have hkn : k = n := by omega
      subst hkn
      have hix : idxI xs x = -1 := by unfold idxI; rw [if_neg]; have := hnx.out; rwa [List.take_of_length_le (by have := hl.out; omega)] at this
      replace hix := Lib.hid hix
      go_wp2_with fail
      go_ret
      exact ⟨ret_int hix.out.symm, rfl⟩
theorem l01Has_any (A : Option Addr) (n c : Nat) (xs : List Int) (x : Int) (w : World) {lo hi : Nat} (h : RI w lo hi A n xs) :
    Calls Try.prog 53 #[.slice A n c, .int .i64 x] w fun e w' => e = .returned (.bool (decide (x ∈ xs))) ∧ w = w' := by
  have hix : decide (idxI xs x ≥ 0) = decide (x ∈ xs) := by
    unfold idxI
    by_cases hx : x ∈ xs
    · rw [if_pos hx]; simp [hx]
    · rw [if_neg hx]; simp [hx]
  replace hix := Lib.hid hix
  go_enter Try.func53, Try.ntmps53
  go_wp2_with fail
  ((with_reducible refine (l01Index_any A n c xs x _ h).mono ?_); rintro e w' ⟨rfl, rfl⟩)
  go_wp2_with fail
  go_ret
  exact ⟨ret_bool (by first | exact hix.out | (rw [← hix.out])), rfl⟩
end Go.Proofs.Ytbioelmofceaaaa
