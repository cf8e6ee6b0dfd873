/- Merged texts: what the statement wants besides (CntP Face FaceS Cnt CntX FaceX LabP). No condition but those that each lemma names. -/
import Derived.Deep.RegionLaw
import Derived.Lib.SliceRun
import Derived.Test.YtdaljeghdiknpaaGd2
/- CntP -/
namespace Go.Proofs.Ytdaljeghdiknpaa
set_option linter.unusedVariables false
set_option maxRecDepth 100000
open Classical
theorem list_rev {P : List Int → Prop} (h0 : P []) (hs : ∀ t x, P t → P (t ++ [x])) : ∀ l, P l := by
  have key : ∀ (n : Nat) (l : List Int), l.length = n → P l := by
    intro n
    induction n with
    | zero => intro l hl; rw [List.eq_nil_of_length_eq_zero hl]; exact h0
    | succ n ih =>
      intro l hl
      rcases List.eq_nil_or_concat l with rfl | ⟨t, x, rfl⟩
      · exact h0
      · rw [List.concat_eq_append] at hl ⊢
        exact hs t x (ih t (by simpa using hl))
  exact fun l => key l.length l rfl
/-- one more than the greatest of some numbers -/
def grt (l : List Int) : Int := l.foldl (fun m x => if m ≤ x then x + 1 else m) 0
theorem grt_snoc (l : List Int) (x : Int) : grt (l ++ [x]) = if grt l ≤ x then x + 1 else grt l := by unfold grt; rw [List.foldl_append]; rfl
theorem grt_nonneg (l : List Int) : (∀ x ∈ l, 0 ≤ x) → 0 ≤ grt l := by
  refine list_rev (P := fun l => (∀ x ∈ l, 0 ≤ x) → 0 ≤ grt l) (fun _ => Int.le_refl _) (fun t x ih h => ?_) l
  have := ih (fun y hy => h y (by simp [hy]))
  have := h x (by simp)
  rw [grt_snoc]
  split <;> omega
theorem grt_lt (l : List Int) : ∀ x ∈ l, x < grt l := by
  refine list_rev (P := fun l => ∀ x ∈ l, x < grt l) (fun x hx => by simp at hx) (fun t y ih x hx => ?_) l
  rw [grt_snoc]
  rcases List.mem_append.1 hx with hx | hx
  · have := ih x hx
    split <;> omega
  · simp at hx
    subst hx
    split <;> omega
theorem grt_mem (l : List Int) : grt l = 0 ∨ grt l - 1 ∈ l := by
  refine list_rev (P := fun l => grt l = 0 ∨ grt l - 1 ∈ l) (.inl rfl) (fun t y ih => ?_) l
  rw [grt_snoc]
  split
  · right; simp
  · rcases ih with ih | ih
    · exact .inl ih
    · right; simp [ih]
theorem lab_lt {list : List (List Int)} {n x : Nat} (hs : SysOf list n) (hx : x < n) : labOf list x < cntR list n := by
  have hr := rootB_rootOf hs hx
  have hle := rootOf_le list x
  have h1 := cntR_mono list (show rootOf list x + 1 ≤ n by omega)
  rw [cntR_succ, if_pos hr] at h1
  unfold labOf
  omega
theorem lab_top {list : List (List Int)} : ∀ n : Nat, cntR list n = 0 ∨ ∃ x : Nat, x < n ∧ labOf list x = (cntR list n : Int) - 1 := by
  intro n
  induction n with
  | zero => left; simp [cntR]
  | succ n ih =>
    rw [cntR_succ]
    by_cases hr : rootB list n = true
    · rw [if_pos hr]
      right
      refine ⟨n, by omega, ?_⟩
      have hroot : rootOf list n = n := rootOf_eq Rch.refl (fun j hj hh => root_iff.1 hr ⟨j, hj, hh⟩)
      unfold labOf
      rw [hroot]
      omega
    · rw [if_neg hr, Nat.add_zero]
      rcases ih with ih | ⟨x, h1, h2⟩
      · exact .inl ih
      · exact .inr ⟨x, by omega, h2⟩
/-- the greatest label and one -/
theorem grt_lab {list : List (List Int)} {n : Nat} (hs : SysOf list n) : grt (labL list n) = (cntR list n : Int) := by
  have hmem : ∀ v ∈ labL list n, ∃ x : Nat, x < n ∧ v = labOf list x := by
    intro v hv
    obtain ⟨x, hx, rfl⟩ := List.mem_map.1 hv
    exact ⟨x, List.mem_range.1 hx, rfl⟩
  have h0 := grt_nonneg (labL list n) (fun v hv => by obtain ⟨x, _, rfl⟩ := hmem v hv; exact labOf_nonneg list x)
  have hle : grt (labL list n) ≤ (cntR list n : Int) := by
    rcases grt_mem (labL list n) with e | e
    · rw [e]; omega
    · obtain ⟨x, hx, e⟩ := hmem _ e
      have := lab_lt hs hx
      omega
  have hge : (cntR list n : Int) ≤ grt (labL list n) := by
    rcases lab_top (list := list) n with e | ⟨x, hx, e⟩
    · rw [e]; exact h0
    · have := grt_lt (labL list n) (labOf list x) (List.mem_map.2 ⟨x, List.mem_range.2 hx, rfl⟩)
      omega
  omega
/-- the numbers of faces -/
noncomputable def cntsL (xss : List (List Int)) (n : Nat) : List Int := (List.range xss.length).map fun i => (cntR (xss.eraseIdx i) n : Int)
theorem cntsL_length (xss : List (List Int)) (n : Nat) : (cntsL xss n).length = xss.length := by simp [cntsL]
theorem cntsL_get {xss : List (List Int)} {n k : Nat} (h : k < xss.length) : (cntsL xss n)[k]? = some (cntR (xss.eraseIdx k) n : Int) := by simp [cntsL, h]
/-- the alternating sum -/
def eulGo (l : List Int) (k : Nat) : Int := (List.range k).foldl (fun (s : Int) (i : Nat) => if i % 2 = 0 then s + l.getD i 0 else s - l.getD i 0) (0 : Int)
theorem eulGo_succ (l : List Int) (k : Nat) : eulGo l (k + 1) = if k % 2 = 0 then eulGo l k + l.getD k 0 else eulGo l k - l.getD k 0 := by unfold eulGo; rw [List.range_succ, List.foldl_append]; rfl
theorem eulGo_bound {l : List Int} {B : Int} (hB : 0 ≤ B) (h : ∀ x ∈ l, -B ≤ x ∧ x ≤ B) : ∀ k : Nat, -(B * k) ≤ eulGo l k ∧ eulGo l k ≤ B * k := by
  intro k
  induction k with
  | zero => simp [eulGo]
  | succ k ih =>
    have hx : -B ≤ l.getD k 0 ∧ l.getD k 0 ≤ B := by
      by_cases hk : k < l.length
      · exact h _ (mem_of_get? (get?_getD 0 hk))
      · rw [show l.getD k 0 = 0 by simp [List.getD, show l.length ≤ k by omega]]; omega
    rw [eulGo_succ]
    have e : B * ((k + 1 : Nat) : Int) = B * k + B := by rw [Int.natCast_add, Int.mul_add]; simp
    rw [e]
    split <;> omega
theorem cntR_le_n {list : List (List Int)} (n : Nat) : cntR list n ≤ n := by
  unfold cntR
  have := List.length_filter_le (rootB list) (List.range n)
  simpa using this
end Go.Proofs.Ytdaljeghdiknpaa
/- Face -/
namespace Go.Proofs.Ytdaljeghdiknpaa
open Go.RowKit
set_option linter.unusedVariables false
set_option maxRecDepth 100000
theorem sysOf_erase {xss : List (List Int)} {n : Nat} (h : SysOf xss n) (i : Nat) : SysOf (xss.eraseIdx i) n := fun p hp => h p (List.mem_of_mem_eraseIdx hp)
theorem rowsAt_erase {w : World} {lo hi : Nat} {vs : List Value} {xss : List (List Int)} (h : RowsAt w lo hi vs xss) (i : Nat) : RowsAt w lo hi (vs.eraseIdx i) (xss.eraseIdx i) := by
  refine ⟨by rw [List.length_eraseIdx, List.length_eraseIdx, h.1], fun k v xs h1 h2 => ?_⟩
  rw [List.getElem?_eraseIdx] at h1 h2
  by_cases hk : k < i
  · rw [if_pos hk] at h1 h2; exact h.2 k v xs h1 h2
  · rw [if_neg hk] at h1 h2; exact h.2 (k + 1) v xs h1 h2
theorem rowsAt_one {w : World} {lo hi : Nat} {vs : List Value} {xss : List (List Int)} (h : RowsAt w lo hi vs xss) : ∀ v ∈ vs, v.oneCell' = true := by
  intro v hv
  obtain ⟨k, hk⟩ := List.mem_iff_getElem?.1 hv
  have hlt := (List.getElem?_eq_some_iff.1 hk).1
  obtain ⟨A, n, c, rfl, _⟩ := h.2 k v _ hk (List.getElem?_eq_getElem (by have := h.1; omega))
  rfl
theorem rowsAt_snoc {w : World} {lo hi n c : Nat} {A : Option Addr} {vs : List Value} {xss : List (List Int)} {xs : List Int} (h : RowsAt w lo hi vs xss) (hr : RI w lo hi A n xs) : RowsAt w lo hi (vs ++ [.slice A n c]) (xss ++ [xs]) := by
  refine ⟨by simp [h.1], fun k v ys h1 h2 => ?_⟩
  by_cases hk : k < vs.length
  · rw [List.getElem?_append_left hk] at h1
    rw [List.getElem?_append_left (by have := h.1; omega)] at h2
    exact h.2 k v ys h1 h2
  · have hk2 := (List.getElem?_eq_some_iff.1 h1).1
    simp at hk2
    have e : k = vs.length := by omega
    subst e
    rw [List.getElem?_append_right (Nat.le_refl _)] at h1
    rw [List.getElem?_append_right (by have := h.1; omega)] at h2
    have hl := h.1
    simp at h1
    simp [hl] at h2
    subst h1; subst h2
    exact ⟨A, n, c, rfl, hr⟩
theorem below_cells {B b : Nat} {a : World} (hb : B ≤ b) : ∀ (vs : List Value) (o : Nat) (w : World), Below B a w → Below B a (w.setCells b o vs) := by
  intro vs
  induction vs with
  | nil => intro o w h; exact h
  | cons v t ih => intro o w h; exact ih _ _ (h.setCell (p := ⟨b, o, none⟩) hb v)
theorem cloneSS_any (A : Option Addr) (n c : Nat) (vs : List Value) (w : World) {lo hi : Nat} (h : Rd w lo hi A n vs) (hhi : hi ≤ w.heap.size) (h1 : ∀ v ∈ vs, v.oneCell' = true) (hn : 0 < n) (hn2 : n ≤ 1048576) :
    Calls Try.prog 161 #[.slice A n c] w fun e w' => ∃ (A1 : Option Addr) (c1 : Nat), e = .returned (.slice A1 n c1) ∧ Own w' w.heap.size w'.heap.size 27 A1 n c1 vs ∧ Below w.heap.size w w' := by
  obtain ⟨s0, hs0, hu0, hu1, hu2⟩ := info_parts infoS
  obtain ⟨b, o, v0, rfl, _, _, _, _⟩ := h.at_ hn
  have h0 := World.ownsRow_lit (e := 27) (base := w.heap.size) (size := 1) w #[] 0 (Nat.le_refl _) (by omega) rfl
  have hr := h.keep (same_alloc w (.cells #[] 27) lo hi hhi)
  have heq : ∀ w' : World, (binOp .eql 24 (.slice (some ⟨b, o, none⟩) n c) (.slice none 0 0)).run Try.prog w' = .ok (.bool false) w' := fun w' => Lib.run_eql_slice_nil w' _ _ _ _ _ _ _ Try.underlying24
  replace h1 := Lib.hid h1
  go_enter Try.func161, Try.ntmps161
  go_wp2_with (at_builtin; refine wpList_appendL (w.alloc (.cells #[] 27)) rfl (.tmp 5) (.tmp 6) 24 rfl w.heap.size 27 s0 (.slice none 0 0) 24 Try.underlying24 hs0 hu0 hu1 hu2 rfl (by omega) _ 0 0 [] rfl h0 _ n c vs lo hi rfl hr h1.out (by omega) (by simp) ?_)
  intro A2 c2 w2 ho hg hor
  have hb : Below w.heap.size w w2 := ((Below.refl _ _).alloc (Nat.le_refl _) _).grown hg (by simp) (fun q hq => by have := (h0.lt q hq).1; omega)
  go_wp2_with fail
  go_ret
  exact ⟨A2, c2, rfl, Own.of_row ho, hb⟩
theorem zeroS (w : World) : (zeroValue 27).run Try.prog w = .ok (.slice none 0 0) w := Try.zeroValue27 w
set_option maxHeartbeats 4000000 in
theorem deleteSS_any (g n c i j : Nat) (hij : j = i + 1) (vs : List Value) (w : World) {lo hi : Nat} (ho : Own w lo hi 27 (some ⟨g, 0, none⟩) n c vs) (h1 : ∀ v ∈ vs, v.oneCell' = true) (hi0 : i < n) (hn2 : n ≤ 1048576) :
    Calls Try.prog 160 #[.slice (some ⟨g, 0, none⟩) n c, .int .i64 i, .int .i64 j] w fun e w' => e = .returned (.slice (some ⟨g, 0, none⟩) (n - 1) c) ∧ Rd w' lo hi (some ⟨g, 0, none⟩) (n - 1) (vs.eraseIdx i) ∧ Below lo w w' := by
  obtain ⟨s0, hs0, hu0, hu1, hu2⟩ := info_parts infoS
  have hcap := ho.cap
  have hvl := ho.len
  have hlo : lo ≤ g ∧ g < hi ∧ g < w.heap.size := by
    obtain ⟨b, v, e, q1, q2, q3, _⟩ := ho.at_ hi0
    injection e with e; injection e with e _ _; subst e
    exact ⟨q1, q2, q3⟩
  have hcm : c ≤ 9223372036854775807 := by
    rcases ho.1.2 with ⟨hv, _⟩ | ⟨g', cap, cur, hv, _, _, _, hcm, _⟩
    · cases hv
    · injection hv with _ _ e3
      subst e3
      simp only [maxLen] at hcm
      omega
  have hcell : ∀ k, k < n → w.cell? ⟨g, k, none⟩ = vs[k]? := fun k hk => ho.1.cellAt k (by omega)
  have hfrz : ∀ k, w.frozen? ⟨g, k, none⟩ = false := fun k => ho.frz k
  obtain ⟨k, rfl⟩ : ∃ k, n = j + k := ⟨n - j, by omega⟩
  obtain ⟨news, hnews⟩ : ∃ news, news = vs.drop j := ⟨_, rfl⟩
  have hlen : news.length = k := by rw [hnews]; simp; omega
  have hget : ∀ t, t < k → news[t]? = vs[j + t]? := by intro t ht; rw [hnews, List.getElem?_drop]
  obtain ⟨A, hA, hsrc⟩ : ∃ A : Addr, (if c = j then some (⟨g, 0, none⟩ : Addr) else some ⟨g, j, none⟩) = some A ∧ Hid (∀ t u, news[t]? = some u → w.drew.cell? (A.add t) = some u) := by
    by_cases h : c = j
    · refine ⟨⟨g, 0, none⟩, by simp [h], Lib.hid fun t u hu => ?_⟩
      have h0 : news.length = 0 := by rw [hlen]; omega
      rw [List.length_eq_zero_iff.1 h0] at hu
      simp at hu
    · refine ⟨⟨g, j, none⟩, by simp [h], Lib.hid fun t u hu => ?_⟩
      have ht : t < k := by have := (List.getElem?_eq_some_iff.1 hu).1; omega
      rw [hget t ht] at hu
      rw [Addr.add_lit]
      exact (hcell (j + t) (by omega)).trans hu
  have s1 : Hid (news.length = k * 1) := Lib.hid (by rw [Nat.mul_one]; exact hlen)
  have s2 : Hid (∀ u ∈ news, u.oneCell' = true) := Lib.hid (by intro u hu; rw [hnews] at hu; exact h1 u (List.mem_of_mem_drop hu))
  have hsome : ∀ t, t < j + k → (w.cell? ⟨g, t, none⟩).isSome = true := fun t ht => by rw [hcell t ht, List.getElem?_eq_getElem (by omega)]; rfl
  have s3 : Hid (∀ t, t < news.length → (w.drew.cell? ⟨g, 0 + i * 1 + t, none⟩).isSome = true ∧ w.drew.frozen? ⟨g, 0 + i * 1 + t, none⟩ = false) := Lib.hid (by
    intro t ht
    rw [hlen] at ht
    rw [Nat.mul_one, Nat.zero_add]
    exact ⟨hsome (i + t) (by omega), hfrz _⟩)
  obtain ⟨W1, hW1⟩ : ∃ W1, W1 = w.drew.setCells g (0 + i * 1) news := ⟨_, rfl⟩
  have hW : Hid (W1 = w.drew.setCells g (0 + i * 1) news) := Lib.hid hW1
  have hsome1 : ∀ t, t < j + k → (W1.cell? ⟨g, t, none⟩).isSome = true := fun t ht => by rw [hW1]; exact World.isSome_setCells g news (0 + i * 1) w.drew ⟨g, t, none⟩ (hsome t ht)
  have hfrz1 : ∀ t, W1.frozen? ⟨g, t, none⟩ = false := fun t => by rw [hW1, World.frozen?_setCells]; exact hfrz t
  have hcl : ∀ ty, (Builtin.clear_ #[24] ty #[.slice (some ⟨g, i + k, none⟩) 1 (c - (i + k))]).run Try.prog W1 = .ok (.tuple #[]) (W1.setCells g (i + k) (List.replicate 1 (.slice none 0 0))) :=
    fun ty => Lib.run_clear_slice W1 _ _ ty _ Try.underlying24 zeroS rfl rfl g (i + k) _ _ (by omega) (fun t ht => hsome1 (i + k + t) (by omega)) (fun t ht => hfrz1 (i + k + t))
  have hfin : ∀ t, t < i + k → (W1.setCells g (i + k) [.slice none 0 0]).cell? ⟨g, t, none⟩ = (vs.eraseIdx i)[t]? := by
    intro t ht
    rw [World.cell?_setCells_out g _ _ _ _ (fun _ _ => .inl (by simpa using ht)), List.getElem?_eraseIdx, hW1]
    by_cases hti : t < i
    · rw [if_pos hti, World.cell?_setCells_out g _ _ _ _ (fun _ _ => .inl (by simp; omega))]
      exact hcell t (by omega)
    · rw [if_neg hti]
      obtain ⟨s, rfl⟩ : ∃ s, t = i + s := ⟨t - i, by omega⟩
      have hin := World.cell?_setCells_in g news (0 + i * 1) w.drew (fun q hq => by rw [Nat.mul_one, Nat.zero_add]; exact hsome (i + q) (by omega)) s (by omega)
      rw [Nat.mul_one, Nat.zero_add] at hin ⊢
      rw [hin]
      have h2 := hget s (by omega)
      rw [List.getElem?_eq_getElem (by omega)] at h2
      rw [h2, hij]
      congr 1
      omega
  have hbel : Below lo w (W1.setCells g (i + k) [.slice none 0 0]) := by
    rw [hW1]
    exact below_cells hlo.1 _ _ _ (below_cells hlo.1 _ _ _ (below_drew (Below.refl lo w)))
  have hrd : Rd (W1.setCells g (i + k) [.slice none 0 0]) lo hi (some ⟨g, 0, none⟩) (i + k) (vs.eraseIdx i) := by
    refine ⟨by rw [List.length_eraseIdx, if_pos (by omega)]; omega, by omega, fun _ => ⟨g, 0, rfl, hlo.1, hlo.2.1, fun t v hv => ?_⟩⟩
    have ht := (List.getElem?_eq_some_iff.1 hv).1
    rw [List.length_eraseIdx, if_pos (by omega)] at ht
    rw [Nat.zero_add, hfin t (by omega)]
    exact hv
  replace hfin := Lib.hid hfin
  replace hbel := Lib.hid hbel
  replace hrd := Lib.hid hrd
  have hijl : i ≤ j := by omega
  have hjkI : (j : Int) ≤ (j : Int) + (k : Int) := by omega
  have hikI : (i : Int) + (k : Int) ≤ (j : Int) + (k : Int) := by omega
  have hijk : j + k - (i + k) = 1 := by omega
  have hij2 : ¬ (i = j) := by omega
  have hjn : j ≤ j + k := by omega
  replace hij := Lib.hid hij
  have hic : i ≤ c := by omega
  have hjc : j ≤ c := by omega
  clear hW1 hget hnews hlen hsome hsome1 hcell hfrz hfrz1
  go_enter Try.func160, Try.ntmps160
  go_wp2_with fail
  go_region_law (refine step_append_room rfl (.tmp 22) (.tmp 25) 24 rfl 27 s0 1 Try.underlying24 hs0 hu1 g 0 i c (by simp [Act.eval, Act.put]) A k (c - j) news (by simp [Act.eval, Act.put]) s1.out hsrc.out s2.out (by omega) s3.out ?_; rw [← hW.out])
  go_wp2_with fail
  go_ret
  have e : j + k - 1 = i + k := by have := hij.out; omega
  rw [e]
  exact ⟨rfl, hrd.out, hbel.out⟩
theorem without_any (b : Nat) (A : Option Addr) (n c i : Nat) (xss : List (List Int)) (w : World) (hc : w.cell? ⟨b, 0, none⟩ = some (.slice A n c)) {lo hi : Nat} (h : RS w lo hi A n xss) (hhi : hi ≤ w.heap.size) (hi0 : i < n) (hn2 : n ≤ 1048576) :
    Calls Try.prog 142 #[.pointer (some ⟨b, 0, none⟩), .int .i64 i] w fun e w' => ∃ (A1 : Option Addr) (c1 : Nat), e = .returned (.slice A1 (n - 1) c1) ∧ RS w' 0 w'.heap.size A1 (n - 1) (xss.eraseIdx i) ∧ Below w.heap.size w w' := by
  obtain ⟨vs, hrd, hrw⟩ := h
  have h1 := rowsAt_one hrw
  have hcl := cloneSS_any A n c vs w hrd hhi h1 (by omega) hn2
  replace h1 := Lib.hid h1
  go_enter Try.func142, Try.ntmps142
  go_wp2_with fail
  ((with_reducible refine hcl.mono ?_); rintro e w2 ⟨A2, c2, rfl, o2, f2⟩)
  obtain ⟨g, v0, rfl, _, _, _, _⟩ := o2.at_ (k := 0) (by omega)
  have hd := deleteSS_any g n c2 i (i + 1) rfl vs w2 o2 h1.out hi0 hn2
  rw [show (((i + 1 : Nat)) : Int) = (i : Int) + 1 from by omega] at hd
  clear hcl
  go_wp2_with fail
  ((with_reducible refine hd.mono ?_); rintro e w3 ⟨rfl, r3, f3⟩)
  have y2 := f2.size
  have y3 := f3.size
  have B3 : Below w.heap.size w w3 := f2.trans f3
  clear hd
  go_wp2_with fail
  go_ret
  exact ⟨_, c2, rfl, ⟨vs.eraseIdx i, r3.more (by omega) y3, rowsAt_erase ((hrw.keep (Same.of_below B3 hhi)).more (by omega) (by omega)) i⟩, B3⟩
theorem faces_any (b : Nat) (A : Option Addr) (n c i : Nat) (xss : List (List Int)) (w : World) (hc : w.cell? ⟨b, 0, none⟩ = some (.slice A n c)) {lo hi : Nat} (h : RS w lo hi A n xss) (hhi : hi ≤ w.heap.size) (hi0 : i < n) (hn2 : n ≤ 1048576) (N : Nat) (hN : flg xss = N) (h4 : N ≤ 400) (hs : SysOf xss N) :
    Calls Try.prog 85 #[.pointer (some ⟨b, 0, none⟩), .int .i64 i] w fun e w' => ∃ A1, e = .returned (.tuple #[.slice A1 N N, .int .i64 (cntR (xss.eraseIdx i) N)]) ∧ Own w' w.heap.size w'.heap.size 2 A1 N N ((labL (xss.eraseIdx i) N).map (Value.int .i64)) ∧ Below w.heap.size w w' := by
  have hwo := without_any b A n c i xss w hc h hhi hi0 hn2
  replace hs := Lib.hid hs
  go_enter Try.func85, Try.ntmps85
  go_wp2_with fail
  ((with_reducible refine (flags_any _ A n c xss _ hc h (by omega)).mono ?_); rintro e w' ⟨rfl, rfl⟩)
  rw [hN]
  go_wp2_with fail
  ((with_reducible refine hwo.mono ?_); rintro e w2 ⟨A2, c2, rfl, r2, f2⟩)
  have y2 := f2.size
  clear hwo
  go_wp2_with fail
  ((with_reducible refine (orbitLabels_any N A2 (n - 1) c2 (xss.eraseIdx i) _ r2 (Nat.le_refl _) h4 (sysOf_erase hs.out i)).mono ?_); rintro e w3 ⟨A3, rfl, o3, f3⟩)
  go_wp2_with fail
  go_ret2
  exact ⟨A3, rfl, o3.more y2 (Nat.le_refl _), below_then f2 f3 y2⟩
theorem hasRank_any (b : Nat) (A : Option Addr) (n c : Nat) (x : Int) (w : World) (hc : w.cell? ⟨b, 0, none⟩ = some (.slice A n c)) (hn : n ≤ 1048576) :
    Calls Try.prog 84 #[.pointer (some ⟨b, 0, none⟩), .int .i64 x] w fun e w' => e = .returned (.bool (decide ((0 : Int) ≤ x) && decide (x ≤ (n : Int) - 1))) ∧ w = w' := by
  go_enter Try.func84, Try.ntmps84
  go_wp2_with fail
  ((with_reducible refine (rank_any _ A n c _ hc (by omega)).mono ?_); rintro e w' ⟨rfl, rfl⟩)
  go_wp2_with fail
  ((with_reducible refine (within_any _ _ _ _).mono ?_); rintro e w' ⟨rfl, rfl⟩)
  go_wp2_with fail
  go_ret
  exact ⟨rfl, rfl⟩
/-- the first index of x, or -1 -/
def idxI (xs : List Int) (x : Int) : Int := if x ∈ xs then (xs.idxOf x : Int) else -1
theorem idx_first {xs : List Int} {k : Nat} {x : Int} (h : xs[k]? = some x) (hn : x ∉ xs.take k) : xs.idxOf x = k := by
  have hk := (List.getElem?_eq_some_iff.1 h).1
  have hm := mem_of_get? h
  have h1 := get?_idxOf hm
  have hle : ¬ xs.idxOf x < k := by
    intro hlt
    refine hn ?_
    have : (xs.take k)[xs.idxOf x]? = some x := by rw [List.getElem?_take_of_lt hlt]; exact h1
    exact mem_of_get? this
  have hge : ¬ k < xs.idxOf x := by
    intro hlt
    have e := List.take_append_drop k xs
    have hl : (xs.take k).length = k := by simp; omega
    have e2 : xs.idxOf x = ((xs.take k) ++ (xs.drop k)).idxOf x := by rw [e]
    rw [List.idxOf_append, if_neg hn, hl] at e2
    have e3 : xs.drop k = x :: xs.drop (k + 1) := by
      rw [List.drop_eq_getElem_cons hk]
      congr 1
      have := (List.getElem?_eq_some_iff.1 h).2
      exact this
    rw [e3, List.idxOf_cons_self] at e2
    omega
  omega
theorem l01Index_any (A : Option Addr) (n c : Nat) (xs : List Int) (x : Int) (w : World) {lo hi : Nat} (h : RI w lo hi A n xs) :
    Calls Try.prog 148 #[.slice A n c, .int .i64 x] w fun e w' => e = .returned (.int .i64 (idxI xs x)) ∧ w = w' := by
  have hm := h.max
  have hl := Lib.hid h.len
  go_enter Try.func148, Try.ntmps148
  go_wp2_with fail
  go_loopw [5] (fun kv wq => ∃ k : Nat, k ≤ n ∧ kv = .int .i64 k ∧ Hid (x ∉ xs.take k) ∧ w = wq) (fun kv _ => n - (intOf kv).toNat)
  case atStart => exact ⟨0, by omega, rfl, Lib.hid (by simp), by first | rfl | trivial⟩
  case round =>
    obtain ⟨k, hk, rfl, hnx, rfl⟩ := hrel
    by_cases hlt : k < n
    · obtain ⟨b, o, v, rfl, _, _, hv, hcv⟩ := h.at_ hlt
      have htk := take_succ_of hv
      by_cases hvx : v = x
      · subst hvx
        have hix : idxI xs v = k := by unfold idxI; rw [if_pos (mem_of_get? hv), idx_first hv hnx.out]
        replace hv := Lib.hid hv
        replace htk := Lib.hid htk
        replace hix := Lib.hid hix
        go_wp2_with fail
        go_ret
        exact ⟨ret_int hix.out.symm, rfl⟩
      · have hbq : (v == x) = false := by simpa using hvx
        have hn2 : x ∉ xs.take (k + 1) := by rw [htk]; simp only [List.mem_append, List.mem_singleton]; rintro (hh | hh); exact hnx.out hh; exact hvx hh.symm
        replace hn2 := Lib.hid hn2
        replace hv := Lib.hid hv
        replace htk := Lib.hid htk
        go_wp2_with fail
        go_roundw
        case measure => simp [intOf]; omega
        case rel => exact ⟨k + 1, by omega, by go_num, hn2, by first | rfl | trivial⟩
    · have hkn : k = n := by omega
      subst hkn
      have hix : idxI xs x = -1 := by unfold idxI; rw [if_neg]; have := hnx.out; rwa [List.take_of_length_le (by have := hl.out; omega)] at this
      replace hix := Lib.hid hix
      go_wp2_with fail
      go_ret
      exact ⟨ret_int hix.out.symm, rfl⟩
theorem l01Has_any (A : Option Addr) (n c : Nat) (xs : List Int) (x : Int) (w : World) {lo hi : Nat} (h : RI w lo hi A n xs) :
    Calls Try.prog 179 #[.slice A n c, .int .i64 x] w fun e w' => e = .returned (.bool (decide (x ∈ xs))) ∧ w = w' := by
  have hix : decide (idxI xs x ≥ 0) = decide (x ∈ xs) := by
    unfold idxI
    by_cases hx : x ∈ xs
    · rw [if_pos hx]; simp [hx]
    · rw [if_neg hx]; simp [hx]
  replace hix := Lib.hid hix
  go_enter Try.func179, Try.ntmps179
  go_wp2_with fail
  ((with_reducible refine (l01Index_any A n c xs x _ h).mono ?_); rintro e w' ⟨rfl, rfl⟩)
  go_wp2_with fail
  go_ret
  exact ⟨ret_bool (by first | exact hix.out | (rw [← hix.out])), rfl⟩
end Go.Proofs.Ytdaljeghdiknpaa
/- FaceS -/
namespace Go.Proofs.Ytdaljeghdiknpaa
open Go.RowKit
set_option linter.unusedVariables false
set_option maxRecDepth 100000
theorem erase_snoc {α : Type} {xs : List α} {k i : Nat} {x : α} (h : xs[k]? = some x) : (xs.take (k + 1)).eraseIdx i = if k = i then (xs.take k).eraseIdx i else (xs.take k).eraseIdx i ++ [x] := by
  have hk := (List.getElem?_eq_some_iff.1 h).1
  have hl : (xs.take k).length = k := by simp; omega
  rw [take_succ_of h]
  by_cases e : k = i
  · subst e
    rw [if_pos rfl, List.eraseIdx_append_of_length_le (by omega), hl, Nat.sub_self, List.eraseIdx_of_length_le (l := xs.take k) (by omega)]
    simp
  · rw [if_neg e]
    by_cases hlt : i < k
    · rw [List.eraseIdx_append_of_lt_length (by omega)]
    · rw [List.eraseIdx_append_of_length_le (by omega), hl, List.eraseIdx_of_length_le (l := [x]) (by simp; omega), List.eraseIdx_of_length_le (l := xs.take k) (by omega)]
set_option maxHeartbeats 4000000 in
theorem l02Others_any (A : Option Addr) (n c i : Nat) (A' : Option Addr) (c' : Nat) (xss : List (List Int)) (w : World) {lo hi lo' hi' : Nat} (h : RS w lo hi A n xss) (hhi : hi ≤ w.heap.size) (h' : RI w lo' hi' A' 1 [(i : Int)]) (hhi' : hi' ≤ w.heap.size) (hn2 : n ≤ 1048576) :
    Calls Try.prog 159 #[.agg #[.slice A n c], .slice A' 1 c'] w fun e w' => ∃ (A1 : Option Addr) (n1 c1 : Nat), e = .returned (.slice A1 n1 c1) ∧ RS w' 0 w'.heap.size A1 n1 (xss.eraseIdx i) ∧ Below w.heap.size w w' := by
  obtain ⟨s0, hs0, hu0, hu1, hu2⟩ := info_parts infoS
  have hl := Lib.hid h.len
  have hR := rs_alloc h hhi (.cells #[.slice A n c] 40)
  have hI : RI (w.alloc (.cells #[.slice A n c] 40)) lo' hi' A' 1 [(i : Int)] := h'.keep (same_alloc w _ _ _ hhi')
  have hC : (w.alloc (.cells #[.slice A n c] 40)).cell? ⟨w.heap.size, 0, none⟩ = some (.slice A n c) := al_new _ _ _ _ rfl
  have hB : Below w.heap.size w (w.alloc (.cells #[.slice A n c] 40)) := (Below.refl _ _).alloc (Nat.le_refl _) _
  have h0 := World.ownsRow_lit (e := 27) (base := (w.alloc (.cells #[.slice A n c] 40)).heap.size) (size := 1) (w.alloc (.cells #[.slice A n c] 40)) #[] 0 (Nat.le_refl _) (by omega) rfl
  go_enter Try.func159, Try.ntmps159
  go_wp2_with fail
  obtain ⟨W1, hW⟩ : ∃ W1 : World, w.alloc (.cells #[.slice A n c] 40) = W1 := ⟨_, rfl⟩
  have hz1 : W1.heap.size = w.heap.size + 1 := by rw [← hW]; simp
  rw [hW] at hR hI hC hB h0 ⊢
  clear hW h h'
  have h0 : (W1.alloc (.cells #[] 27)).ownsRow W1.heap.size 27 1 (.slice (some ⟨w.heap.size + 1, 0, none⟩) 0 0) 0 [] := by rw [← hz1]; exact h0
  go_loopw [5, 6] (fun ov kv wq => ∃ (k m : Nat) (vs : List Value) (A1 : Option Addr) (c1 : Nat), k ≤ n ∧ m ≤ k ∧ ov = .slice A1 m c1 ∧ kv = .int .i64 k ∧ Own wq W1.heap.size wq.heap.size 27 A1 m c1 vs ∧ Hid (RowsAt wq lo hi vs ((xss.take k).eraseIdx i)) ∧ Below W1.heap.size W1 wq) (fun _ kv _ => n - (intOf kv).toNat)
  case atStart => exact ⟨0, 0, [], _, 0, by omega, by omega, rfl, rfl, Own.of_row h0, Lib.hid ⟨by simp, fun k v xs h1 h2 => by simp at h1⟩, (Below.refl _ _).alloc (Nat.le_refl _) _⟩
  case round =>
    clear h0
    obtain ⟨k, m, vs, A1, c1, hk, hmk, rfl, rfl, ho, hrows, hb⟩ := hrel
    have hsz := hb.size
    have hCk := (hb.cell (p := ⟨w.heap.size, 0, none⟩) (by simp; omega)).trans hC
    by_cases hlt : k < n
    · obtain ⟨bb, oo, Ak, nk, ck, p, rfl, _, _, hp, hpc, hpr⟩ := (hR.below hb (by omega)).at_ hlt
      have hes := erase_snoc (i := i) hp
      by_cases hki : k = i
      · have hhas : decide ((k : Int) ∈ [(i : Int)]) = true := by simp [hki]
        rw [if_pos hki] at hes
        replace hes := Lib.hid hes
        replace hp := Lib.hid hp
        replace hki := Lib.hid hki
        go_wp2_with fail
        ((with_reducible refine (l01Has_any A' 1 c' [(i : Int)] (k : Int) _ (hI.below hb (by omega))).mono ?_); rintro e w' ⟨rfl, rfl⟩)
        rw [hhas]
        go_wp2_with fail
        go_roundw
        case measure => simp [intOf]; omega
        case rel => exact ⟨k + 1, m, vs, A1, c1, by omega, by omega, rfl, by go_num, ho, Lib.hid (by rw [hes.out]; exact hrows.out), hb⟩
      · have hhas : decide ((k : Int) ∈ [(i : Int)]) = false := by simp; omega
        rw [if_neg hki] at hes
        replace hes := Lib.hid hes
        replace hp := Lib.hid hp
        replace hki := Lib.hid hki
        go_wp2_with fail
        ((with_reducible refine (l01Has_any A' 1 c' [(i : Int)] (k : Int) _ (hI.below hb (by omega))).mono ?_); rintro e w' ⟨rfl, rfl⟩)
        rw [hhas]
        go_wp2_with (at_builtin; refine wpList_append1 wr rfl (.tmp 19) (.tmp 25) 24 rfl W1.heap.size 27 s0 (.slice none 0 0) 24 Try.underlying24 hs0 hu0 hu1 hu2 rfl (by omega) A1 m c1 _ (.slice Ak nk ck) rfl ho.1 _ rfl rfl rfl (by omega) (by omega) ?_)
        intro g4 c4 w5 ho5 hg5 hlo5 hlt5 hor5
        have hb5 : Below W1.heap.size W1 w5 := hb.grown hg5 (by omega) (fun q hq => by have := (ho.1.lt q hq).1; omega)
        have hsame : Same lo hi wr w5 := same_grown hg5 (by omega) (fun q hq => .inr (by have := (ho.1.lt q hq).1; omega))
        have hrw5 := rowsAt_snoc (c := ck) (hrows.out.keep hsame) (hpr.keep hsame)
        replace hrw5 := Lib.hid hrw5
        replace hsame := Lib.hid hsame
        have ho5' := Own.of_row ho5
        clear ho hb hg5 ho5 hpc hpr hCk
        go_wp2_with fail
        go_roundw
        case measure => simp [intOf]; omega
        case rel => exact ⟨k + 1, m + 1, vs ++ [.slice Ak nk ck], _, c4, by omega, by omega, rfl, by go_num, by rw [hz1]; exact ho5', Lib.hid (by rw [hes.out]; exact hrw5.out), hb5⟩
    · have hkn : k = n := by omega
      subst hkn
      go_wp2_with fail
      go_ret
      refine ⟨A1, m, c1, rfl, ⟨vs, ho.rd.more (by omega) (Nat.le_refl _), ?_⟩, hB.trans (hb.mono (by omega))⟩
      have := hrows.out
      rw [List.take_of_length_le (by have := hl.out; omega)] at this
      exact this.more (by omega) (by omega)
theorem below_undrew {B : Nat} {a w : World} (h : Below a.drew.heap.size a.drew w) (hB : B ≤ a.heap.size) : Below B a w := ⟨h.os, h.tape, h.output, h.size, fun k hk => h.block k (show k < a.heap.size by omega)⟩
set_option maxHeartbeats 4000000 in
theorem l02Faces_any (A : Option Addr) (n c i : Nat) (xss : List (List Int)) (w : World) {lo hi : Nat} (h : RS w lo hi A n xss) (hhi : hi ≤ w.heap.size) (hi0 : i < n) (hn2 : n ≤ 1048576) (N : Nat) (hN : flg xss = N) (h4 : N ≤ 400) (hs : SysOf xss N) :
    Calls Try.prog 141 #[.agg #[.slice A n c], .int .i64 i] w fun e w' => ∃ (A1 : Option Addr) (c1 : Nat), e = .returned (.slice A1 N c1) ∧ Own w' w.heap.size w'.heap.size 2 A1 N c1 ((labL (xss.eraseIdx i) N).map (Value.int .i64)) ∧ Below w.heap.size w w' := by
  have hR := rs_alloc h hhi (.cells #[.slice A n c] 40)
  have hC : (w.alloc (.cells #[.slice A n c] 40)).cell? ⟨w.heap.size, 0, none⟩ = some (.slice A n c) := al_new _ _ _ _ rfl
  have hB : Below w.heap.size w (w.alloc (.cells #[.slice A n c] 40)) := (Below.refl _ _).alloc (Nat.le_refl _) _
  replace hs := Lib.hid hs
  go_enter Try.func141, Try.ntmps141
  go_wp2_with fail
  obtain ⟨W1, hW⟩ : ∃ W1 : World, w.alloc (.cells #[.slice A n c] 40) = W1 := ⟨_, rfl⟩
  have hz1 : W1.heap.size = w.heap.size + 1 := by rw [← hW]; simp
  rw [hW] at hR hC hB ⊢
  clear hW h
  have hFa := l02Flags_any A n c xss W1.drew (rs_drew hR) (show _ ≤ W1.heap.size by omega) (by omega)
  have hFb0 := l02Flags_any A n c xss (W1.alloc (.cells #[.int .i64 (i : Int)] 2)).drew (rs_drew (rs_alloc hR (by omega) _)) (show _ ≤ (W1.alloc (.cells #[.int .i64 (i : Int)] 2)).heap.size by simp; omega) (by omega)
  rw [hN] at hFa hFb0
  have hFb : Calls Try.prog 134 #[.agg #[.slice A n c]] (W1.alloc (.cells #[.int .i64 (i : Int)] 2)).drew fun e w' => e = .returned (.int .i64 (N : Nat)) ∧ Below (W1.heap.size + 1) (W1.alloc (.cells #[.int .i64 (i : Int)] 2)) w' := hFb0.mono (fun e w' hh => ⟨hh.1, below_undrew hh.2 (by simp)⟩)
  clear hFb0
  have hCb : (W1.alloc (.cells #[.int .i64 (i : Int)] 2)).cell? ⟨w.heap.size, 0, none⟩ = some (.slice A n c) := (al_old _ _ _ _ (by omega)).trans hC
  go_region_with (first
    | (go_at_call 134; (with_reducible refine hFa.mono ?_); rintro e w8 ⟨rfl, f8⟩; have f8 : Below W1.heap.size W1 w8 := ⟨f8.os, f8.tape, f8.output, f8.size, f8.block⟩; have y8 := f8.size; have C8 := (f8.cell (p := ⟨w.heap.size, 0, none⟩) (by simp; omega)).trans hC; have C8a : (w8.alloc (.cells #[.int .i64 (i : Int)] 2)).cell? ⟨w.heap.size, 0, none⟩ = some (.slice A n c) := (al_old _ _ _ _ (by omega)).trans C8; have B8 : Below W1.heap.size W1 (w8.alloc (.cells #[.int .i64 (i : Int)] 2)) := f8.alloc y8 _; have qo := l02Others_any A n c i (some ⟨w8.heap.size, 0, none⟩) 1 xss _ (rs_alloc (hR.below f8 (by omega)) (by omega) (.cells #[.int .i64 (i : Int)] 2)) (by simp; omega) (ri_lit1 w8 2 (i : Int)) (by simp) hn2)
    | (go_at_call 134; (with_reducible refine hFb.mono ?_); rintro e w8 ⟨rfl, f8⟩; have y8 : W1.heap.size + 1 ≤ w8.heap.size := (by have := f8.size; simpa using this); have B8 : Below W1.heap.size W1 w8 := ((Below.refl _ _).alloc (Nat.le_refl _) _).trans (f8.mono (by omega)); have C8 := (B8.cell (p := ⟨w.heap.size, 0, none⟩) (by first | omega | (simp; done) | (simp; omega))).trans hC; have rl : RI w8 W1.heap.size (W1.heap.size + 1) (some ⟨w.heap.size + 1, 0, none⟩) 1 [(i : Int)] := (by rw [← hz1]; exact (ri_lit1 W1 2 (i : Int)).below f8 (Nat.le_refl _)); have qo := l02Others_any A n c i (some ⟨w.heap.size + 1, 0, none⟩) 1 xss w8 (hR.below B8 (by omega)) (by omega) rl (by omega) hn2)
    | (go_at_call 159; (with_reducible refine qo.mono ?_); rintro e w9 ⟨A9, n9, c9, rfl, r9, f9⟩; have y9 := f9.size; have B9 : Below W1.heap.size W1 w9 := below_then B8 f9 (by first | omega | (simp; omega)); have qp := l01Orbits_any N A9 n9 c9 (xss.eraseIdx i) w9 r9 (Nat.le_refl _) h4 (sysOf_erase hs.out i))
    | (go_at_call 68; (with_reducible refine qp.mono ?_); rintro e w10 ⟨A10, c10, rfl, o10, f10⟩))
  all_goals
    have z9 := B9.size
    have B10 := below_then B9 f10 z9
    go_wp2_with fail
    go_ret
    exact ⟨A10, c10, rfl, o10.more (by omega) (Nat.le_refl _), hB.trans (B10.mono (by omega))⟩
end Go.Proofs.Ytdaljeghdiknpaa
/- Cnt -/
namespace Go.Proofs.Ytdaljeghdiknpaa
open Go.RowKit
set_option linter.unusedVariables false
set_option maxRecDepth 100000
theorem labL_bound {list : List (List Int)} {n : Nat} (hs : SysOf list n) (h4 : n ≤ 400) : ∀ x ∈ labL list n, 0 ≤ x ∧ x ≤ 400 := by
  intro v hv
  obtain ⟨x, hx, rfl⟩ := List.mem_map.1 hv
  have h1 := lab_lt hs (List.mem_range.1 hx)
  have h2 := labOf_nonneg list x
  have h3 := cntR_le_n (list := list) n
  omega
theorem grt_le {l : List Int} (h : ∀ x ∈ l, 0 ≤ x ∧ x ≤ 400) : 0 ≤ grt l ∧ grt l ≤ 401 := by
  have h0 := grt_nonneg l (fun x hx => (h x hx).1)
  rcases grt_mem l with e | e
  · omega
  · have := h _ e; omega
theorem cntsL_bound {xss : List (List Int)} {n : Nat} (h4 : n ≤ 400) : ∀ x ∈ cntsL xss n, -400 ≤ x ∧ x ≤ 400 := by
  intro v hv
  obtain ⟨i, _, rfl⟩ := List.mem_map.1 hv
  have h3 := cntR_le_n (list := xss.eraseIdx i) n
  omega
theorem l02Greatest_any (A : Option Addr) (n c : Nat) (xs : List Int) (w : World) {lo hi : Nat} (h : RI w lo hi A n xs) (hb : ∀ x ∈ xs, 0 ≤ x ∧ x ≤ 400) :
    Calls Try.prog 140 #[.slice A n c] w fun e w' => e = .returned (.int .i64 (grt xs)) ∧ w = w' := by
  have hm := h.max
  have hl := Lib.hid h.len
  replace hb := Lib.hid hb
  go_enter Try.func140, Try.ntmps140
  go_wp2_with fail
  go_loopw [3, 4] (fun mv kv wq => ∃ k : Nat, k ≤ n ∧ kv = .int .i64 k ∧ mv = .int .i64 (grt (xs.take k)) ∧ w = wq) (fun _ kv _ => n - (intOf kv).toNat)
  case atStart => exact ⟨0, by omega, rfl, by simp [grt], by first | rfl | trivial⟩
  case round =>
    obtain ⟨k, hk, rfl, rfl, rfl⟩ := hrel
    by_cases hlt : k < n
    · obtain ⟨b, o, v, rfl, _, _, hv, hcv⟩ := h.at_ hlt
      have hst := grt_snoc (xs.take k) v
      rw [← take_succ_of hv] at hst
      have hbd := grt_le (l := xs.take k) (fun x hx => hb.out x (mem_of_take hx))
      obtain ⟨hv0, hv1⟩ := hb.out v (mem_of_get? hv)
      replace hv := Lib.hid hv
      generalize grt (xs.take k) = m at *
      obtain ⟨hb0, hb1⟩ := hbd
      by_cases hge : m ≤ v
      · rw [if_pos hge] at hst
        have hd : decide (v ≥ m) = true := decide_eq_true hge
        replace hst := Lib.hid hst
        go_wp2_with fail
        go_roundw
        case measure => simp [intOf]; omega
        case rel => exact ⟨k + 1, by omega, by go_num, by rw [hst.out], by first | rfl | trivial⟩
      · rw [if_neg hge] at hst
        have hd : decide (v ≥ m) = false := decide_eq_false hge
        have hd2 : decide (m ≤ v) = false := decide_eq_false hge
        replace hst := Lib.hid hst
        go_wp2_with fail
        go_roundw
        case measure => simp [intOf]; omega
        case rel => exact ⟨k + 1, by omega, by go_num, by rw [hst.out], by first | rfl | trivial⟩
    · go_wp2_with fail
      go_ret
      have hkn : k = n := by omega
      subst hkn
      exact ⟨ret_int (by rw [List.take_of_length_le (by have := hl.out; omega)]), rfl⟩
set_option maxHeartbeats 2000000 in
theorem faceCounts_any (b : Nat) (A : Option Addr) (n c : Nat) (xss : List (List Int)) (w : World) (hc : w.cell? ⟨b, 0, none⟩ = some (.slice A n c)) (hbs : b < w.heap.size) {lo hi : Nat} (h : RS w lo hi A n xss) (hhi : hi ≤ w.heap.size) (hn2 : n ≤ 1048576) (N : Nat) (hN : flg xss = N) (h4 : N ≤ 400) (hs : SysOf xss N) :
    Calls Try.prog 82 #[.pointer (some ⟨b, 0, none⟩)] w fun e w' => ∃ (A1 : Option Addr) (c1 : Nat), e = .returned (.slice A1 n c1) ∧ Own w' w.heap.size w'.heap.size 2 A1 n c1 ((cntsL xss N).map (Value.int .i64)) ∧ Below w.heap.size w w' := by
  obtain ⟨j0, hj0, hy0, hy1, hy2⟩ := info_parts infoI
  have hl := h.len
  have hcl := cntsL_length xss N
  rw [hl] at hcl
  have hget : ∀ k, k < n → (cntsL xss N)[k]? = some (cntR (xss.eraseIdx k) N : Int) := fun k hk => cntsL_get (by omega)
  generalize hcs : cntsL xss N = cs at *
  replace hcs := Lib.hid hcs
  replace hget := Lib.hid hget
  replace hcl := Lib.hid hcl
  replace hl := Lib.hid hl
  replace hs := Lib.hid hs
  go_enter Try.func82, Try.ntmps82
  go_wp2_with fail
  ((with_reducible refine (rank_any _ A n c _ hc (by omega)).mono ?_); rintro e w' ⟨rfl, rfl⟩)
  go_wp2_with fail
  go_loopw [3, 9] (fun sv kv wq => ∃ (k : Nat) (A2 : Option Addr) (c2 : Nat), k ≤ n ∧ sv = .slice A2 k c2 ∧ kv = .int .i64 k ∧ Own wq w.heap.size wq.heap.size 2 A2 k c2 ((cs.take k).map (Value.int .i64)) ∧ Below w.heap.size w wq) (fun _ kv _ => n - (intOf kv).toNat)
  case atStart => exact ⟨0, none, 0, by omega, rfl, rfl, by simpa using Own.nil, Below.refl _ _⟩
  case round =>
    obtain ⟨k, A2, c2, hk, rfl, rfl, ho, hb⟩ := hrel
    have hz := hb.size
    by_cases hlt : k < n
    · have hCk := (hb.cell (p := ⟨b, 0, none⟩) (by simp; omega)).trans hc
      have htk := take_succ_of (hget.out k hlt)
      replace htk := Lib.hid htk
      go_wp2_with fail
      ((with_reducible refine (faces_any b A n c k xss _ hCk (h.below hb hhi) (by omega) hlt hn2 N hN h4 hs.out).mono ?_); rintro e w2 ⟨A9, rfl, o9, f9⟩)
      have y9 := f9.size
      have ho2 := ho.below f9 (Nat.le_refl _)
      have hb2 := below_then hb f9 hz
      clear ho hb f9 o9 hCk
      generalize (cntR (xss.eraseIdx k) N : Int) = u at *
      go_wp2_with (at_builtin; refine wpList_append1 w2 rfl (.tmp 18) (.tmp 20) 27 rfl w.heap.size 2 j0 (.int .i64 0) 8 Try.underlying27 hj0 hy0 hy1 hy2 rfl (by omega) _ k c2 _ (.int .i64 u) rfl ho2.1 _ rfl rfl rfl (by omega) (by omega) ?_)
      intro g4 c4 w3 ho3 hg3 hlo3 hlt3 hor3
      have hb3 : Below w.heap.size w w3 := hb2.grown hg3 (by omega) (fun q hq => by have := (ho2.1.lt q hq).1; omega)
      have ho3' := Own.of_row ho3
      clear ho2 hb2 hg3 ho3
      go_wp2_with fail
      go_roundw
      case measure => simp [intOf]; omega
      case rel => exact ⟨k + 1, _, c4, by omega, rfl, by go_num, by rw [htk.out]; simpa using ho3', hb3⟩
    · go_wp2_with fail
      go_ret
      have hkn : k = n := by omega
      subst hkn
      rw [List.take_of_length_le (by have := hcl.out; omega)] at ho
      exact ⟨A2, c2, rfl, ho, hb⟩
set_option maxHeartbeats 2000000 in
theorem l02Counts_any (A : Option Addr) (n c : Nat) (xss : List (List Int)) (w : World) {lo hi : Nat} (h : RS w lo hi A n xss) (hhi : hi ≤ w.heap.size) (hn2 : n ≤ 1048576) (N : Nat) (hN : flg xss = N) (h4 : N ≤ 400) (hs : SysOf xss N) :
    Calls Try.prog 83 #[.agg #[.slice A n c]] w fun e w' => ∃ (A1 : Option Addr) (c1 : Nat), e = .returned (.slice A1 n c1) ∧ Own w' w.heap.size w'.heap.size 2 A1 n c1 ((cntsL xss N).map (Value.int .i64)) ∧ Below w.heap.size w w' := by
  obtain ⟨j0, hj0, hy0, hy1, hy2⟩ := info_parts infoI
  have hl := h.len
  have hcl := cntsL_length xss N
  rw [hl] at hcl
  have hget : ∀ k, k < n → (cntsL xss N)[k]? = some (cntR (xss.eraseIdx k) N : Int) := fun k hk => cntsL_get (by omega)
  generalize hcs : cntsL xss N = cs at *
  replace hcs := Lib.hid hcs
  replace hget := Lib.hid hget
  replace hcl := Lib.hid hcl
  replace hl := Lib.hid hl
  replace hs := Lib.hid hs
  have hR := rs_alloc h hhi (.cells #[.slice A n c] 40)
  have hC : (w.alloc (.cells #[.slice A n c] 40)).cell? ⟨w.heap.size, 0, none⟩ = some (.slice A n c) := al_new _ _ _ _ rfl
  have hB : Below w.heap.size w (w.alloc (.cells #[.slice A n c] 40)) := (Below.refl _ _).alloc (Nat.le_refl _) _
  have h0 := World.ownsRow_lit (e := 2) (base := (w.alloc (.cells #[.slice A n c] 40)).heap.size) (size := 1) (w.alloc (.cells #[.slice A n c] 40)) #[] 0 (Nat.le_refl _) (by omega) rfl
  go_enter Try.func83, Try.ntmps83
  go_wp2_with fail
  obtain ⟨W1, hW⟩ : ∃ W1 : World, w.alloc (.cells #[.slice A n c] 40) = W1 := ⟨_, rfl⟩
  have hz1 : W1.heap.size = w.heap.size + 1 := by rw [← hW]; simp
  rw [hW] at hR hC hB h0 ⊢
  clear hW h
  have h0 : (W1.alloc (.cells #[] 2)).ownsRow W1.heap.size 2 1 (.slice (some ⟨w.heap.size + 1, 0, none⟩) 0 0) 0 (([] : List Int).map (Value.int .i64)) := by rw [← hz1]; exact h0
  go_loopw [3, 4] (fun sv kv wq => ∃ (k : Nat) (A2 : Option Addr) (c2 : Nat), k ≤ n ∧ sv = .slice A2 k c2 ∧ kv = .int .i64 k ∧ Own wq W1.heap.size wq.heap.size 2 A2 k c2 ((cs.take k).map (Value.int .i64)) ∧ Below W1.heap.size W1 wq) (fun _ kv _ => n - (intOf kv).toNat)
  case atStart => exact ⟨0, _, 0, by omega, rfl, rfl, by simpa using Own.of_row h0, (Below.refl _ _).alloc (Nat.le_refl _) _⟩
  case round =>
    clear h0
    obtain ⟨k, A2, c2, hk, rfl, rfl, ho, hb⟩ := hrel
    have hz := hb.size
    have hCk := (hb.cell (p := ⟨w.heap.size, 0, none⟩) (by simp; omega)).trans hC
    by_cases hlt : k < n
    · have htk := take_succ_of (hget.out k hlt)
      have hgl := grt_lab (sysOf_erase hs.out k)
      have hlb := labL_bound (sysOf_erase hs.out k) h4
      replace htk := Lib.hid htk
      go_wp2_with fail
      ((with_reducible refine (l02Faces_any A n c k xss _ (hR.below hb (by omega)) (by omega) hlt hn2 N hN h4 hs.out).mono ?_); rintro e w2 ⟨A9, c9, rfl, o9, f9⟩)
      have y9 := f9.size
      have ho2 := ho.below f9 (Nat.le_refl _)
      have hb2 := below_then hb f9 hz
      clear ho hb f9 hCk
      go_wp2_with fail
      ((with_reducible refine (l02Greatest_any A9 N c9 _ _ o9.ri hlb).mono ?_); rintro e w' ⟨rfl, rfl⟩)
      rw [hgl]
      clear o9
      replace hgl := Lib.hid hgl
      replace hlb := Lib.hid hlb
      generalize (cntR (xss.eraseIdx k) N : Int) = u at *
      go_wp2_with (at_builtin; refine wpList_append1 w2 rfl (.tmp 13) (.tmp 18) 27 rfl W1.heap.size 2 j0 (.int .i64 0) 8 Try.underlying27 hj0 hy0 hy1 hy2 rfl (by omega) _ k c2 _ (.int .i64 u) rfl ho2.1 _ rfl rfl rfl (by omega) (by omega) ?_)
      intro g4 c4 w3 ho3 hg3 hlo3 hlt3 hor3
      have hb3 : Below W1.heap.size W1 w3 := hb2.grown hg3 (by omega) (fun q hq => by have := (ho2.1.lt q hq).1; omega)
      have ho3' := Own.of_row ho3
      clear ho2 hb2 hg3 ho3
      go_wp2_with fail
      go_roundw
      case measure => simp [intOf]; omega
      case rel => exact ⟨k + 1, _, c4, by omega, rfl, by go_num, by rw [htk.out, hz1]; simpa using ho3', hb3⟩
    · go_wp2_with fail
      go_ret
      have hkn : k = n := by omega
      subst hkn
      rw [List.take_of_length_le (by have := hcl.out; omega)] at ho
      exact ⟨A2, c2, rfl, ho.more (by omega) (Nat.le_refl _), hB.trans (hb.mono (by omega))⟩
theorem eulerOf_any (A : Option Addr) (n c : Nat) (xs : List Int) (w : World) {lo hi : Nat} (h : RI w lo hi A n xs) (hn5 : n ≤ 20) (hb : ∀ x ∈ xs, -400 ≤ x ∧ x ≤ 400) :
    Calls Try.prog 86 #[.slice A n c] w fun e w' => e = .returned (.int .i64 (eulGo xs n)) ∧ w = w' := by
  have hm := h.max
  have hbd := eulGo_bound (B := 400) (by omega) hb
  replace hb := Lib.hid hb
  replace hbd := Lib.hid hbd
  go_enter Try.func86, Try.ntmps86
  go_wp2_with fail
  go_loopw [3, 8] (fun mv kv wq => ∃ k : Nat, k ≤ n ∧ kv = .int .i64 k ∧ mv = .int .i64 (eulGo xs k) ∧ w = wq) (fun _ kv _ => n - (intOf kv).toNat)
  case atStart => exact ⟨0, by omega, rfl, by simp [eulGo], by first | rfl | trivial⟩
  case round =>
    obtain ⟨k, hk, rfl, rfl, rfl⟩ := hrel
    by_cases hlt : k < n
    · obtain ⟨b, o, v, rfl, _, _, hv, hcv⟩ := h.at_ hlt
      have hst := eulGo_succ xs k
      rw [getD_some hv] at hst
      obtain ⟨hb0, hb1⟩ := hbd.out k
      obtain ⟨hv0, hv1⟩ := hb.out v (mem_of_get? hv)
      replace hv := Lib.hid hv
      generalize eulGo xs k = m at *
      have hb2 : -8000 ≤ m := by omega
      have hb3 : m ≤ 8000 := by omega
      have htm : Int.tmod (k : Int) 2 = ((k % 2 : Nat) : Int) := rfl
      clear hb0 hb1
      by_cases hpar : k % 2 = 0
      · rw [if_pos hpar] at hst
        replace hst := Lib.hid hst
        rw [hpar] at htm
        go_wp2_with fail
        go_roundw
        case measure => simp [intOf]; omega
        case rel => exact ⟨k + 1, by omega, by go_num, by rw [hst.out], by first | rfl | trivial⟩
      · rw [if_neg hpar] at hst
        replace hst := Lib.hid hst
        have hp1 : k % 2 = 1 := by omega
        rw [hp1] at htm
        go_wp2_with fail
        go_roundw
        case measure => simp [intOf]; omega
        case rel => exact ⟨k + 1, by omega, by go_num, by rw [hst.out], by first | rfl | trivial⟩
    · go_wp2_with fail
      go_ret
      have hkn : k = n := by omega
      subst hkn
      exact ⟨rfl, rfl⟩
end Go.Proofs.Ytdaljeghdiknpaa
/- CntX -/
namespace Go.Proofs.Ytdaljeghdiknpaa
open Go.RowKit
set_option linter.unusedVariables false
set_option maxRecDepth 100000
/-- what FaceCounts returns -/
noncomputable def fcF (xss : List (List Int)) : List Int × Int := if isManB xss = true then (cntsL xss (flg xss), 0) else ([], 1)
/-- what EulerCharacteristic returns -/
noncomputable def eulF (xss : List (List Int)) : Int × Int := if isManB xss = true then (eulGo (cntsL xss (flg xss)) xss.length, 0) else (0, 1)
set_option maxHeartbeats 4000000 in
theorem s_FaceCounts_any (w : World) (A : Option Addr) (n c : Nat) (xss : List (List Int)) {lo hi : Nat} (h : RS w lo hi A n xss) (hhi : hi ≤ w.heap.size) (hnc : n ≤ c) :
    Calls Try.prog 29 #[.agg #[.slice A n c]] w fun e w' => ∃ (A1 : Option Addr) (n1 c1 : Nat) (zs : List Int) (code : Int), e = .returned (.tuple #[.slice A1 n1 c1, .int .i64 code]) ∧ Hid ((zs, code) = fcF xss) ∧ Own w' w.heap.size w'.heap.size 2 A1 n1 c1 (zs.map (Value.int .i64)) ∧ n1 ≤ 1048576 ∧ Below w.heap.size w w' := by
  have hm := h.max
  have hl := h.len
  have hR := rs_alloc h hhi (.cells #[.slice A n c] 40)
  have hC : (w.alloc (.cells #[.slice A n c] 40)).cell? ⟨w.heap.size, 0, none⟩ = some (.slice A n c) := al_new _ _ _ _ rfl
  have hB : Below w.heap.size w (w.alloc (.cells #[.slice A n c] 40)) := (Below.refl _ _).alloc (Nat.le_refl _) _
  cases hM : isManB xss with
  | false =>
    have hF : fcF xss = ([], 1) := by unfold fcF; rw [hM]; rfl
    replace hF := Lib.hid hF
    replace hM := Lib.hid hM
    replace hl := Lib.hid hl
    go_enter Try.func29, Try.ntmps29
    go_wp2_with fail
    obtain ⟨W1, hW⟩ : ∃ W1 : World, w.alloc (.cells #[.slice A n c] 40) = W1 := ⟨_, rfl⟩
    have hz1 : W1.heap.size = w.heap.size + 1 := by rw [← hW]; simp
    rw [hW] at hR hC hB ⊢
    clear hW h 
    ((with_reducible refine (l02Is_any A n c xss _ hR (by omega)).mono ?_); rintro e w2 ⟨rfl, f2⟩)
    rw [hM.out]
    have y2 := f2.size
    have B2 : Below W1.heap.size W1 w2 := f2
    have C2 := (f2.cell (p := ⟨w.heap.size, 0, none⟩) (by simp; omega)).trans hC
    have R2 := hR.below f2 (by omega)
    go_wp2_with fail
    go_ret2
    exact ⟨_, 0, _, [], _, rfl, Lib.hid hF.out.symm, Own.nil, by omega, hB.trans (B2.mono (by omega))⟩
  | true =>
    have hP := isManB_iff.1 hM
    have hn1 : 1 ≤ n := by have := hP.r1; omega
    have hn5 : n ≤ 5 := by have := hP.r5; omega
    have hf2 := hP.f2
    have hf4 := hP.f4
    have hS := hP.sys
    replace hP := Lib.hid hP
    replace hS := Lib.hid hS
    have hF : fcF xss = (cntsL xss (flg xss), 0) := by unfold fcF; rw [if_pos hM]
    replace hF := Lib.hid hF
    replace hM := Lib.hid hM
    replace hl := Lib.hid hl
    go_enter Try.func29, Try.ntmps29
    go_wp2_with fail
    obtain ⟨W1, hW⟩ : ∃ W1 : World, w.alloc (.cells #[.slice A n c] 40) = W1 := ⟨_, rfl⟩
    have hz1 : W1.heap.size = w.heap.size + 1 := by rw [← hW]; simp
    rw [hW] at hR hC hB ⊢
    clear hW h 
    ((with_reducible refine (l02Is_any A n c xss _ hR (by omega)).mono ?_); rintro e w2 ⟨rfl, f2⟩)
    rw [hM.out]
    have y2 := f2.size
    have B2 : Below W1.heap.size W1 w2 := f2
    have C2 := (f2.cell (p := ⟨w.heap.size, 0, none⟩) (by simp; omega)).trans hC
    have R2 := hR.below f2 (by omega)
    go_wp2_with fail
    ((with_reducible refine (l02Counts_any A n c xss _ R2 (by omega) (by omega) _ rfl hf4 hS.out).mono ?_); rintro e w9 ⟨A9, c9, rfl, o9, f9⟩)
    have B9 : Below W1.heap.size W1 w9 := below_then B2 f9 (by omega)
    go_wp2_with fail
    go_ret2
    exact ⟨_, _, _, _, _, rfl, Lib.hid hF.out.symm, o9.more (by omega) (Nat.le_refl _), by omega, hB.trans (B9.mono (by omega))⟩
set_option maxHeartbeats 4000000 in
theorem i_FaceCounts_any (w : World) (A : Option Addr) (n c : Nat) (xss : List (List Int)) {lo hi : Nat} (h : RS w lo hi A n xss) (hhi : hi ≤ w.heap.size) (hnc : n ≤ c) :
    Calls Try.prog 28 #[.agg #[.slice A n c]] w fun e w' => ∃ (A1 : Option Addr) (n1 c1 : Nat) (zs : List Int) (code : Int), e = .returned (.tuple #[.slice A1 n1 c1, .int .i64 code]) ∧ Hid ((zs, code) = fcF xss) ∧ Own w' w.heap.size w'.heap.size 2 A1 n1 c1 (zs.map (Value.int .i64)) ∧ n1 ≤ 1048576 ∧ Below w.heap.size w w' := by
  have hm := h.max
  have hl := h.len
  have hR := rs_alloc h hhi (.cells #[.slice A n c] 40)
  have hC : (w.alloc (.cells #[.slice A n c] 40)).cell? ⟨w.heap.size, 0, none⟩ = some (.slice A n c) := al_new _ _ _ _ rfl
  have hB : Below w.heap.size w (w.alloc (.cells #[.slice A n c] 40)) := (Below.refl _ _).alloc (Nat.le_refl _) _
  cases hM : isManB xss with
  | false =>
    have hF : fcF xss = ([], 1) := by unfold fcF; rw [hM]; rfl
    replace hF := Lib.hid hF
    replace hM := Lib.hid hM
    replace hl := Lib.hid hl
    go_enter Try.func28, Try.ntmps28
    go_wp2_with fail
    obtain ⟨W1, hW⟩ : ∃ W1 : World, w.alloc (.cells #[.slice A n c] 40) = W1 := ⟨_, rfl⟩
    have hz1 : W1.heap.size = w.heap.size + 1 := by rw [← hW]; simp
    rw [hW] at hR hC hB ⊢
    clear hW h 
    ((with_reducible refine (isMan_any A n c xss _ hR (by omega) hnc).mono ?_); rintro e w2 ⟨rfl, f2⟩)
    rw [hM.out]
    have y2 := f2.size
    have B2 : Below W1.heap.size W1 w2 := f2
    have C2 := (f2.cell (p := ⟨w.heap.size, 0, none⟩) (by simp; omega)).trans hC
    have R2 := hR.below f2 (by omega)
    go_wp2_with fail
    go_ret2
    exact ⟨_, 0, _, [], _, rfl, Lib.hid hF.out.symm, Own.nil, by omega, hB.trans (B2.mono (by omega))⟩
  | true =>
    have hP := isManB_iff.1 hM
    have hn1 : 1 ≤ n := by have := hP.r1; omega
    have hn5 : n ≤ 5 := by have := hP.r5; omega
    have hf2 := hP.f2
    have hf4 := hP.f4
    have hS := hP.sys
    replace hP := Lib.hid hP
    replace hS := Lib.hid hS
    have hF : fcF xss = (cntsL xss (flg xss), 0) := by unfold fcF; rw [if_pos hM]
    replace hF := Lib.hid hF
    replace hM := Lib.hid hM
    replace hl := Lib.hid hl
    go_enter Try.func28, Try.ntmps28
    go_wp2_with fail
    obtain ⟨W1, hW⟩ : ∃ W1 : World, w.alloc (.cells #[.slice A n c] 40) = W1 := ⟨_, rfl⟩
    have hz1 : W1.heap.size = w.heap.size + 1 := by rw [← hW]; simp
    rw [hW] at hR hC hB ⊢
    clear hW h 
    ((with_reducible refine (isMan_any A n c xss _ hR (by omega) hnc).mono ?_); rintro e w2 ⟨rfl, f2⟩)
    rw [hM.out]
    have y2 := f2.size
    have B2 : Below W1.heap.size W1 w2 := f2
    have C2 := (f2.cell (p := ⟨w.heap.size, 0, none⟩) (by simp; omega)).trans hC
    have R2 := hR.below f2 (by omega)
    go_wp2_with fail
    ((with_reducible refine (faceCounts_any _ A n c xss _ C2 (by omega) R2 (by omega) (by omega) _ rfl hf4 hS.out).mono ?_); rintro e w9 ⟨A9, c9, rfl, o9, f9⟩)
    have B9 : Below W1.heap.size W1 w9 := below_then B2 f9 (by omega)
    go_wp2_with fail
    go_ret2
    exact ⟨_, _, _, _, _, rfl, Lib.hid hF.out.symm, o9.more (by omega) (Nat.le_refl _), by omega, hB.trans (B9.mono (by omega))⟩
set_option maxHeartbeats 4000000 in
theorem i_EulerCharacteristic_any (w : World) (A : Option Addr) (n c : Nat) (xss : List (List Int)) {lo hi : Nat} (h : RS w lo hi A n xss) (hhi : hi ≤ w.heap.size) (hnc : n ≤ c) :
    Calls Try.prog 32 #[.agg #[.slice A n c]] w fun e w' => ∃ (y code : Int), e = .returned (.tuple #[.int .i64 y, .int .i64 code]) ∧ Hid ((y, code) = eulF xss) ∧ Below w.heap.size w w' := by
  have hm := h.max
  have hl := h.len
  have hR := rs_alloc h hhi (.cells #[.slice A n c] 40)
  have hC : (w.alloc (.cells #[.slice A n c] 40)).cell? ⟨w.heap.size, 0, none⟩ = some (.slice A n c) := al_new _ _ _ _ rfl
  have hB : Below w.heap.size w (w.alloc (.cells #[.slice A n c] 40)) := (Below.refl _ _).alloc (Nat.le_refl _) _
  cases hM : isManB xss with
  | false =>
    have hF : eulF xss = (0, 1) := by unfold eulF; rw [hM]; rfl
    replace hF := Lib.hid hF
    replace hM := Lib.hid hM
    replace hl := Lib.hid hl
    go_enter Try.func32, Try.ntmps32
    go_wp2_with fail
    obtain ⟨W1, hW⟩ : ∃ W1 : World, w.alloc (.cells #[.slice A n c] 40) = W1 := ⟨_, rfl⟩
    have hz1 : W1.heap.size = w.heap.size + 1 := by rw [← hW]; simp
    rw [hW] at hR hC hB ⊢
    clear hW h 
    ((with_reducible refine (isMan_any A n c xss _ hR (by omega) hnc).mono ?_); rintro e w2 ⟨rfl, f2⟩)
    rw [hM.out]
    have y2 := f2.size
    have B2 : Below W1.heap.size W1 w2 := f2
    have C2 := (f2.cell (p := ⟨w.heap.size, 0, none⟩) (by simp; omega)).trans hC
    have R2 := hR.below f2 (by omega)
    go_wp2_with fail
    go_ret2
    exact ⟨_, _, rfl, Lib.hid hF.out.symm, hB.trans (B2.mono (by omega))⟩
  | true =>
    have hP := isManB_iff.1 hM
    have hn1 : 1 ≤ n := by have := hP.r1; omega
    have hn5 : n ≤ 5 := by have := hP.r5; omega
    have hf2 := hP.f2
    have hf4 := hP.f4
    have hS := hP.sys
    replace hP := Lib.hid hP
    replace hS := Lib.hid hS
    have hF : eulF xss = (eulGo (cntsL xss (flg xss)) n, 0) := by unfold eulF; rw [if_pos hM]; rw [hl]
    have hcb := cntsL_bound (xss := xss) hf4
    replace hF := Lib.hid hF
    replace hM := Lib.hid hM
    replace hl := Lib.hid hl
    replace hcb := Lib.hid hcb
    go_enter Try.func32, Try.ntmps32
    go_wp2_with fail
    obtain ⟨W1, hW⟩ : ∃ W1 : World, w.alloc (.cells #[.slice A n c] 40) = W1 := ⟨_, rfl⟩
    have hz1 : W1.heap.size = w.heap.size + 1 := by rw [← hW]; simp
    rw [hW] at hR hC hB ⊢
    clear hW h 
    ((with_reducible refine (isMan_any A n c xss _ hR (by omega) hnc).mono ?_); rintro e w2 ⟨rfl, f2⟩)
    rw [hM.out]
    have y2 := f2.size
    have B2 : Below W1.heap.size W1 w2 := f2
    have C2 := (f2.cell (p := ⟨w.heap.size, 0, none⟩) (by simp; omega)).trans hC
    have R2 := hR.below f2 (by omega)
    go_wp2_with fail
    ((with_reducible refine (faceCounts_any _ A n c xss _ C2 (by omega) R2 (by omega) (by omega) _ rfl hf4 hS.out).mono ?_); rintro e w9 ⟨A9, c9, rfl, o9, f9⟩)
    have B9 : Below W1.heap.size W1 w9 := below_then B2 f9 (by omega)
    go_wp2_with fail
    ((with_reducible refine (eulerOf_any A9 n c9 _ _ o9.ri (by omega) hcb.out).mono ?_); rintro e w' ⟨rfl, rfl⟩)
    go_wp2_with fail
    go_ret2
    exact ⟨_, _, rfl, Lib.hid hF.out.symm, hB.trans (B9.mono (by omega))⟩
end Go.Proofs.Ytdaljeghdiknpaa
/- FaceX -/
namespace Go.Proofs.Ytdaljeghdiknpaa
open Go.RowKit
set_option linter.unusedVariables false
set_option maxRecDepth 100000
/-- what FaceLabels returns -/
noncomputable def fclF (xss : List (List Int)) (x : Int) : List Int × Int :=
  if isManB xss = true then (if (decide ((0 : Int) ≤ x) && decide (x ≤ (xss.length : Int) - 1)) = true then (labL (xss.eraseIdx x.toNat) (flg xss), 0) else ([], 2)) else ([], 1)
set_option maxHeartbeats 4000000 in
theorem i_FaceLabels_any (w : World) (A : Option Addr) (n c : Nat) (xss : List (List Int)) {lo hi : Nat} (h : RS w lo hi A n xss) (hhi : hi ≤ w.heap.size) (hnc : n ≤ c) (x : Int) (hx : -9223372036854775808 ≤ x ∧ x ≤ 9223372036854775807) :
    Calls Try.prog 31 #[.agg #[.slice A n c], .int .i64 x] w fun e w' => ∃ (A1 : Option Addr) (n1 c1 : Nat) (zs : List Int) (code : Int), e = .returned (.tuple #[.slice A1 n1 c1, .int .i64 code]) ∧ Hid ((zs, code) = fclF xss x) ∧ Own w' w.heap.size w'.heap.size 2 A1 n1 c1 (zs.map (Value.int .i64)) ∧ n1 ≤ 1048576 ∧ Below w.heap.size w w' := by
  have hm := h.max
  have hl := h.len
  obtain ⟨hx0, hx1⟩ := hx
  have hR := rs_alloc h hhi (.cells #[.slice A n c] 40)
  have hC : (w.alloc (.cells #[.slice A n c] 40)).cell? ⟨w.heap.size, 0, none⟩ = some (.slice A n c) := al_new _ _ _ _ rfl
  have hB : Below w.heap.size w (w.alloc (.cells #[.slice A n c] 40)) := (Below.refl _ _).alloc (Nat.le_refl _) _
  cases hM : isManB xss with
  | false =>
    have hF : fclF xss x = ([], 1) := by unfold fclF; rw [hM]; rfl
    replace hF := Lib.hid hF
    replace hM := Lib.hid hM
    replace hl := Lib.hid hl
    go_enter Try.func31, Try.ntmps31
    go_wp2_with fail
    obtain ⟨W1, hW⟩ : ∃ W1 : World, w.alloc (.cells #[.slice A n c] 40) = W1 := ⟨_, rfl⟩
    have hz1 : W1.heap.size = w.heap.size + 1 := by rw [← hW]; simp
    rw [hW] at hR hC hB ⊢
    clear hW h 
    ((with_reducible refine (isMan_any A n c xss _ hR (by omega) hnc).mono ?_); rintro e w2 ⟨rfl, f2⟩)
    rw [hM.out]
    have y2 := f2.size
    have B2 : Below W1.heap.size W1 w2 := f2
    have C2 := (f2.cell (p := ⟨w.heap.size, 0, none⟩) (by simp; omega)).trans hC
    have R2 := hR.below f2 (by omega)
    go_wp2_with fail
    go_ret2
    exact ⟨_, 0, _, [], _, rfl, Lib.hid hF.out.symm, Own.nil, by omega, hB.trans (B2.mono (by omega))⟩
  | true =>
    have hP := isManB_iff.1 hM
    have hn1 : 1 ≤ n := by have := hP.r1; omega
    have hn5 : n ≤ 5 := by have := hP.r5; omega
    have hf2 := hP.f2
    have hf4 := hP.f4
    have hS := hP.sys
    replace hP := Lib.hid hP
    replace hS := Lib.hid hS
    cases hF1 : (decide ((0 : Int) ≤ x) && decide (x ≤ (n : Int) - 1)) with
    | false =>
      have hF : fclF xss x = ([], 2) := by unfold fclF; rw [hl]; rw [if_pos hM, hF1]; rfl
      replace hF := Lib.hid hF
      replace hM := Lib.hid hM
      replace hl := Lib.hid hl
      replace hF1 := Lib.hid hF1
      go_enter Try.func31, Try.ntmps31
      go_wp2_with fail
      obtain ⟨W1, hW⟩ : ∃ W1 : World, w.alloc (.cells #[.slice A n c] 40) = W1 := ⟨_, rfl⟩
      have hz1 : W1.heap.size = w.heap.size + 1 := by rw [← hW]; simp
      rw [hW] at hR hC hB ⊢
      clear hW h 
      ((with_reducible refine (isMan_any A n c xss _ hR (by omega) hnc).mono ?_); rintro e w2 ⟨rfl, f2⟩)
      rw [hM.out]
      have y2 := f2.size
      have B2 : Below W1.heap.size W1 w2 := f2
      have C2 := (f2.cell (p := ⟨w.heap.size, 0, none⟩) (by simp; omega)).trans hC
      have R2 := hR.below f2 (by omega)
      go_wp2_with fail
      ((with_reducible refine (hasRank_any _ A n c _ _ C2 (by omega)).mono ?_); rintro e w' ⟨rfl, rfl⟩)
      rw [hF1.out]
      go_wp2_with fail
      go_ret2
      exact ⟨_, 0, _, [], _, rfl, Lib.hid hF.out.symm, Own.nil, by omega, hB.trans (B2.mono (by omega))⟩
    | true =>
      obtain ⟨hxa, hxb⟩ : (0 : Int) ≤ x ∧ x ≤ (n : Int) - 1 := by simpa using hF1
      obtain ⟨x, rfl⟩ : ∃ q : Nat, x = q := ⟨x.toNat, by omega⟩
      have hF : fclF xss x = (labL (xss.eraseIdx x) (flg xss), 0) := by unfold fclF; rw [hl]; rw [if_pos hM, if_pos hF1]; rw [Int.toNat_natCast]
      replace hF := Lib.hid hF
      replace hM := Lib.hid hM
      replace hl := Lib.hid hl
      replace hF1 := Lib.hid hF1
      go_enter Try.func31, Try.ntmps31
      go_wp2_with fail
      obtain ⟨W1, hW⟩ : ∃ W1 : World, w.alloc (.cells #[.slice A n c] 40) = W1 := ⟨_, rfl⟩
      have hz1 : W1.heap.size = w.heap.size + 1 := by rw [← hW]; simp
      rw [hW] at hR hC hB ⊢
      clear hW h 
      ((with_reducible refine (isMan_any A n c xss _ hR (by omega) hnc).mono ?_); rintro e w2 ⟨rfl, f2⟩)
      rw [hM.out]
      have y2 := f2.size
      have B2 : Below W1.heap.size W1 w2 := f2
      have C2 := (f2.cell (p := ⟨w.heap.size, 0, none⟩) (by simp; omega)).trans hC
      have R2 := hR.below f2 (by omega)
      go_wp2_with fail
      ((with_reducible refine (hasRank_any _ A n c _ _ C2 (by omega)).mono ?_); rintro e w' ⟨rfl, rfl⟩)
      rw [hF1.out]
      go_wp2_with fail
      ((with_reducible refine (faces_any _ A n c x xss _ C2 R2 (by omega) (by omega) (by omega) _ rfl hf4 hS.out).mono ?_); rintro e w9 ⟨A9, rfl, o9, f9⟩)
      have B9 : Below W1.heap.size W1 w9 := below_then B2 f9 (by omega)
      go_wp2_with fail
      go_ret2
      exact ⟨_, _, _, _, _, rfl, Lib.hid hF.out.symm, o9.more (by omega) (Nat.le_refl _), by omega, hB.trans (B9.mono (by omega))⟩
end Go.Proofs.Ytdaljeghdiknpaa
/- LabP -/
namespace Go.Proofs.Ytdaljeghdiknpaa
set_option linter.unusedVariables false
theorem labOf_le {list : List (List Int)} {n p : Nat} (hs : SysOf list n) (hp : p < n) : labOf list p ≤ cntR list p ∧ (labOf list p = cntR list p ↔ rootB list p = true) := by
  have hr := rootB_rootOf hs hp
  have hle := rootOf_le list p
  unfold labOf
  rcases Nat.lt_or_ge (rootOf list p) p with h | h
  · have := cntR_lt hr h
    refine ⟨by omega, ⟨fun e => by omega, fun e => ?_⟩⟩
    exfalso
    have h1 := (rootOf_spec list p).1
    rw [root_iff] at e
    exact e ⟨_, h, h1⟩
  · have e : rootOf list p = p := by omega
    rw [e] at hr ⊢
    exact ⟨by omega, fun _ => hr, fun _ => rfl⟩
/-- the step of the count, where the label is the count and where it is not -/
theorem lab_step {list : List (List Int)} {n p : Nat} (hs : SysOf list n) (hp : p < n) : (labOf list p = cntR list p ∧ cntR list (p + 1) = cntR list p + 1) ∨ (labOf list p < cntR list p ∧ cntR list (p + 1) = cntR list p) := by
  obtain ⟨h1, h2⟩ := labOf_le hs hp
  have h3 := cntR_succ list p
  by_cases e : labOf list p = cntR list p
  · left
    rw [if_pos (h2.1 e)] at h3
    exact ⟨e, h3⟩
  · right
    rw [if_neg (fun g => e (h2.2 g))] at h3
    exact ⟨by omega, h3⟩
/-- a permutation of the system keeps the labels -/
theorem lab_at {list : List (List Int)} {n p : Nat} {row : List Int} {q : Int} (hs : SysOf list n) (hp : p < n) (hr : row ∈ list) (hq : row[p]? = some q) : ∃ Q : Nat, q = (Q : Int) ∧ Q < n ∧ (labL list n)[Q]? = some (labOf list p) := by
  obtain ⟨h1, h2, h3⟩ := hs row hr
  obtain ⟨h4, h5⟩ := h1 q (List.mem_of_getElem? hq)
  obtain ⟨Q, rfl⟩ := Int.eq_ofNat_of_zero_le h4
  have hQ : Q < n := by omega
  refine ⟨Q, rfl, hQ, ?_⟩
  rw [labL_get hQ]
  have hat : at' row (p : Int) = (Q : Int) := by unfold at'; simp [List.getD_eq_getElem?_getD, hq]
  have hR : Rch list (p : Int) (Q : Int) := by rw [← hat]; exact .step .refl hr
  rw [(labOf_eq_iff hs hp hQ).2 hR]
theorem runW_rch {list : List (List Int)} {n : Nat} (hs : SysOf list n) : ∀ (word : List Int) (x : Int), (∀ g ∈ word, 0 ≤ g ∧ g < list.length) → Rch list x (runW list word x) := by
  intro word
  induction word with
  | nil => intro x _; exact .refl
  | cons g word ih =>
    intro x hw
    obtain ⟨h0, h1⟩ := hw g (by simp)
    obtain ⟨G, rfl⟩ := Int.eq_ofNat_of_zero_le h0
    have hG : G < list.length := by omega
    have hm : list[G] ∈ list := List.getElem_mem hG
    have e : runW list ((G : Int) :: word) x = runW list word (at' list[G] x) := by
      unfold runW at'
      simp [List.getD_eq_getElem?_getD, List.getElem?_eq_getElem hG]
    rw [e]
    exact (Rch.step .refl hm).trans (ih _ fun g hg => hw g (List.mem_cons_of_mem _ hg))
/-- what the law asks at the end -/
theorem apply_in {list : List (List Int)} {n p : Nat} {word : List Int} (hs : isSysB n list = true) (hp : p < n) (hl : word.length ≤ 64) (hw : ∀ g ∈ word, 0 ≤ g ∧ g < list.length) : applyF n list word p = (runW list word p, 0) ∧ decide (runW list word p ∈ plc (labL list n) (labOf list p) n) = true := by
  have hS := (sysOf hs).1
  have hall : allIn 0 ((list.length : Int) - 1) word = true := by
    unfold allIn
    rw [List.all_eq_true]
    intro g hg
    have := hw g hg
    exact inR_iff.2 ⟨this.1, by omega⟩
  refine ⟨?_, decide_eq_true ?_⟩
  · unfold applyF
    rw [if_pos hs, if_pos ⟨inR_iff.2 ⟨by omega, by omega⟩, hl, hall⟩]
  · rw [places_eq hS hp, (sortL_perm _).mem_iff]
    exact (bfs_mem hS (by omega) (by omega)).2 (runW_rch hS word p hw)
theorem orbit_in {list : List (List Int)} {n p : Nat} (hs : isSysB n list = true) (hp : p < n) : orbOF n list p = (plc (labL list n) (labOf list p) n, 0) := by
  unfold orbOF
  rw [if_pos hs, if_pos (inR_iff.2 ⟨by omega, by omega⟩), places_eq (sysOf hs).1 hp]
  rfl
end Go.Proofs.Ytdaljeghdiknpaa
