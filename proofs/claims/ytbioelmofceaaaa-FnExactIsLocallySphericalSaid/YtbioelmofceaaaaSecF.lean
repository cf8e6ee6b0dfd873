/- Lists of forms: sortForms, copies of a list of maniplexes, the index of a maniplex. No condition but the sizes of memory. -/
import Derived.Test.YtbioelmofceaaaaCptF
import Derived.Test.YtbioelmofceaaaaFace
namespace Go.Proofs.Ytbioelmofceaaaa
open Go.RowKit
set_option linter.unusedVariables false
set_option maxRecDepth 100000
theorem infoM : (Try.prog.info? 38).map (fun i => (i.zero, i.size, i.bytes)) = some (some (.agg #[.slice none 0 0]), 1, 24) := by kernel_rfl
theorem cloneMs_any (A : Option Addr) (n c : Nat) (vs : List Value) (w : World) {lo hi : Nat} (h : Rd w lo hi A n vs) (hhi : hi ≤ w.heap.size) (h1 : ∀ v ∈ vs, v.oneCell' = true) (hn : 0 < n) (hn2 : n ≤ 1048576) :
    Calls Try.prog 77 #[.slice A n c] w fun e w' => ∃ (A1 : Option Addr) (c1 : Nat), e = .returned (.slice A1 n c1) ∧ Own w' w.heap.size w'.heap.size 38 A1 n c1 vs ∧ Below w.heap.size w w' := by
  obtain ⟨s0, hs0, hu0, hu1, hu2⟩ := info_parts infoM
  obtain ⟨b, o, v0, rfl, _, _, _, _⟩ := h.at_ hn
  have h0 := World.ownsRow_lit (e := 38) (base := w.heap.size) (size := 1) w #[] 0 (Nat.le_refl _) (by omega) rfl
  have hr := h.keep (same_alloc w (.cells #[] 38) lo hi hhi)
  have heq : ∀ w' : World, (binOp .eql 63 (.slice (some ⟨b, o, none⟩) n c) (.slice none 0 0)).run Try.prog w' = .ok (.bool false) w' := fun w' => Lib.run_eql_slice_nil w' _ _ _ _ _ _ _ Try.underlying63
  replace h1 := Lib.hid h1
  go_enter Try.func77, Try.ntmps77
  go_wp2_with (at_builtin; refine wpList_appendL (w.alloc (.cells #[] 38)) rfl (.tmp 5) (.tmp 6) 63 rfl w.heap.size 38 s0 (.agg #[.slice none 0 0]) 24 Try.underlying63 hs0 hu0 hu1 hu2 rfl (by omega) _ 0 0 [] rfl h0 _ n c vs lo hi rfl hr h1.out (by omega) (by simp) ?_)
  intro A2 c2 w2 ho hg hor
  have hb : Below w.heap.size w w2 := ((Below.refl _ _).alloc (Nat.le_refl _) _).grown hg (by simp) (fun q hq => by have := (h0.lt q hq).1; omega)
  go_wp2_with fail
  go_ret
  exact ⟨A2, c2, rfl, Own.of_row ho, hb⟩
theorem sortForms_any (A : Option Addr) (n c : Nat) (ps : List VF) (w : World) {lo hi lo0 hi0 : Nat} (h : Own w lo hi 38 A n c (ps.map (·.1))) (hn : n ≤ 1048576) (h0 : 0 < n) (hhi : hi ≤ w.heap.size) (hF : ∀ p ∈ ps, GoodF w lo0 hi0 p) (hh : hi0 ≤ lo) (hlw : lo ≤ w.heap.size) :
    Calls Try.prog 76 #[.slice A n c] w fun e w' => ∃ (A' : Option Addr) (ps' : List VF), ps'.Perm ps ∧ e = .returned (.slice A' (dnF ps' n).length c) ∧ Rd w' lo hi A' (dnF ps' n).length ((dnF ps' n).map (·.1)) ∧ Below lo w w' := by
  have hS := sortF_any A n c ps w h.1 hn h0 hlw hF hh
  go_enter Try.func76, Try.ntmps76
  go_wp2_with fail
  ((with_reducible refine hS.mono ?_); rintro e w1 ⟨rfl, ps1, hp, ho, hB⟩)
  have hz := hB.size
  have hC := compactF_any A n c ps1 w1 (lo := lo) (hi := hi) (lo0 := lo0) (hi0 := hi0) ⟨ho, h.2⟩ hn (by omega) (fun p hp1 => (hF p (hp.mem_iff.1 hp1)).below hB hh) hh (by omega)
  clear hS
  go_wp2_with fail
  ((with_reducible refine hC.mono ?_); rintro e w2 ⟨A', rfl, hR, hB2⟩)
  have hB3 := hB.trans hB2
  replace hp := Lib.hid hp
  replace hR := Lib.hid hR
  clear hC
  go_wp2_with fail
  go_ret
  exact ⟨A', ps1, hp.out, rfl, hR.out, hB3⟩
set_option maxHeartbeats 2000000 in
theorem indexF_any (A : Option Addr) (n c : Nat) (vs : List Value) (u v : Value) (w : World) {lo hi : Nat} (h : Rd w lo hi A n vs) (hhi : hi ≤ w.heap.size) (hn : n ≤ 1048576)
    (hcl : ∀ V, Below w.heap.size w V → ∀ x ∈ vs, Calls Try.prog 79 #[.agg #[x], u, v] V fun e w' => (∃ t : Bool, e = .returned (.bool t)) ∧ Below V.heap.size V w')
    (h1 : ∀ x ∈ vs, ∃ A n c, x = .slice A n c) :
    Calls Try.prog 78 #[.slice A n c, .func (.func 79) #[] #[u, v]] w fun e w' => (∃ t : Int, e = .returned (.int .i64 t)) ∧ Below w.heap.size w w' := by
  replace hcl := Lib.hid hcl
  replace h1 := Lib.hid h1
  go_enter Try.func78, Try.ntmps78
  go_wp2_with fail
  go_loopw [8] (fun kv wq => ∃ k : Nat, k ≤ n ∧ kv = .int .i64 k ∧ Below w.heap.size w wq) (fun kv _ => n - (intOf kv).toNat)
  case atStart => exact ⟨0, by omega, rfl, Below.refl _ _⟩
  case round =>
    obtain ⟨k, hk, rfl, hB⟩ := hrel
    have yB := hB.size
    by_cases hlt : k < n
    · obtain ⟨b, o, x, rfl, hb0, hb1, hx, hc⟩ := (h.below hB hhi).at_ hlt
      have hxm := List.mem_of_getElem? hx
      obtain ⟨Ax, nx, cx, rfl⟩ := h1.out _ hxm
      have hC := hcl.out wr hB _ hxm
      clear hx hxm
      go_wp2_with fail
      ((with_reducible refine hC.mono ?_); rintro e w2 ⟨⟨t, rfl⟩, hB2⟩)
      have hB3 := below_then hB hB2 yB
      clear hC
      cases t
      · go_wp2_with fail
        go_roundw
        case measure => simp [intOf]; omega
        case rel => exact ⟨k + 1, by omega, by go_num, hB3⟩
      · go_wp2_with fail
        go_ret
        exact ⟨⟨_, rfl⟩, hB3⟩
    · go_wp2_with fail
      go_ret
      exact ⟨⟨_, rfl⟩, hB⟩
end Go.Proofs.Ytbioelmofceaaaa
