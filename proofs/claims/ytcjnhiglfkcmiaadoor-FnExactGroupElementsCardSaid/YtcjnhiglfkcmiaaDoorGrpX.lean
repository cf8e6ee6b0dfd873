/- GroupElements, the program's and the reference's. No condition but the sizes of memory and strconv's table of powers of ten. -/
import Derived.Test.YtcjnhiglfkcmiaaDoorGrpU
import Derived.Test.YtcjnhiglfkcmiaaDoorWord
namespace Go.Proofs.YtcjnhiglfkcmiaaDoor
open Go.RowKit
set_option linter.unusedVariables false
set_option maxRecDepth 100000
theorem grpF_ok {n : Nat} {xss zss : List (List Int)} {ok : Bool} (hs : isSysB (n : Int) xss = true) (h : GrpO n xss zss ok) : grpF (n : Int) xss = if ok = true then (zss, 0) else ([], 3) := by
  unfold grpF
  rw [if_pos hs, Int.toNat_natCast]
  unfold GrpO at h
  cases ok with
  | true =>
    rw [if_pos rfl] at h
    obtain ⟨F, e1, e2⟩ := h
    rw [e1, e2]; rfl
  | false =>
    rw [if_neg (by decide)] at h
    rw [h]; rfl
theorem grpF_no {n : Int} {xss : List (List Int)} (hs : isSysB n xss = false) : grpF n xss = ([], 1) := by
  unfold grpF
  rw [hs]; rfl
set_option maxHeartbeats 1000000 in
theorem i_GroupElements_any (w : World) (n : Int) (hn : -9223372036854775808 ≤ n ∧ n ≤ 9223372036854775807) (A : Option Addr) (m c : Nat) (xss : List (List Int)) {lo hi : Nat} (h : RS w lo hi A m xss) (hhi : hi ≤ w.heap.size) {B : Nat} (hT : T10 B w) (hB : B ≤ w.heap.size) :
    Calls Tryd.prog 27 #[.int .i64 n, .slice A m c] w fun e w' => ∃ (A1 : Option Addr) (n1 c1 : Nat) (zss : List (List Int)) (code : Int), e = .returned (.tuple #[.slice A1 n1 c1, .int .i64 code]) ∧ Hid ((zss, code) = grpF n xss) ∧ OwnS w' w.heap.size w'.heap.size 24 2 A1 n1 c1 zss ∧ n1 + numsIn zss ≤ 1048576 ∧ Below w.heap.size w w' := by
  cases hs : isSysB n xss with
  | false =>
    have hF := grpF_no hs
    replace hF := Lib.hid hF
    replace hs := Lib.hid hs
    go_enter Tryd.func27, Tryd.ntmps27
    go_wp2_with fail
    ((with_reducible refine (isSys_any _ _ _ _ xss _ h hhi).mono ?_); rintro e w1 ⟨rfl, hb1⟩)
    rw [hs.out]
    go_wp2_with fail
    go_ret2
    exact ⟨_, 0, _, [], _, rfl, Lib.hid hF.out.symm, OwnS.nil, by simp [numsIn], hb1⟩
  | true =>
    have hsP := isSysB_iff.1 hs
    have h0 := hsP.1
    obtain ⟨n, rfl⟩ : ∃ q : Nat, n = (q : Int) := ⟨n.toNat, by omega⟩
    have hK := fun V (hV : Below w.heap.size w V) => groupElements_any n A m c xss V (h.below hV hhi) (by have := hV.size; omega) hsP (hT.on (hV.mono hB)) (by have := hV.size; omega)
    replace hsP := Lib.hid hsP
    replace hs := Lib.hid hs
    go_enter Tryd.func27, Tryd.ntmps27
    go_wp2_with fail
    ((with_reducible refine (isSys_any _ _ _ _ xss _ h hhi).mono ?_); rintro e w1 ⟨rfl, hb1⟩)
    have hs1 := hb1.size
    have hK1 := hK w1 hb1
    clear hK
    rw [hs.out]
    go_wp2_with fail
    ((with_reducible refine hK1.mono ?_); rintro e w2 ⟨A1, n1, c1, zss, ok, rfl, hO, oS, hnum, f2⟩)
    clear hK1
    have hB2 := hb1.trans (f2.mono hs1)
    have hF := grpF_ok hs.out hO.out
    cases ok with
    | true =>
      rw [if_pos rfl] at hF
      replace hF := Lib.hid hF.symm
      go_wp2_with fail
      go_ret2
      exact ⟨A1, n1, c1, zss, _, rfl, hF, oS.more hs1 (Nat.le_refl _), hnum, hB2⟩
    | false =>
      rw [if_neg (by decide)] at hF
      replace hF := Lib.hid hF.symm
      go_wp2_with fail
      go_ret2
      exact ⟨_, 0, _, [], _, rfl, hF, OwnS.nil, by simp [numsIn], hB2⟩
set_option maxHeartbeats 1000000 in
theorem s_GroupElements_any (w : World) (n : Int) (hn : -9223372036854775808 ≤ n ∧ n ≤ 9223372036854775807) (A : Option Addr) (m c : Nat) (xss : List (List Int)) {lo hi : Nat} (h : RS w lo hi A m xss) (hhi : hi ≤ w.heap.size) :
    Calls Tryd.prog 25 #[.int .i64 n, .slice A m c] w fun e w' => ∃ (A1 : Option Addr) (n1 c1 : Nat) (zss : List (List Int)) (code : Int), e = .returned (.tuple #[.slice A1 n1 c1, .int .i64 code]) ∧ Hid ((zss, code) = grpF n xss) ∧ OwnS w' w.heap.size w'.heap.size 24 2 A1 n1 c1 zss ∧ n1 + numsIn zss ≤ 1048576 ∧ Below w.heap.size w w' := by
  cases hs : isSysB n xss with
  | false =>
    have hF := grpF_no hs
    replace hF := Lib.hid hF
    replace hs := Lib.hid hs
    go_enter Tryd.func25, Tryd.ntmps25
    go_wp2_with fail
    ((with_reducible refine (l01System_any _ _ _ _ xss _ h hhi).mono ?_); rintro e w1 ⟨rfl, hb1⟩)
    rw [hs.out, show code01 false = 1 from rfl]
    go_wp2_with fail
    go_ret2
    exact ⟨_, 0, _, [], _, rfl, Lib.hid hF.out.symm, OwnS.nil, by simp [numsIn], hb1⟩
  | true =>
    have hsP := isSysB_iff.1 hs
    have h0 := hsP.1
    obtain ⟨n, rfl⟩ : ∃ q : Nat, n = (q : Int) := ⟨n.toNat, by omega⟩
    have hK := fun V (hV : Below w.heap.size w V) => l01Group_any n A m c xss V (h.below hV hhi) (by have := hV.size; omega) hsP
    replace hsP := Lib.hid hsP
    replace hs := Lib.hid hs
    go_enter Tryd.func25, Tryd.ntmps25
    go_wp2_with fail
    ((with_reducible refine (l01System_any _ _ _ _ xss _ h hhi).mono ?_); rintro e w1 ⟨rfl, hb1⟩)
    have hs1 := hb1.size
    have hK1 := hK w1 hb1
    clear hK
    rw [hs.out, show code01 true = 0 from rfl]
    go_wp2_with fail
    ((with_reducible refine hK1.mono ?_); rintro e w2 ⟨A1, n1, c1, zss, ok, rfl, hO, oS, hnum, f2⟩)
    clear hK1
    have hB2 := hb1.trans (f2.mono hs1)
    have hF := grpF_ok hs.out hO.out
    cases ok with
    | true =>
      rw [if_pos rfl] at hF
      replace hF := Lib.hid hF.symm
      go_wp2_with fail
      go_ret2
      exact ⟨A1, n1, c1, zss, _, rfl, hF, oS.more hs1 (Nat.le_refl _), hnum, hB2⟩
    | false =>
      rw [if_neg (by decide)] at hF
      replace hF := Lib.hid hF.symm
      go_wp2_with fail
      go_ret2
      exact ⟨_, 0, _, [], _, rfl, hF, OwnS.nil, by simp [numsIn], hB2⟩
end Go.Proofs.YtcjnhiglfkcmiaaDoor
