/- Walks: RunMoves, the program's and the reference's. No condition but the sizes of memory. -/
import Derived.Test.YtbioelmofceaaaaManX
namespace Go.Proofs.Ytbioelmofceaaaa
open Go.RowKit
set_option linter.unusedVariables false
set_option maxRecDepth 100000
noncomputable def runF (xss : List (List Int)) (x : Int) (word : List Int) : Int × Int :=
  if isManB xss = true then (if (inR 0 ((flg xss : Nat) - 1 : Int) x && (decide (word.length ≤ 64) && allIn 0 ((xss.length : Int) - 1) word)) = true then (runW xss word x, 0) else (0, 2)) else (0, 1)
theorem runW_take {xss : List (List Int)} {word : List Int} {k : Nat} {g x : Int} (h : word[k]? = some g) : runW xss (word.take (k + 1)) x = (xss.getD g.toNat []).getD (runW xss (word.take k) x).toNat 0 := by
  rw [take_succ_of h, runW_snoc]
theorem l02Flags_any (A : Option Addr) (n c : Nat) (xss : List (List Int)) (w : World) {lo hi : Nat} (h : RS w lo hi A n xss) (hhi : hi ≤ w.heap.size) (hn : 0 < n) :
    Calls Try.prog 43 #[.agg #[.slice A n c]] w fun e w' => e = .returned (.int .i64 (flg xss : Nat)) ∧ Below w.heap.size w w' := by
  obtain ⟨b0, o0, A0, n0, c0, p0, rfl, _, _, hp0, hc0, hr0⟩ := (rs_alloc h hhi (.cells #[.slice A n c] 38)).at_ (k := 0) hn
  rw [Nat.add_zero] at hc0
  have hm := h.max
  have hm0 := hr0.max
  have hf : flg xss = n0 := by rw [flg_of hp0]; exact hr0.len
  replace hf := Lib.hid hf
  have hpn : ¬ n = 0 := by omega
  clear hp0
  go_enter Try.func43, Try.ntmps43
  go_wp2_with fail
  go_ret
  exact ⟨ret_int (by rw [hf.out]), (Below.refl _ _).alloc (Nat.le_refl _) _⟩
end Go.Proofs.Ytbioelmofceaaaa
