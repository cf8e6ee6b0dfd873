/- strconv's two errors, from what the listed variables hold. No condition. -/
import Derived.Test.YtnhcamckngonaaaDoorRdN
import Derived.Stop.LaidErr
namespace Go.Proofs.YtnhcamckngonaaaDoor
open Go.ChangeShapes Go.WideShapes Go.ChangeAt Go.RowKit
set_option linter.unusedVariables false
theorem var_all {P : Program} {n : String} {W : World} {cs : Array Value} (hv : W.var? P n = some cs) : ∀ w', Below W.heap.size W w' → w'.var? P n = some cs := by
  intro w' hb
  unfold World.var? at hv ⊢
  cases hg : P.globalNamed n with
  | none => rw [hg] at hv; simp at hv
  | some g =>
    rw [hg] at hv
    simp only [Option.bind_some] at hv ⊢
    have hlt : g < W.heap.size := by
      by_cases h : g < W.heap.size
      · exact h
      · have : W.heap[g]? = none := by simp; omega
        rw [this] at hv
        simp at hv
    rw [hb.block g hlt]
    exact hv
theorem star_es : "*" ++ "errors.errorString" = "*errors.errorString" := by decide
theorem row_es (u : TypeId) (h : Tryd.prog.typeName? 3 u = some "*errors.errorString") : u = 145 :=
  typeName_ptr_named (nm := "errors.errorString") (by rw [star_es]; kernel_rfl) (by kernel_rfl) (by decide) u (by rw [star_es]; exact h)
theorem ev_of {x1 x2 : List UInt8} {r1 r2 : List (String × DataW Unit)} {W : World}
    (h4 : laidMet Tryd.prog (("strconv.ErrRange", .iface "*errors.errorString" (.ptr (.agg [.lit (.string x1)]))) :: r1) W)
    (h5 : laidMet Tryd.prog (("strconv.ErrSyntax", .iface "*errors.errorString" (.ptr (.agg [.lit (.string x2)]))) :: r2) W) : EV W.heap.size W := by
  obtain ⟨a, s, hv, _⟩ := laid_sentinel (g := 2) (ti := 82) (tp := 145) (te := 147) (ts := 9) h4 (by kernel_rfl) (by kernel_rfl) Tryd.underlying82 row_es Tryd.underlying145 Tryd.underlying147 rfl rfl Tryd.underlying9 (by kernel_rfl) (by kernel_rfl)
  obtain ⟨a2, s2, hv2, _⟩ := laid_sentinel (g := 1) (ti := 82) (tp := 145) (te := 147) (ts := 9) h5 (by kernel_rfl) (by kernel_rfl) Tryd.underlying82 row_es Tryd.underlying145 Tryd.underlying147 rfl rfl Tryd.underlying9 (by kernel_rfl) (by kernel_rfl)
  exact ⟨⟨_, _, var_all hv2⟩, ⟨_, _, var_all hv⟩⟩
end Go.Proofs.YtnhcamckngonaaaDoor
