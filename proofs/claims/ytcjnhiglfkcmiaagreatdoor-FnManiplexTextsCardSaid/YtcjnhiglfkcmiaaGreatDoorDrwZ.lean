/- Draws: a number of points (l01Size). -/
import Derived.Test.YtcjnhiglfkcmiaaGreatDoorDrwS
namespace Go.Proofs.YtcjnhiglfkcmiaaGreatDoor
open Go.RowKit
set_option linter.unusedVariables false
set_option maxRecDepth 100000
/-- a number v with v <= most has been drawn -/
def StepP (w w' : World) (lo g : Nat) (T : TypeId) (A : Option Addr) (n c : Nat) (bs : List Int) (most v : Nat) : Prop :=
  v ≤ most ∧ ∃ (i' h' : Nat), Src w' lo g T A n c bs i' h' ∧ Chg g (g + 1) w w'
theorem next_nat (w : World) (lo g : Nat) (A : Option Addr) (n c : Nat) (bs : List Int) (i h : Nat) (s : Src w lo g 53 A n c bs i h) (x : Int) (h1 : 1 ≤ x) (hx : x ≤ 1099511627776) :
    Calls Tryz.prog 21 #[.pointer (some ⟨g, 0, none⟩), .int .i64 x] w fun e w' => ∃ (v : Nat), e = .returned (.int .i64 v) ∧ StepP w w' lo g 53 A n c bs (x - 1).toNat v := by
  refine (next_any w lo g A n c bs i h s x h1 hx).mono ?_
  rintro e w' ⟨v, i', rfl, P⟩
  obtain ⟨V, rfl⟩ := Int.eq_ofNat_of_zero_le P.ge
  have := P.lt
  exact ⟨V, rfl, by omega, i', _, P.src, P.chg⟩
