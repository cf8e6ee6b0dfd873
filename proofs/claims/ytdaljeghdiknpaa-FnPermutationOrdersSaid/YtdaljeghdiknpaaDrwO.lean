/- Draws: DrawOrbitLabels; the dice's numbers (below_nat), hasInt of laws.go. -/
import Derived.Test.YtdaljeghdiknpaaDrwM
import Derived.Test.YtdaljeghdiknpaaDic
namespace Go.Proofs.Ytdaljeghdiknpaa
open Go.RowKit
set_option linter.unusedVariables false
set_option maxRecDepth 100000
/-- a row of numbers of the call's own, and the source -/
structure WrdS (w wr : World) (lo g : Nat) (T TI : TypeId) (A : Option Addr) (n c : Nat) (bs : List Int) (ys : List Int) (A1 : Option Addr) (c1 : Nat) (i' h' : Nat) : Prop where
  row : wr.ownsRow w.heap.size TI 1 (.slice A1 ys.length c1) ys.length (ys.map (Value.int .i64))
  src : Src wr lo g T A n c bs i' h'
  chg : Chg g (g + 1) w wr
  old : g < w.heap.size
section
variable {w wr wq : World} {lo g : Nat} {T TI : TypeId} {A : Option Addr} {n c : Nat} {bs ys : List Int} {A1 : Option Addr} {c1 : Nat} {i' h' i2 h2 : Nat}
theorem WrdS.next (s : WrdS w wr lo g T TI A n c bs ys A1 c1 i' h') (S : Src wq lo g T A n c bs i2 h2) (C : Chg g (g + 1) wr wq) : WrdS w wq lo g T TI A n c bs ys A1 c1 i2 h2 := by
  have ho := s.old
  have hsz := s.chg.size
  have hs : Same w.heap.size wr.heap.size wr wq := Same.of_chg C (Nat.le_refl _) (by omega)
  exact ⟨((Own.of_row s.row).keep hs).1, S, s.chg.trans C ⟨Nat.le_refl _, Nat.le_refl _⟩ ⟨Nat.le_refl _, Nat.le_refl _⟩, ho⟩
theorem WrdS.app {x : Int} {c3 : Nat} {A3 : Option Addr} (s : WrdS w wr lo g T TI A n c bs ys A1 c1 i' h') (hg : wr.grownBy wq (Value.slice A1 ys.length c1).ownBlock)
    (ho2 : wq.ownsRow w.heap.size TI 1 (.slice A3 (ys.length + 1) c3) (ys.length + 1) ((ys.map (Value.int .i64)) ++ [.int .i64 x])) : WrdS w wq lo g T TI A n c bs (ys ++ [x]) A3 c3 i' h' := by
  have hz := hg.size
  have hw := s.chg.size
  have hnew : ∀ q, (Value.slice A1 ys.length c1).ownBlock = some q → w.heap.size ≤ q := fun q hq => (s.row.lt q hq).1
  have hold : ∀ k, k < w.heap.size → wq.heap[k]? = wr.heap[k]? := fun k hk => hg.block k (by omega) (fun e => by have := hnew k e.symm; omega)
  have ho' := s.old
  refine ⟨by rw [List.length_append, List.map_append]; exact ho2, ?_, ?_, ho'⟩
  · exact ⟨(hold g ho').trans s.src.blk, s.src.above, s.src.code.keep fun k _ hk => hold k (by have := s.src.above; omega), s.src.byte, s.src.le, s.src.st⟩
  · exact ⟨hg.os.trans s.chg.os, hg.tape.trans s.chg.tape, hg.output.trans s.chg.output, by omega, fun k hk e => (hold k hk).trans (s.chg.block k hk e)⟩
end
/-- a number and a system's rows of the call's own -/
def DrwSysP (w w' : World) (TS TI : TypeId) (N : Int) (A1 : Option Addr) (m c1 : Nat) : Prop :=
  ∃ (xss : List (List Int)), OwnS w' w.heap.size w'.heap.size TS TI A1 m c1 xss ∧ m ≤ 17 ∧ (∀ xs ∈ xss, xs.length ≤ 402) ∧ -1 ≤ N ∧ N ≤ 402 ∧ Below w.heap.size w w'
theorem drawOrbit_any (w : World) (A : Option Addr) (n c : Nat) (bs : List Int) (h : Rd w 0 w.heap.size A n (bs.map (Value.int .u8))) (hb : ∀ x ∈ bs, 0 ≤ x ∧ x < 256) (hn : n ≤ 1048576) :
    Calls Try.prog 12 #[.slice A n c] w fun e w' => ∃ (N : Int) (A1 : Option Addr) (m c1 : Nat), e = .returned (.tuple #[.int .i64 N, .slice A1 m c1]) ∧ DrwSysP w w' 27 2 N A1 m c1 := by
  have hF := from_any w A n c bs h hb hn
  replace hb := Lib.hid hb
  go_enter Try.func12, Try.ntmps12
  go_wp2_with fail
  ((with_reducible refine hF.mono ?_); rintro e w1 ⟨H1, rfl, S1, B1⟩)
  clear hF
  have s1 := B1.size
  have g1 := S1.lt
  have hS := small_any w1 _ _ A n c bs _ _ S1 20 (by omega)
  rw [show ((20 : Nat) : Int) = 20 from rfl] at hS
  go_wp2_with fail
  ((with_reducible refine hS.mono ?_); rintro e w2 ⟨N, A1, m, c1, rfl, xss, i', h', O2, hm, hx, hN0, hN1, S2, C2⟩)
  clear hS
  have E2 := B1.trans (C2.below (B := w.heap.size) (Nat.le_refl _) s1)
  go_wp2_with fail
  go_ret2
  exact ⟨N, A1, m, c1, rfl, xss, O2.more s1 (Nat.le_refl _), hm, hx, hN0, hN1, E2⟩
theorem below_nat (w : World) (lo g : Nat) (A : Option Addr) (n c : Nat) (bs : List Int) (i h : Nat) (s : Src w lo g 79 A n c bs i h) (x : Int) (h1 : 1 ≤ x) (hx : x ≤ 1099511627776) :
    Calls Try.prog 17 #[.pointer (some ⟨g, 0, none⟩), .int .i64 x] w fun e w' => ∃ (v : Nat), e = .returned (.int .i64 v) ∧ StepP w w' lo g 79 A n c bs (x - 1).toNat v := by
  refine (below_any w lo g A n c bs i h s x h1 hx).mono ?_
  rintro e w' ⟨v, i', rfl, P⟩
  obtain ⟨V, rfl⟩ := Int.eq_ofNat_of_zero_le P.ge
  have := P.lt
  exact ⟨V, rfl, by omega, i', _, P.src, P.chg⟩
theorem hasInt_any (A : Option Addr) (n c : Nat) (xs : List Int) (x : Int) (w : World) {lo hi : Nat} (h : RI w lo hi A n xs) :
    Calls Try.prog 20 #[.slice A n c, .int .i64 x] w fun e w' => e = .returned (.bool (decide (x ∈ xs))) ∧ w = w' := by
  have hm := h.max
  have hl := Lib.hid h.len
  go_enter Try.func20, Try.ntmps20
  go_wp2_with fail
  go_loopw [5] (fun kv wq => ∃ k : Nat, k ≤ n ∧ kv = .int .i64 k ∧ Hid (x ∉ xs.take k) ∧ w = wq) (fun kv _ => n - (intOf kv).toNat)
  case atStart => exact ⟨0, by omega, rfl, Lib.hid (by simp), by first | rfl | trivial⟩
  case round =>
    obtain ⟨k, hk, rfl, hnx, rfl⟩ := hrel
    by_cases hlt : k < n
    · obtain ⟨b, o, v, rfl, _, _, hv, hcv⟩ := h.at_ hlt
      have htk : xs.take (k + 1) = xs.take k ++ [v] := by rw [List.take_add_one, hv]; rfl
      by_cases hvx : v = x
      · subst hvx
        have hix : decide (v ∈ xs) = true := decide_eq_true (List.mem_of_getElem? hv)
        replace hv := Lib.hid hv
        replace htk := Lib.hid htk
        replace hix := Lib.hid hix
        go_wp2_with fail
        go_ret
        exact ⟨ret_bool hix.out.symm, rfl⟩
      · have hbq : (v == x) = false := by simpa using hvx
        have hn2 : x ∉ xs.take (k + 1) := by rw [htk]; simp only [List.mem_append, List.mem_singleton]; rintro (hh | hh); exact hnx.out hh; exact hvx hh.symm
        replace hn2 := Lib.hid hn2
        replace hv := Lib.hid hv
        replace htk := Lib.hid htk
        go_wp2_with fail
        go_roundw
        case measure => simp [intOf]; omega
        case rel => exact ⟨k + 1, by omega, by go_num, hn2, by first | rfl | trivial⟩
    · have hkn : k = n := by omega
      subst hkn
      have hix : decide (x ∈ xs) = false := by apply decide_eq_false; have := hnx.out; rwa [List.take_of_length_le (by have := hl.out; omega)] at this
      replace hix := Lib.hid hix
      go_wp2_with fail
      go_ret
      exact ⟨ret_bool hix.out.symm, rfl⟩
end Go.Proofs.Ytdaljeghdiknpaa
