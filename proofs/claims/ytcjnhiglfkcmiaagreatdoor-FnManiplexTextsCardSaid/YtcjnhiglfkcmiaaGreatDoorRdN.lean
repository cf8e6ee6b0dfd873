/- readNumber of the program, and strings.Split at one byte. No condition but the sizes of memory, strconv's table and its two errors, and a cell of bytealg that holds a number. -/
import Derived.Test.YtcjnhiglfkcmiaaGreatDoorPmP
import Derived.Test.YtcjnhiglfkcmiaaGreatDoorTxt
import Derived.Test.YtcjnhiglfkcmiaaGreatDoorManX
import Derived.Test.YtcjnhiglfkcmiaaGreatDoorShs
import Derived.Lib.SplitLaws
import Derived.Lib.Strings
import Derived.Lib.ParseIntBTie
namespace Go.Proofs.YtcjnhiglfkcmiaaGreatDoor
open Go.RowKit
set_option linter.unusedVariables false
set_option maxRecDepth 100000
/-- strconv's two errors lie in their variables, in every world behind w that is as w below B -/
def EV (B : Nat) (w : World) : Prop := (∃ tp p, ∀ w', Below B w w' → w'.var? Tryz.prog "strconv.ErrSyntax" = some #[.iface tp p]) ∧ (∃ tp p, ∀ w', Below B w w' → w'.var? Tryz.prog "strconv.ErrRange" = some #[.iface tp p])
theorem EV.on {B : Nat} {w w1 : World} (h : EV B w) (hb : Below B w w1) : EV B w1 := by
  obtain ⟨⟨tp, p, h1⟩, ⟨tq, q, h2⟩⟩ := h
  exact ⟨⟨tp, p, fun w' h' => h1 w' (hb.trans h')⟩, ⟨tq, q, fun w' h' => h2 w' (hb.trans h')⟩⟩
theorem strB_lst (l : List UInt8) : (strB l).toList = l := (Lib.toList_data _).trans (strB_data l)
theorem decimalI_any (x : Int) (h0 : -9223372036854775808 ≤ x) (h1 : x ≤ 9223372036854775807) (w : World) {B : Nat} (hT : T10 B w) :
    Calls Tryz.prog 51 #[.int .i64 x] w fun e w' => e = .returned (.string (strB (Lib.itoa x))) ∧ Below w.heap.size w w' := by
  have hF := strconv_FormatInt_10 x h0 h1 w hT.here
  go_enter Tryz.func51, Tryz.ntmps51
  go_wp2_with fail
  ((with_reducible refine hF.mono ?_); rintro e w1 ⟨rfl, k, os, rfl⟩)
  go_wp2_with fail
  go_ret
  exact ⟨rfl, below_grow w k os⟩
/-- what readNumber returns of a word -/
def RdP (L : List UInt8) (e : Ending) : Prop := ∃ (x : Int) (ok : Bool), e = .returned (.tuple #[.int .i64 x, .bool ok]) ∧ (ok = true → rdR x L) ∧ (ok = false → ∀ y : Int, 0 ≤ y → y < 400 → Lib.itoa y ≠ L)
theorem below_bytes (w : World) (t : TypeId) (s : ByteArray) : Below w.heap.size w (Lib.bytesWorld w t s) := by
  refine ⟨rfl, rfl, rfl, by rw [Lib.bytesWorld_size]; omega, fun k hk => Lib.bytesWorld_at_old w t s k hk⟩
set_option maxHeartbeats 4000000 in
theorem readNumber_any (L : List UInt8) (hL : L.length ≤ 1048577) (w : World) {B : Nat} (hT : T10 B w) (hE : EV B w) (hB : B ≤ w.heap.size) :
    Calls Tryz.prog 42 #[.string (strB L)] w fun e w' => RdP L e ∧ Below w.heap.size w w' := by
  have hsz := strB_size L
  have hd := strB_data L
  cases hp : Lib.parseIntB 64 L with
  | ok v =>
    have hb : -9223372036854775808 ≤ v ∧ v ≤ 9223372036854775807 := by
      have := Lib.parseIntB_bounds hp
      simp at this
      omega
    have hP := strconv_ParseInt_10_at64_ok (strB L) (by omega) v (by rw [hd]; exact hp) w
    have hP2 : Calls Tryz.prog 57 #[.string (strB L), .int .i64 10, .int .i64 64] w fun e w' => e = .returned (.tuple #[.int .i64 v, .nilIface]) ∧ Below w.heap.size w w' := by
      refine hP.mono fun e w' ⟨he, hw⟩ => ⟨he, ?_⟩
      rcases hw with rfl | ⟨t, rfl⟩
      · exact Below.refl _ _
      · exact below_bytes _ _ _
    have hD := fun V (hV : Below w.heap.size w V) => decimalI_any v (by have := hb.1; omega) (by have := hb.2; omega) V (hT.on (hV.mono hB))
    have hback : ∀ y : Int, 0 ≤ y → y < 400 → Lib.itoa y = L → v = y := fun y h0 h1 e => by
      have := parse_back h0 h1
      rw [e, hp] at this
      cases this
      rfl
    clear hP hb
    by_cases hq : Lib.itoa v = L
    · have hbe : (Lib.itoa v == L) = true := by simpa using hq
      replace hq := Lib.hid hq
      replace hback := Lib.hid hback
      replace hp := Lib.hid hp
      replace hsz := Lib.hid hsz
      replace hd := Lib.hid hd
      go_enter Tryz.func42, Tryz.ntmps42
      go_wp2_with fail
      ((with_reducible refine hP2.mono ?_); rintro e w1 ⟨rfl, f1⟩)
      have y1 := f1.size
      have hD1 := hD w1 f1
      clear hD hP2
      go_wp2_with fail
      ((with_reducible refine hD1.mono ?_); rintro e w2 ⟨rfl, f2⟩)
      have f3 := f1.trans (f2.mono y1)
      go_wp2_with fail
      go_ret2
      exact ⟨⟨v, true, rfl, fun _ => ⟨hq.out, hback.out⟩, fun h => by cases h⟩, f3⟩
    · have hbe : (Lib.itoa v == L) = false := by simpa using hq
      replace hq := Lib.hid hq
      replace hback := Lib.hid hback
      replace hp := Lib.hid hp
      replace hsz := Lib.hid hsz
      replace hd := Lib.hid hd
      go_enter Tryz.func42, Tryz.ntmps42
      go_wp2_with fail
      ((with_reducible refine hP2.mono ?_); rintro e w1 ⟨rfl, f1⟩)
      have y1 := f1.size
      have hD1 := hD w1 f1
      clear hD hP2
      go_wp2_with fail
      ((with_reducible refine hD1.mono ?_); rintro e w2 ⟨rfl, f2⟩)
      have f3 := f1.trans (f2.mono y1)
      go_wp2_with fail
      go_ret2
      exact ⟨⟨v, false, rfl, (fun h => by cases h), fun _ y h0 h1 e => hq.out (by rw [hback.out y h0 h1 e]; exact e)⟩, f3⟩
  | range =>
    obtain ⟨_, ⟨tp, p, hv⟩⟩ := hE
    have hP := strconv_ParseInt_10_at64_range_var (strB L) (by omega) (by rw [hd]; exact hp) tp p w (hv w (Below.refl _ _))
    have hno : ∀ y : Int, 0 ≤ y → y < 400 → Lib.itoa y ≠ L := fun y h0 h1 e => by
      have := parse_back h0 h1
      rw [e, hp] at this
      cases this
    replace hno := Lib.hid hno
    replace hp := Lib.hid hp
    replace hsz := Lib.hid hsz
    replace hd := Lib.hid hd
    clear hv
    go_enter Tryz.func42, Tryz.ntmps42
    go_wp2_with fail
    ((with_reducible refine hP.mono ?_); rintro e w1 ⟨N, rfl, -, -, f1⟩)
    go_wp2_with fail
    go_ret2
    exact ⟨⟨_, false, rfl, (fun h => by cases h), fun _ => hno.out⟩, f1⟩
  | _ =>
    obtain ⟨⟨tp, p, hv⟩, _⟩ := hE
    have hP := strconv_ParseInt_10_at64_syntax_var (strB L) (by omega) (by rw [hd]; exact hp) tp p w (hv w (Below.refl _ _))
    have hno : ∀ y : Int, 0 ≤ y → y < 400 → Lib.itoa y ≠ L := fun y h0 h1 e => by
      have := parse_back h0 h1
      rw [e, hp] at this
      cases this
    replace hno := Lib.hid hno
    replace hp := Lib.hid hp
    replace hsz := Lib.hid hsz
    replace hd := Lib.hid hd
    clear hv
    go_enter Tryz.func42, Tryz.ntmps42
    go_wp2_with fail
    ((with_reducible refine hP.mono ?_); rintro e w1 ⟨N, rfl, -, -, f1⟩)
    go_wp2_with fail
    go_ret2
    exact ⟨⟨_, false, rfl, (fun h => by cases h), fun _ => hno.out⟩, f1⟩
/-- strings.Split at one byte -/
theorem split1_any (b : UInt8) (L : List UInt8) (hL : L.length ≤ 1048577) (w : World) {B : Nat} (hM : MX B w) :
    Calls Tryz.prog 41 #[.string (strB L), .string ⟨#[b]⟩] w fun e w' => e = .returned (.slice (some ⟨w.heap.size, 0, none⟩) (spl b L).length (spl b L).length) ∧ Rd w' w.heap.size w'.heap.size (some ⟨w.heap.size, 0, none⟩) (spl b L).length ((spl b L).map fun p => .string (strB p)) ∧ Below w.heap.size w w' := by
  obtain ⟨m, hm⟩ := hM
  have hS := strings_Split (strB L) ⟨#[b]⟩ m w (by rw [strB_size]; omega) (hm w (Below.refl _ _)) (Nat.le_refl 1)
  have hc : Lib.countB (strB L) ⟨#[b]⟩ = L.count b := by
    show Lib.count (strB L).data.toList [b] = _
    rw [strB_data, Lib.count_one]
  have hdat := Lib.splitB_data (⟨#[b]⟩ : ByteArray) 0 (L.count b) (strB L)
  have e2 : (Lib.splitB ⟨#[b]⟩ 0 (L.count b) (strB L)).map (·.data.toList) = spl b L := by
    rw [hdat, strB_data]
    exact split_spl b L
  have e3 : (Lib.splitB ⟨#[b]⟩ 0 (L.count b) (strB L)).map Value.string = (spl b L).map fun p => Value.string (strB p) := by
    rw [← e2, List.map_map]
    refine List.map_congr_left fun x _ => ?_
    show Value.string x = Value.string ⟨x.data.toList.toArray⟩
    cases x; simp
  have e1 : L.count b + 1 = (spl b L).length := by
    have h := congrArg List.length e2
    rw [List.length_map, Lib.splitB_all (⟨#[b]⟩ : ByteArray) (Nat.le_refl 1) 0 (L.count b) (strB L) hc] at h
    exact h
  rw [hc, e3, e1] at hS
  refine hS.mono fun e w' ⟨he, hw⟩ => ⟨he, ?_, ?_⟩
  · subst hw
    have hsl := spl_sum b L
    refine ⟨by simp, by omega, fun _ => ⟨w.heap.size, 0, rfl, Nat.le_refl _, by simp, fun k v hk => ?_⟩⟩
    rw [Nat.zero_add, cell_of_row _ _ _ _ _ _ (heap_new w _ _ rfl)]
    simpa using hk
  · subst hw
    exact (Below.refl _ _).alloc (Nat.le_refl _) _
end Go.Proofs.YtcjnhiglfkcmiaaGreatDoor
