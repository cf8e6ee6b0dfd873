/- Plain: the places at which a source hands out multiples of three: no long run of them at every fourth step. No program in sight. No condition. -/
import Derived.Test.YtcjnhiglfkcmiaaGreatDoorLcgP
namespace Go.Proofs.YtcjnhiglfkcmiaaGreatDoor
set_option linter.unusedVariables false
set_option maxRecDepth 100000
/-- a^(2^k) and 1 + a + .. + a^(2^k - 1), modulo 2^64 -/
def dblN : Nat → Nat × Nat
  | 0 => (lcgA, 1)
  | k + 1 => ((dblN k).1 * (dblN k).1 % 18446744073709551616, (dblN k).2 * ((dblN k).1 + 1) % 18446744073709551616)
theorem dbl_eq : ∀ k, (dblN k).1 = lcgA ^ (2 ^ k) % 18446744073709551616 ∧ (dblN k).2 = geo (2 ^ k) % 18446744073709551616
  | 0 => ⟨rfl, rfl⟩
  | k + 1 => by
    obtain ⟨h1, h2⟩ := dbl_eq k
    have e : 2 ^ (k + 1) = 2 * 2 ^ k := by rw [Nat.pow_succ, Nat.mul_comm]
    constructor
    · show (dblN k).1 * (dblN k).1 % 18446744073709551616 = _
      rw [h1, e, Nat.two_mul, Nat.pow_add, ← Nat.mul_mod]
    · show (dblN k).2 * ((dblN k).1 + 1) % 18446744073709551616 = _
      rw [h1, h2, e, geo_double]
      generalize lcgA ^ 2 ^ k = x
      generalize geo (2 ^ k) = y
      generalize 18446744073709551616 = N
      rw [Nat.mul_mod y (x + 1), Nat.add_mod x 1]
      conv => lhs; rw [Nat.mul_mod, Nat.mod_mod, Nat.add_mod, Nat.mod_mod]
theorem dbl33 : dblN 33 = (5255321193111617537, 12608393224923381760) := by decide +kernel
/-- 2^33 steps on -/
theorem jump_eq {k h : Nat} (hk : k = 33) (hh : h < 18446744073709551616) : lcgN (2 ^ k) h = (5255321193111617537 * h + 11001931093778628608) % 18446744073709551616 := by
  obtain ⟨h1, h2⟩ := dbl_eq k
  rw [lcgN_eq _ h hh]
  have e : dblN k = (5255321193111617537, 12608393224923381760) := by rw [hk]; exact dbl33
  rw [e] at h1 h2
  generalize lcgA ^ 2 ^ k = x at *
  generalize geo (2 ^ k) = y at *
  have h1 : 5255321193111617537 = x % 18446744073709551616 := h1
  have h2 : 12608393224923381760 = y % 18446744073709551616 := h2
  have e1 : x * h % 18446744073709551616 = 5255321193111617537 * h % 18446744073709551616 := by rw [h1, Nat.mod_mul_mod]
  have e2 : lcgC * y % 18446744073709551616 = 11001931093778628608 := by
    rw [Nat.mul_mod, ← h2]; decide
  rw [Nat.add_mod, e1, e2]
  omega
theorem jz (h : Nat) : (4 * (152949977 * (h % 4194304)) + 1280793349) % 16777216 = (4 * (152949977 * h) + 1280793349) % 16777216 := by omega
theorem jx (h y z : Nat) (e : y % 16777216 = z % 16777216) : (h + 8589934592 * z) % 18446744073709551616 / 8589934592 % 16777216 = (h / 8589934592 % 16777216 + y) % 16777216 := by omega
theorem jump_x {k h : Nat} (hk : k = 33) (hh : h < 18446744073709551616) : lcgX (lcgN (2 ^ k) h) = (lcgX h + (4 * (152949977 * (h % 4194304)) + 1280793349)) % 16777216 := by
  rw [jump_eq hk hh]
  unfold lcgX
  have e2 := jz h
  have e1 : 5255321193111617537 * h + 11001931093778628608 = h + 8589934592 * (4 * (152949977 * h) + 1280793349) := by omega
  rw [e1]
  exact jx h _ _ e2
/-- the points at every fourth step are apart modulo 2^22 -/
theorem back22 {d h : Nat} (hh : h < 18446744073709551616) (e : lcgN d h % 4194304 = h % 4194304) : 4194304 ∣ d := by
  rw [lcgN_eq d h hh, ← geo_pow d] at e
  have h1 : ((lcgA - 1) * geo d + 1) * h + lcgC * geo d = geo d * ((lcgA - 1) * h + lcgC) + h := by
    rw [Nat.add_mul, Nat.one_mul, Nat.mul_add, Nat.mul_comm lcgC, Nat.mul_comm (lcgA - 1) (geo d), Nat.mul_assoc]
    omega
  rw [h1] at e
  have hd : 4194304 ∣ geo d * ((lcgA - 1) * h + lcgC) := by
    generalize geo d * ((lcgA - 1) * h + lcgC) = t at *
    exact ⟨(t + h) / 4194304 - h / 4194304, by omega⟩
  have ho : ((lcgA - 1) * h + lcgC) % 2 = 1 := by
    rw [Nat.add_mod, Nat.mul_mod, show (lcgA - 1) % 2 = 0 from rfl, show lcgC % 2 = 1 from rfl]
    simp
  exact geo_dvd 22 d (by exact dvd_odd 22 _ _ ho (by exact hd))
theorem apart22 {h a b : Nat} (hh : h < 18446744073709551616) (hab : a < b) (hb : b < 1048576) : lcgN (4 * a) h % 4194304 ≠ lcgN (4 * b) h % 4194304 := by
  intro e
  have e2 : lcgN (4 * b - 4 * a) (lcgN (4 * a) h) = lcgN (4 * b) h := by rw [← lcgN_add, Nat.sub_add_cancel (by omega)]
  obtain ⟨t, ht⟩ := back22 (d := 4 * b - 4 * a) (lcgN_lt hh (4 * a)) (by rw [e2]; exact e.symm)
  omega
theorem lcg_mod4 (h : Nat) : lcg h % 4 = (h + 3) % 4 := by
  unfold lcg
  have h1 : (h * lcgA + lcgC) % 18446744073709551616 % 4 = (h * lcgA + lcgC) % 4 := Nat.mod_mod_of_dvd _ (by decide)
  rw [h1, Nat.add_mod, Nat.mul_mod, show lcgA % 4 = 1 from rfl, show lcgC % 4 = 3 from rfl]
  omega
theorem lcgN_mod4 (d h : Nat) : lcgN d h % 4 = (h + 3 * d) % 4 := by
  induction d with
  | zero => rfl
  | succ d ih => show lcg (lcgN d h) % 4 = _; rw [lcg_mod4]; omega
/-- every value of the class is met within 2^20 rounds -/
theorem hit22 {h v : Nat} (hh : h < 18446744073709551616) (hv : v < 4194304) (h4 : v % 4 = h % 4) : ∃ r, r < 1048576 ∧ lcgN (4 * r) h % 4194304 = v := by
  apply Classical.byContradiction
  intro hno
  have hne : ∀ r, r < 1048576 → lcgN (4 * r) h % 4194304 ≠ v := fun r hr e => hno ⟨r, hr, e⟩
  have hcl : ∀ r, lcgN (4 * r) h % 4 = h % 4 := fun r => by rw [lcgN_mod4]; omega
  have hnd : ((v / 4) :: (List.range 1048576).map fun r => lcgN (4 * r) h % 4194304 / 4).Nodup := by
    rw [List.nodup_cons]
    constructor
    · intro hm
      obtain ⟨r, hr, e⟩ := List.mem_map.1 hm
      have := hne r (List.mem_range.1 hr)
      have := hcl r
      omega
    · rw [List.nodup_iff_pairwise_ne, List.pairwise_map]
      refine List.Pairwise.imp_of_mem ?_ List.pairwise_lt_range
      intro a b ha hb hab e
      have h1 := apart22 hh hab (List.mem_range.1 hb)
      have := hcl a
      have := hcl b
      omega
  have h2 := nodup_lt 1048576 hnd (fun x hx => by
    rcases List.mem_cons.1 hx with e | hx
    · omega
    · obtain ⟨r, _, e⟩ := List.mem_map.1 hx
      omega)
  simp at h2
theorem good_v (a : Nat) (ha : a < 4) : ∃ v, v < 4194304 ∧ v % 4 = a ∧ (4 * (152949977 * v) + 1280793349) % 16777216 % 3 = 2 := by
  have : a = 0 ∨ a = 1 ∨ a = 2 ∨ a = 3 := by omega
  rcases this with rfl | rfl | rfl | rfl
  · exact ⟨40, by decide, by decide, by decide⟩
  · exact ⟨1, by decide, by decide, by decide⟩
  · exact ⟨42, by decide, by decide, by decide⟩
  · exact ⟨3, by decide, by decide, by decide⟩
theorem t3 (a b z : Nat) (h : 3 * a + (3 * b + 2) = z + 16777216) : z % 3 ≠ 0 := by omega
theorem three_no (x s : Nat) (hx : x < 16777216) (hs : s % 16777216 % 3 = 2) (h3 : x % 3 = 0) : (x + s) % 16777216 % 3 ≠ 0 := by
  have e : (x + s) % 16777216 = (x + s % 16777216) % 16777216 := by rw [Nat.add_mod, Nat.mod_eq_of_lt hx]
  have hy : s % 16777216 < 16777216 := Nat.mod_lt _ (by decide)
  rw [e]
  generalize s % 16777216 = y at *
  clear e
  by_cases hxy : x + y < 16777216
  · rw [Nat.mod_eq_of_lt hxy]; omega
  · obtain ⟨z, hz⟩ : ∃ z, x + y = z + 16777216 := ⟨x + y - 16777216, (Nat.sub_add_cancel (Nat.le_of_not_lt hxy)).symm⟩
    have hz2 : z < 16777216 := Nat.lt_of_add_lt_add_right (hz ▸ Nat.add_lt_add hx hy)
    rw [hz, Nat.add_mod_right, Nat.mod_eq_of_lt hz2]
    have ex := Nat.div_add_mod x 3
    have ey := Nat.div_add_mod y 3
    rw [h3] at ex
    rw [hs] at ey
    exact t3 (x / 3) (y / 3) z (by rw [ey, ← hz]; exact congrArg (· + y) ex)
/-- among the states at every fourth step fewer than 2^31 + 2^20 hand out multiples of three one behind the other -/
theorem run_short {h : Nat} (hh : h < 18446744073709551616) : ∃ r, r < 2148532224 ∧ lcgX (lcgN (4 * r) h) % 3 ≠ 0 := by
  obtain ⟨v, hv, hv4, hs⟩ := good_v (h % 4) (by omega)
  obtain ⟨r, hr, e⟩ := hit22 hh hv hv4
  by_cases h3 : lcgX (lcgN (4 * r) h) % 3 = 0
  · obtain ⟨k, hk⟩ : ∃ k : Nat, k = 33 := ⟨_, rfl⟩
    have hj := jump_x (k := k) (h := lcgN (4 * r) h) hk (lcgN_lt hh _)
    rw [e, ← lcgN_add] at hj
    have hp : 2 ^ k = 4 * 2147483648 := by rw [hk]
    refine ⟨r + 2147483648, by omega, ?_⟩
    have e4 : 4 * (r + 2147483648) = 2 ^ k + 4 * r := by omega
    rw [e4, hj]
    exact three_no _ _ (by unfold lcgX; omega) hs h3
  · exact ⟨r, by omega, h3⟩
end Go.Proofs.YtcjnhiglfkcmiaaGreatDoor
