/- Plain: the numbers that a source hands out: two states less than 2^64 steps apart differ. No program in sight. No condition. -/
import Derived.WalkKit
namespace Go.Proofs.YtcjnhiglfkcmiaaGreatDoor
set_option linter.unusedVariables false
set_option maxRecDepth 100000
def lcgA : Nat := 6364136223846793005
def lcgC : Nat := 1442695040888963407
def lcg (h : Nat) : Nat := (h * lcgA + lcgC) % 18446744073709551616
def lcgN : Nat → Nat → Nat
  | 0, h => h
  | d + 1, h => lcg (lcgN d h)
/-- 1 + a + .. + a^(d-1) -/
def geo : Nat → Nat
  | 0 => 0
  | d + 1 => lcgA * geo d + 1
theorem geo_pow (d : Nat) : (lcgA - 1) * geo d + 1 = lcgA ^ d := by
  induction d with
  | zero => rfl
  | succ d ih =>
    rw [Nat.pow_succ, ← ih]
    have : lcgA = (lcgA - 1) + 1 := rfl
    generalize lcgA - 1 = b at *
    rw [show geo (d + 1) = lcgA * geo d + 1 from rfl, this]
    generalize geo d = g
    rw [Nat.mul_add, Nat.add_mul, Nat.add_mul, Nat.mul_add, Nat.mul_add]
    simp only [Nat.one_mul, Nat.mul_one]
    rw [Nat.mul_comm (b * g) b, ]
    omega
theorem geo_add (d e : Nat) : geo (d + e) = lcgA ^ e * geo d + geo e := by
  induction e with
  | zero => simp [geo]
  | succ e ih =>
    rw [show d + (e + 1) = (d + e) + 1 by omega, show geo (d + e + 1) = lcgA * geo (d + e) + 1 from rfl, ih, show geo (e + 1) = lcgA * geo e + 1 from rfl, Nat.pow_succ, Nat.mul_add]
    rw [← Nat.mul_assoc, Nat.mul_comm lcgA (lcgA ^ e)]
    omega
theorem geo_double (e : Nat) : geo (2 * e) = geo e * (lcgA ^ e + 1) := by
  rw [show 2 * e = e + e by omega, geo_add, Nat.mul_add, Nat.mul_one, Nat.mul_comm]
theorem pow_mod4 (e : Nat) : lcgA ^ e % 4 = 1 := by
  induction e with
  | zero => rfl
  | succ e ih => rw [Nat.pow_succ, Nat.mul_mod, ih]; rfl
theorem geo_mod2 (d : Nat) : geo d % 2 = d % 2 := by
  induction d with
  | zero => rfl
  | succ d ih =>
    rw [show geo (d + 1) = lcgA * geo d + 1 from rfl]
    have : lcgA % 2 = 1 := rfl
    have h2 : (lcgA * geo d) % 2 = geo d % 2 := by rw [Nat.mul_mod, this, Nat.one_mul, Nat.mod_mod]
    omega
theorem dvd_odd (k x y : Nat) (hy : y % 2 = 1) (h : 2 ^ k ∣ x * y) : 2 ^ k ∣ x := by
  have hc : Nat.Coprime (2 ^ k) y := by
    apply Nat.Coprime.pow_left
    unfold Nat.Coprime
    have h1 : Nat.gcd 2 y ∣ 2 := Nat.gcd_dvd_left 2 y
    have h2 : Nat.gcd 2 y ∣ y := Nat.gcd_dvd_right 2 y
    have h3 : Nat.gcd 2 y ≤ 2 := Nat.le_of_dvd (by omega) h1
    have h4 : Nat.gcd 2 y ≠ 0 := fun e => by rw [e] at h1; simp at h1
    have h5 : Nat.gcd 2 y ≠ 2 := fun e => by rw [e] at h2; omega
    omega
  exact hc.dvd_of_dvd_mul_right h
theorem geo_dvd : ∀ (k d : Nat), 2 ^ k ∣ geo d → 2 ^ k ∣ d := by
  intro k
  induction k with
  | zero => intro d _; exact ⟨d, by simp⟩
  | succ k ih =>
    intro d h
    have h2 : 2 ∣ geo d := Nat.dvd_trans ⟨2 ^ k, by rw [Nat.pow_succ, Nat.mul_comm]⟩ h
    have hd : d % 2 = 0 := by rw [← geo_mod2]; omega
    obtain ⟨e, rfl⟩ : ∃ e, d = 2 * e := ⟨d / 2, by omega⟩
    rw [geo_double] at h
    have hm := pow_mod4 e
    obtain ⟨q, hq⟩ : ∃ q, lcgA ^ e + 1 = 2 * q ∧ q % 2 = 1 := ⟨(lcgA ^ e + 1) / 2, by omega, by omega⟩
    rw [hq.1] at h
    obtain ⟨t, ht⟩ := h
    have h3 : 2 ^ k ∣ geo e * q := ⟨t, by
      have : 2 * (geo e * q) = 2 * (2 ^ k * t) := by
        rw [show 2 * (geo e * q) = geo e * (2 * q) by rw [Nat.mul_left_comm], ht, Nat.pow_succ, Nat.mul_comm (2 ^ k) 2, Nat.mul_assoc]
      omega⟩
    obtain ⟨s, hs⟩ := ih e (dvd_odd k _ _ hq.2 h3)
    exact ⟨s, by rw [hs, Nat.pow_succ, Nat.mul_comm (2 ^ k) 2, Nat.mul_assoc]⟩
theorem lcg_lt (h : Nat) : lcg h < 18446744073709551616 := Nat.mod_lt _ (by omega)
theorem lcgN_lt {h : Nat} (hh : h < 18446744073709551616) (d : Nat) : lcgN d h < 18446744073709551616 := by
  cases d with
  | zero => exact hh
  | succ d => exact lcg_lt _
theorem lcgN_succ (d h : Nat) : lcgN (d + 1) h = lcg (lcgN d h) := rfl
theorem geo_succ (d : Nat) : geo (d + 1) = lcgA * geo d + 1 := rfl
theorem lin_mod (a c x y M : Nat) (hx : x = y % M) : (x * a + c) % M = (y * a + c) % M := by
  subst hx
  rw [Nat.add_mod, Nat.mul_mod, Nat.mod_mod, ← Nat.mul_mod, ← Nat.add_mod]
theorem lcgN_eq (d h : Nat) (hh : h < 18446744073709551616) : lcgN d h = (lcgA ^ d * h + lcgC * geo d) % 18446744073709551616 := by
  induction d with
  | zero => simp [lcgN, geo, Nat.mod_eq_of_lt hh]
  | succ d ih =>
    rw [lcgN_succ, geo_succ, Nat.pow_succ]
    unfold lcg
    generalize 18446744073709551616 = M at *
    generalize lcgA ^ d = p at *
    generalize geo d = g at *
    generalize lcgA = a at *
    generalize lcgC = c at *
    rw [lin_mod a c _ _ M ih]
    congr 1
    rw [Nat.mul_add, Nat.mul_one, Nat.add_mul, Nat.mul_right_comm, Nat.mul_assoc c, Nat.mul_comm g a]
    omega
theorem lcgN_add (d e h : Nat) : lcgN (d + e) h = lcgN d (lcgN e h) := by
  induction d with
  | zero => simp [lcgN]
  | succ d ih => rw [show d + 1 + e = (d + e) + 1 by omega]; show lcg (lcgN (d + e) h) = lcg (lcgN d (lcgN e h)); rw [ih]
theorem lcgN_back {d h : Nat} (hh : h < 18446744073709551616) (e : lcgN d h = h) : 18446744073709551616 ∣ d := by
  rw [lcgN_eq d h hh, ← geo_pow d] at e
  have h1 : ((lcgA - 1) * geo d + 1) * h + lcgC * geo d = geo d * ((lcgA - 1) * h + lcgC) + h := by
    rw [Nat.add_mul, Nat.one_mul, Nat.mul_add, Nat.mul_comm lcgC, Nat.mul_comm (lcgA - 1) (geo d), Nat.mul_assoc]
    omega
  rw [h1] at e
  have hd : 18446744073709551616 ∣ geo d * ((lcgA - 1) * h + lcgC) := by
    generalize geo d * ((lcgA - 1) * h + lcgC) = t at *
    have := Nat.div_add_mod (t + h) 18446744073709551616
    rw [e] at this
    exact ⟨(t + h) / 18446744073709551616, by omega⟩
  have ho : ((lcgA - 1) * h + lcgC) % 2 = 1 := by
    rw [Nat.add_mod, Nat.mul_mod, show (lcgA - 1) % 2 = 0 from rfl, show lcgC % 2 = 1 from rfl]
    simp
  have := geo_dvd 64 d (by exact dvd_odd 64 _ _ ho (by exact hd))
  exact this
/-- of two times less than 2^64 steps apart -/
theorem lcgN_inj {h a b : Nat} (hh : h < 18446744073709551616) (hab : a < b) (hb : b - a < 18446744073709551616) : lcgN a h ≠ lcgN b h := by
  intro e
  have e2 : lcgN (b - a) (lcgN a h) = lcgN a h := by rw [← lcgN_add, Nat.sub_add_cancel (by omega)]; exact e.symm
  obtain ⟨t, ht⟩ := lcgN_back (lcgN_lt hh a) e2
  rcases t with _ | t
  · omega
  · have : 18446744073709551616 ≤ 18446744073709551616 * (t + 1) := Nat.le_mul_of_pos_right _ (by omega)
    omega
theorem lcg_mod2 (h : Nat) : lcg h % 2 = (h + 1) % 2 := by
  unfold lcg
  have h1 : (h * lcgA + lcgC) % 18446744073709551616 % 2 = (h * lcgA + lcgC) % 2 := Nat.mod_mod_of_dvd _ (by decide)
  rw [h1, Nat.add_mod, Nat.mul_mod, show lcgA % 2 = 1 from rfl, show lcgC % 2 = 1 from rfl]
  omega
theorem lcgN_mod2 (d h : Nat) : lcgN d h % 2 = (h + d) % 2 := by
  induction d with
  | zero => rfl
  | succ d ih => show lcg (lcgN d h) % 2 = _; rw [lcg_mod2]; omega
/-- what a state hands out -/
def lcgX (h : Nat) : Nat := h / 8589934592 % 16777216
/-- a number of its own for each state with a parity that hands out a multiple of three -/
def lcgCode (h : Nat) : Nat := lcgX h / 3 * 549755813888 + (h / 8589934592 / 16777216 * 4294967296 + h % 8589934592 / 2)
theorem lcgCode_lt {h : Nat} (hh : h < 18446744073709551616) : lcgCode h < 5592406 * 549755813888 := by unfold lcgCode lcgX; omega
theorem lcgCode_inj {h g : Nat} (hh : h < 18446744073709551616) (hg : g < 18446744073709551616) (hp : h % 2 = g % 2) (h3 : lcgX h % 3 = 0) (g3 : lcgX g % 3 = 0) (e : lcgCode h = lcgCode g) : h = g := by
  unfold lcgCode lcgX at *
  omega
theorem nodup_lt : ∀ (N : Nat) {l : List Nat}, l.Nodup → (∀ x ∈ l, x < N) → l.length ≤ N := by
  intro N
  induction N with
  | zero =>
    intro l _ h
    cases l with
    | nil => simp
    | cons a l => have := h a (by simp); omega
  | succ N ih =>
    intro l hn h
    by_cases hm : N ∈ l
    · have h1 := ih (hn.erase N) (fun x hx => by
        have h2 := (hn.mem_erase_iff).1 hx
        have := h x h2.2
        have := h2.1
        omega)
      rw [List.length_erase_of_mem hm] at h1
      omega
    · have := ih hn (fun x hx => by
        have h1 := h x hx
        have h2 : x ≠ N := fun e => hm (e ▸ hx)
        omega)
      omega
end Go.Proofs.YtcjnhiglfkcmiaaGreatDoor
