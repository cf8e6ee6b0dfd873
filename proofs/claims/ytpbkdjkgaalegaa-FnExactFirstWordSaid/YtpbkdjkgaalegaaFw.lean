/- Walks: the first word between two flags, the program's. Up to 400 flags. -/
import Derived.Test.YtpbkdjkgaalegaaFwP
import Derived.Test.YtpbkdjkgaalegaaDist
namespace Go.Proofs.Ytpbkdjkgaalegaa
open Go.RowKit
set_option linter.unusedVariables false
set_option maxRecDepth 100000
set_option maxHeartbeats 4000000 in
theorem firstWord_any (b : Nat) (A : Option Addr) (n c : Nat) (xss : List (List Int)) (x y : Int) (w : World) (hc : w.cell? ⟨b, 0, none⟩ = some (.slice A n c)) (hbs : b < w.heap.size) {lo hi : Nat} (h : RS w lo hi A n xss) (hhi : hi ≤ w.heap.size) (hn : 0 < n) (N : Nat) (hN : flg xss = N) (h4 : N ≤ 400) (hs : SysOf xss N) (hiv : Invo xss N) (hcon : Conn xss N) (hx0 : 0 ≤ x) (hx1 : x < N) (hy0 : 0 ≤ y) (hy1 : y < N) :
    Calls Try.prog 48 #[.pointer (some ⟨b, 0, none⟩), .int .i64 x, .int .i64 y] w fun e w' => ∃ (A1 : Option Addr) (n1 c1 : Nat), e = .returned (.slice A1 n1 c1) ∧ Own w' w.heap.size w'.heap.size 2 A1 n1 c1 ((fwL xss (dist xss N y) (dat (dist xss N y) x).toNat x).map (Value.int .i64)) ∧ Below w.heap.size w w' := by
  obtain ⟨j0, hj0, hy0', hy1', hy2'⟩ := info_parts infoI
  have hl := Lib.hid h.len
  have hm := h.max
  have hdc := distances_any b A n c xss y w hc hbs h hhi hn N hN h4 hs hy0 hy1
  have hfin := dist_fin hs hcon hy0 hy1
  obtain ⟨D, hD⟩ : ∃ D, dist xss N y = D := ⟨_, rfl⟩
  rw [hD] at hdc hfin ⊢
  clear hD hcon
  have hdl := hfin.dl
  have hxr := hfin.rng x hx0 hx1
  obtain ⟨d0, hd0⟩ : ∃ d0 : Nat, dat D x = d0 := ⟨(dat D x).toNat, by omega⟩
  rw [hd0, Int.toNat_natCast]
  have hd4 : d0 < N := by omega
  clear hxr
  replace hs := Lib.hid hs
  replace hiv := Lib.hid hiv
  replace hfin := Lib.hid hfin
  replace hdl := Lib.hid hdl
  replace hd0 := Lib.hid hd0
  go_enter Try.func48, Try.ntmps48
  go_wp2_with fail
  ((with_reducible refine hdc.mono ?_); rintro e w1 ⟨A1, rfl, o1, f1⟩)
  have y1 := f1.size
  have C1 := (f1.cell (p := ⟨b, 0, none⟩) (by simp; omega)).trans hc
  have R1 := h.below f1 hhi
  clear hdc
  go_wp2_with fail
  go_loopg [8, 9] (d0 + 1) (fun gq wv fv wq => ∃ (d : Nat) (f : Int) (ys : List Int) (A2 : Option Addr) (c2 : Nat), gq = d + 1 ∧ wv = .slice A2 ys.length c2 ∧ fv = .int .i64 f ∧ 0 ≤ f ∧ f < N ∧ ys.length + d = d0 ∧ Hid (dat D f = d) ∧ Hid (ys ++ fwL xss D d f = fwL xss D d0 x) ∧ Own wq w1.heap.size wq.heap.size 2 A2 ys.length c2 (ys.map (Value.int .i64)) ∧ w1.heap.size ≤ wq.heap.size ∧ Below w1.heap.size w1 wq)
  case atStart => exact ⟨d0, x, [], none, 0, rfl, rfl, rfl, hx0, hx1, by simp, hd0, Lib.hid rfl, Own.nil, Nat.le_refl _, Below.refl _ _⟩
  case round =>
    obtain ⟨d, f, ys, A2, c2, hgd, rfl, rfl, hf0, hf1, hyd, hdf, heq, ho, hz, hb⟩ := hrel
    have hC := (hb.cell (p := ⟨b, 0, none⟩) (by simp; omega)).trans C1
    have hzero := dist_zero hfin.out hf0 hf1
    by_cases hfy : f = y
    · subst hfy
      have hd00 : d = 0 := by have := hzero.1 rfl; have := hdf.out; omega
      subst hd00
      clear hzero
      have hres := heq.out
      replace hres := Lib.hid hres
      go_wp2_with fail
      go_ret
      refine ⟨A2, ys.length, c2, rfl, ?_, f1.trans (hb.mono y1)⟩
      have e : ys ++ fwL xss D 0 f = ys := by simp [fwL]
      rw [← hres.out, e]
      exact ho.more y1 (Nat.le_refl _)
    · have hex := near_ex hs.out hiv.out hfin.out hf0 hf1 hfy
      have hfb : (f != y) = true := by simpa using hfy
      obtain ⟨d, rfl⟩ : ∃ q, d = q + 1 := ⟨d - 1, by have := mt hzero.2 hfy; have := hdf.out; omega⟩
      obtain ⟨gk', rfl⟩ : ∃ q, gk = q + 1 := ⟨gk - 1, by omega⟩
      clear hzero
      obtain ⟨f, rfl⟩ : ∃ q : Nat, f = q := ⟨f.toNat, by omega⟩
      have hfN : f < N := by omega
      replace hex := Lib.hid hex
      replace hfy := Lib.hid hfy
      go_wp2_with fail
      obtain ⟨wo, rfl⟩ : ∃ wo : World, wo = wr := ⟨_, rfl⟩
      go_loopw [8, 9, 24] (fun wv fv kv wq => ∃ k : Nat, wv = .slice A2 ys.length c2 ∧ fv = .int .i64 (f : Int) ∧ k ≤ n ∧ kv = .int .i64 k ∧ Hid ((xss.take k).all (fun q => !(nearB D (f : Int) q)) = true) ∧ Own wq w1.heap.size wq.heap.size 2 A2 ys.length c2 (ys.map (Value.int .i64)) ∧ w1.heap.size ≤ wq.heap.size ∧ Below w1.heap.size w1 wq) (fun _ _ kv _ => n - (intOf kv).toNat)
      case atStart => exact ⟨0, rfl, rfl, by omega, rfl, Lib.hid (by simp), ho, hz, hb⟩
      case round =>
        clear ho hz hb hC
        obtain ⟨k, rfl, rfl, hk, rfl, hall, ho, hz, hb⟩ := hrel
        by_cases hkm : k < n
        · obtain ⟨bb, oo, Ak, nk, ck, p, rfl, _, _, hp, hpc, hpr⟩ := (R1.below hb (by omega)).at_ hkm
          have hpm := mem_of_get? hp
          obtain ⟨hpr0, hpn, hpl⟩ := hs.out p hpm
          have hnk := hpr.len
          have hfnk : f < nk := by omega
          obtain ⟨bp, oq, v, rfl, _, hbp, hv, hvc⟩ := hpr.at_ hfnk
          have hva : at' p f = v := by unfold at'; rw [Int.toNat_natCast]; exact getD_some hv
          obtain ⟨hv0, hv1⟩ := hpr0 v (mem_of_get? hv)
          obtain ⟨v, rfl⟩ : ∃ q : Nat, v = q := ⟨v.toNat, by omega⟩
          have hvN : v < N := by omega
          have o1' := o1.below hb (Nat.le_refl _)
          obtain ⟨b1, u1, rfl, _, _, _, hu1, hcv, _⟩ := o1'.atI (k := v) hvN
          have hcf := o1'.cellI (dat_get hdl.out hfN)
          have hu1e : u1 = dat D (v : Int) := by have := dat_get hdl.out hvN; rw [hu1] at this; exact Option.some.inj this
          have hts := all_take_succ' (f := fun q => !(nearB D (f : Int) q)) hp
          have hnb : nearB D (f : Int) p = decide (dat D (v : Int) < dat D (f : Int)) := by unfold nearB; rw [hva]
          rw [hu1e] at hcv
          clear o1'
          replace hu1 := Lib.hid hu1
          replace hu1e := Lib.hid hu1e
          by_cases hlt : dat D (v : Int) < dat D (f : Int)
          · have hnt : nearB D (f : Int) p = true := by rw [hnb]; exact decide_eq_true hlt
            have hsk := stepK_eq hp hnt hall.out
            have hstep := fwL_step (d := d) hp hsk
            rw [hva] at hstep
            have hni := (near_iff hs.out hiv.out hfin.out hf0 (show (f : Int) < N by omega) hpm).1 (by rw [hva]; exact hlt)
            rw [hva, hdf.out] at hni
            have hdd : decide (dat D (v : Int) < dat D (f : Int)) = true := decide_eq_true hlt
            have heq2 : (ys ++ [(k : Int)]) ++ fwL xss D d v = fwL xss D d0 x := by rw [← heq.out, hstep]; simp
            replace heq2 := Lib.hid heq2
            have hdv : dat D (v : Int) = d := by omega
            replace hdv := Lib.hid hdv
            replace hstep := Lib.hid hstep
            replace hsk := Lib.hid hsk
            replace hnt := Lib.hid hnt
            replace hnb := Lib.hid hnb
            replace hni := Lib.hid hni
            replace hts := Lib.hid hts
            replace hp := Lib.hid hp
            replace hv := Lib.hid hv
            replace hva := Lib.hid hva
            replace hpr0 := Lib.hid hpr0
            replace hpl := Lib.hid hpl
            clear hlt
            generalize dat D (v : Int) = dv at hcv hdd
            generalize dat D (f : Int) = df at hcf hdd
            go_wp2_with fail
            go_quiet (fail)
            have ho' : Own (wr.drewN nq) w1.heap.size wr.heap.size 2 A2 ys.length c2 (ys.map (Value.int .i64)) := ho
            go_wp2_with (at_builtin; refine wpList_append1 (wr.drewN nq) rfl (.tmp 41) (.tmp 43) 26 rfl w1.heap.size 2 j0 (.int .i64 0) 8 Try.underlying26 hj0 hy0' hy1' hy2' rfl (by omega) _ ys.length c2 _ (.int .i64 k) rfl ho'.1 _ rfl rfl rfl (by omega) hz ?_)
            intro g4 c4 w3 ho3 hg3 hlo3 hlt3 hor3
            have hb3 : Below w1.heap.size w1 w3 := (below_dn hb nq).grown hg3 hz (fun q hq => by have := (ho'.1.lt q hq).1; omega)
            have ho3' := Own.of_row ho3
            have hz3 := hg3.size
            have hvc3 : w3.cell? ⟨bp, oq + f, none⟩ = some (.int .i64 (v : Int)) := (World.cell?_of_block (w := wr) (a := ⟨bp, oq + f, none⟩) (hg3.block bp (show bp < wr.heap.size by omega) (fun e => by have := (ho'.1.lt _ e.symm).1; omega))).trans hvc
            clear ho ho' hb hg3 ho3 hpc hvc hcv hcf hpr
            go_wp2_with fail
            go_roundg gk'
            case measure => omega
            case rel => exact ⟨d, v, ys ++ [(k : Int)], _, c4, by omega, by rw [List.length_append]; rfl, rfl, by omega, by omega, by simp; omega, hdv, heq2, by simpa using ho3', by have : wr.heap.size ≤ w3.heap.size := hz3; omega, hb3⟩
          · have hnt : nearB D (f : Int) p = false := by rw [hnb]; exact decide_eq_false hlt
            rw [hnt, hall.out] at hts
            have hdd : decide (dat D (v : Int) < dat D (f : Int)) = false := decide_eq_false hlt
            replace hts := Lib.hid hts
            replace hnt := Lib.hid hnt
            replace hnb := Lib.hid hnb
            replace hp := Lib.hid hp
            replace hv := Lib.hid hv
            replace hva := Lib.hid hva
            replace hpr0 := Lib.hid hpr0
            replace hpl := Lib.hid hpl
            replace hlt := Lib.hid hlt
            generalize dat D (v : Int) = dv at hcv hdd
            generalize dat D (f : Int) = df at hcf hdd
            go_wp2_with fail
            go_quiet (fail)
            go_wp2_with fail
            go_roundw
            case measure => simp [intOf]; omega
            case rel => exact ⟨k + 1, rfl, rfl, by omega, by go_num, hts, ho, hz, below_dn hb _⟩
        · exfalso
          have hkm' : k = n := by omega
          subst hkm'
          obtain ⟨p, hp, hn⟩ := hex.out
          have h1 := hall.out
          rw [List.take_of_length_le (by have := hl.out; omega)] at h1
          have := List.all_eq_true.1 h1 p hp
          rw [hn] at this
          simp at this
end Go.Proofs.Ytpbkdjkgaalegaa
