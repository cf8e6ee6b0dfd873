/- Plain: the group of a system: its elements in the order in which they are found. No program in sight. No condition. -/
import Derived.Test.YtebdfhkimnlglaaDoorSys
import Derived.Test.YtebdfhkimnlglaaDoorOrdP
import Derived.Test.YtebdfhkimnlglaaDoorLexQ
import Derived.Test.YtebdfhkimnlglaaDoorTxtP
import Derived.Test.YtebdfhkimnlglaaDoorSplP
namespace Go.Proofs.YtebdfhkimnlglaaDoor
set_option linter.unusedVariables false
set_option maxRecDepth 100000
/-- a list with an element, if it is new -/
def addG (F : List (List Int)) (q : List Int) : List (List Int) := if q ∈ F then F else F ++ [q]
/-- the products of e with all of a list are put in -/
def rowG (e : List Int) (ps F : List (List Int)) : List (List Int) := ps.foldl (fun F p => addG F (thenL e p)) F
def grpGo (xss : List (List Int)) : Nat → Nat → List (List Int) → Option (List (List Int))
  | 0, _, _ => none
  | f + 1, i, F => if i < F.length then (if 1000 < (rowG (F.getD i []) xss F).length then none else grpGo xss f (i + 1) (rowG (F.getD i []) xss F)) else some F
theorem addG_pre (F : List (List Int)) (q : List Int) : F <+: addG F q := by
  unfold addG
  split
  · exact List.prefix_refl _
  · exact List.prefix_append _ _
theorem addG_mem (F : List (List Int)) (q : List Int) : q ∈ addG F q := by
  unfold addG
  split
  · assumption
  · simp
theorem addG_len (F : List (List Int)) (q : List Int) : (addG F q).length ≤ F.length + 1 := by
  unfold addG
  split
  · omega
  · simp
theorem addG_nd {F : List (List Int)} {q : List Int} (h : F.Nodup) : (addG F q).Nodup := by
  unfold addG
  split
  · exact h
  · rename_i hn
    rw [List.nodup_append]
    refine ⟨h, by simp, ?_⟩
    intro a ha b hb e
    simp at hb
    subst hb
    exact hn (e ▸ ha)
theorem addG_all {P : List Int → Prop} {F : List (List Int)} {q : List Int} (h : ∀ x ∈ F, P x) (hq : P q) : ∀ x ∈ addG F q, P x := by
  unfold addG
  split
  · exact h
  · intro x hx
    rcases List.mem_append.1 hx with hx | hx
    · exact h x hx
    · simp at hx; subst hx; exact hq
theorem rowG_snoc {e : List Int} {ps F : List (List Int)} {k : Nat} {p : List Int} (h : ps[k]? = some p) : rowG e (ps.take (k + 1)) F = addG (rowG e (ps.take k) F) (thenL e p) := by
  unfold rowG
  rw [List.take_add_one, h]
  simp [List.foldl_append]
theorem rowG_zero (e : List Int) (ps F : List (List Int)) : rowG e (ps.take 0) F = F := rfl
theorem rowG_pre (e : List Int) : ∀ (ps F : List (List Int)), F <+: rowG e ps F
  | [], F => List.prefix_refl _
  | p :: ps, F => (addG_pre F (thenL e p)).trans (rowG_pre e ps (addG F (thenL e p)))
theorem rowG_take_pre (e : List Int) (ps F : List (List Int)) (k : Nat) : rowG e (ps.take k) F <+: rowG e ps F := by
  have h : rowG e ps F = rowG e (ps.drop k) (rowG e (ps.take k) F) := by
    unfold rowG
    rw [← List.foldl_append, List.take_append_drop]
  rw [h]
  exact rowG_pre e _ _
theorem rowG_len (e : List Int) : ∀ (ps F : List (List Int)), (rowG e ps F).length ≤ F.length + ps.length
  | [], F => by simp [rowG]
  | p :: ps, F => by
    have h1 := rowG_len e ps (addG F (thenL e p))
    have h2 := addG_len F (thenL e p)
    have h3 : rowG e (p :: ps) F = rowG e ps (addG F (thenL e p)) := rfl
    rw [h3, List.length_cons]
    omega
theorem rowG_nd (e : List Int) : ∀ {ps F : List (List Int)}, F.Nodup → (rowG e ps F).Nodup
  | [], F, h => h
  | p :: ps, F, h => rowG_nd e (ps := ps) (addG_nd h)
theorem rowG_all {P : List Int → Prop} {e : List Int} : ∀ {ps F : List (List Int)}, (∀ x ∈ F, P x) → (∀ p ∈ ps, P (thenL e p)) → ∀ x ∈ rowG e ps F, P x
  | [], F, h, _ => h
  | p :: ps, F, h, hp => rowG_all (ps := ps) (addG_all h (hp p (by simp))) (fun q hq => hp q (by simp [hq]))
theorem rowG_has (e : List Int) : ∀ (ps F : List (List Int)), ∀ p ∈ ps, thenL e p ∈ rowG e ps F
  | [], F, p, h => by simp at h
  | q :: ps, F, p, h => by
    rcases List.mem_cons.1 h with h | h
    · subst h
      exact (rowG_pre e ps _).subset (addG_mem F (thenL e p))
    · exact rowG_has e ps _ p h
/-- the elements of the group of a system in the order in which they are found -/
def grpL (n : Nat) (xss : List (List Int)) : Option (List (List Int)) := grpGo xss 1001 0 [idL n]
/-- the state of the search: i of the elements F have been handled -/
structure GrpS (n : Nat) (xss : List (List Int)) (i : Nat) (F : List (List Int)) : Prop where
  sys : isSysP n xss
  go : grpGo xss (1001 - i) i F = grpL n xss
  le : i ≤ F.length
  len : F.length ≤ 1000
  pos : 1 ≤ F.length
  nd : F.Nodup
  all : ∀ x ∈ F, isPermP x ∧ x.length = n
theorem GrpS.zero {n : Nat} {xss : List (List Int)} (h : isSysP n xss) : GrpS n xss 0 [idL n] :=
  ⟨h, rfl, by omega, by simp, by simp, by simp, fun x hx => by
    simp at hx
    subst hx
    exact ⟨idL_perm (by have := h.2.1; omega), idL_length n⟩⟩
/-- the state amid the handling of an element e: k of the generators are done -/
structure GrpR (n : Nat) (xss : List (List Int)) (i : Nat) (F : List (List Int)) (e : List Int) (k : Nat) (G : List (List Int)) : Prop where
  st : GrpS n xss i F
  at_ : F[i]? = some e
  eq : G = rowG e (xss.take k) F
  nd : G.Nodup
  all : ∀ x ∈ G, isPermP x ∧ x.length = n
theorem GrpS.start {n : Nat} {xss : List (List Int)} {i : Nat} {F : List (List Int)} {e : List Int} (s : GrpS n xss i F) (h : F[i]? = some e) : GrpR n xss i F e 0 F := ⟨s, h, rfl, s.nd, s.all⟩
theorem GrpR.len {n : Nat} {xss : List (List Int)} {i k : Nat} {F G : List (List Int)} {e : List Int} (r : GrpR n xss i F e k G) : G.length ≤ 1016 := by
  rw [r.eq]
  have h1 := rowG_len e (xss.take k) F
  have h2 := r.st.sys.2.2.1
  have h3 := r.st.len
  rw [List.length_take] at h1
  omega
theorem GrpR.pre {n : Nat} {xss : List (List Int)} {i k : Nat} {F G : List (List Int)} {e : List Int} (r : GrpR n xss i F e k G) : F <+: G := by
  rw [r.eq]; exact rowG_pre _ _ _
theorem GrpR.e_perm {n : Nat} {xss : List (List Int)} {i k : Nat} {F G : List (List Int)} {e : List Int} (r : GrpR n xss i F e k G) : isPermP e ∧ e.length = n := r.st.all e (List.mem_of_getElem? r.at_)
theorem GrpR.at_G {n : Nat} {xss : List (List Int)} {i k : Nat} {F G : List (List Int)} {e : List Int} (r : GrpR n xss i F e k G) : G[i]? = some e := by
  obtain ⟨t, ht⟩ := r.pre
  have hi := (List.getElem?_eq_some_iff.1 r.at_).1
  rw [← ht, List.getElem?_append_left hi]
  exact r.at_
theorem GrpR.prod {n : Nat} {xss : List (List Int)} {i k : Nat} {F G : List (List Int)} {e p : List Int} (r : GrpR n xss i F e k G) (hp : xss[k]? = some p) : isPermP (thenL e p) ∧ (thenL e p).length = n := by
  obtain ⟨h1, h2⟩ := r.e_perm
  obtain ⟨h3, h4⟩ := r.st.sys.2.2.2 p (List.mem_of_getElem? hp)
  exact ⟨thenL_perm h1 h3 (by omega), by rw [thenL_length]; exact h2⟩
theorem GrpR.step {n : Nat} {xss : List (List Int)} {i k : Nat} {F G : List (List Int)} {e p : List Int} (r : GrpR n xss i F e k G) (hp : xss[k]? = some p) : GrpR n xss i F e (k + 1) (addG G (thenL e p)) :=
  ⟨r.st, r.at_, by rw [rowG_snoc hp, ← r.eq], addG_nd r.nd, addG_all r.all (r.prod hp)⟩
theorem GrpS.unfold_ {n : Nat} {xss : List (List Int)} {i : Nat} {F : List (List Int)} {e : List Int} (s : GrpS n xss i F) (h : F[i]? = some e) :
    grpL n xss = if 1000 < (rowG e xss F).length then none else grpGo xss (1001 - (i + 1)) (i + 1) (rowG e xss F) := by
  have hi := (List.getElem?_eq_some_iff.1 h).1
  have hl := s.len
  rw [← s.go, show 1001 - i = (1001 - (i + 1)) + 1 by omega]
  have e1 : F.getD i [] = e := by rw [List.getD_eq_getElem?_getD, h]; rfl
  show (if i < F.length then _ else _) = _
  rw [if_pos hi, e1]
/-- more than 1000 elements are found amid a row: there are too many -/
theorem GrpR.many {n : Nat} {xss : List (List Int)} {i k : Nat} {F G : List (List Int)} {e : List Int} (r : GrpR n xss i F e k G) (h : 1000 < G.length) : grpL n xss = none := by
  have h1 := (rowG_take_pre e xss F k).length_le
  rw [← r.eq] at h1
  rw [r.st.unfold_ r.at_, if_pos (by omega)]
theorem GrpR.next {n : Nat} {xss : List (List Int)} {i : Nat} {F G : List (List Int)} {e : List Int} (r : GrpR n xss i F e xss.length G) (h : G.length ≤ 1000) : GrpS n xss (i + 1) G := by
  have hG := r.eq
  rw [List.take_of_length_le (Nat.le_refl _)] at hG
  have hi := (List.getElem?_eq_some_iff.1 r.at_).1
  have hp := r.pre.length_le
  refine ⟨r.st.sys, ?_, by omega, h, by omega, r.nd, r.all⟩
  rw [r.st.unfold_ r.at_, ← hG, if_neg (by omega)]
theorem GrpS.done {n : Nat} {xss : List (List Int)} {F : List (List Int)} (s : GrpS n xss F.length F) : grpL n xss = some F := by
  have hl := s.len
  rw [← s.go, show 1001 - F.length = (1000 - F.length) + 1 by omega]
  show (if F.length < F.length then _ else _) = _
  rw [if_neg (by omega)]
/-- the order of two lists -/
def lexB (a b : List Int) : Bool := decide (cmpL a b ≤ 0)
theorem lexB_trans (a b c : List Int) (h : lexB a b = true) (k : lexB b c = true) : lexB a c = true := decide_eq_true (cmpL_trans a b c (of_decide_eq_true h) (of_decide_eq_true k))
theorem lexB_total (a b : List Int) : (lexB a b || lexB b a) = true := by
  have := cmpL_anti a b
  unfold lexB
  simp
  omega
theorem lexB_anti {a b : List Int} (h : lexB a b = true) (k : lexB b a = true) : a = b := by
  have h1 := of_decide_eq_true h
  have h2 := of_decide_eq_true k
  have := cmpL_anti a b
  exact (cmpL_zero a b).1 (by omega)
/-- the list in its order -/
def srtG (F : List (List Int)) : List (List Int) := F.mergeSort lexB
theorem srt_uniq : ∀ {S T : List (List Int)}, S.Perm T → S.Pairwise (fun a b => lexB a b = true) → T.Pairwise (fun a b => lexB a b = true) → S = T
  | [], T, h, _, _ => by rw [h.nil_eq]
  | a :: S, [], h, _, _ => by have := h.length_eq; simp at this
  | a :: S, b :: T, h, hs, ht => by
    obtain ⟨s1, s2⟩ := List.pairwise_cons.1 hs
    obtain ⟨t1, t2⟩ := List.pairwise_cons.1 ht
    have e : a = b := by
      rcases List.mem_cons.1 (h.mem_iff.1 (List.mem_cons_self (a := a) (l := S))) with e | ha
      · exact e
      · rcases List.mem_cons.1 (h.mem_iff.2 (List.mem_cons_self (a := b) (l := T))) with e | hb
        · exact e.symm
        · exact lexB_anti (s1 b hb) (t1 a ha)
    subst e
    rw [srt_uniq h.cons_inv s2 t2]
theorem srtG_of {S F : List (List Int)} (h : S.Perm F) (hs : S.Pairwise (fun a b => lexB a b = true)) : S = srtG F :=
  srt_uniq (h.trans (List.mergeSort_perm F lexB).symm) hs (List.pairwise_mergeSort lexB_trans lexB_total F)
theorem srtG_perm (F : List (List Int)) : (srtG F).Perm F := List.mergeSort_perm F lexB
/-- what GroupElements returns -/
def grpF (n : Int) (xss : List (List Int)) : List (List Int) × Int :=
  if isSysB n xss = true then (match grpL n.toNat xss with | some F => (srtG F, 0) | none => ([], 3)) else ([], 1)
/-- the text that tells a list -/
def keyB (xs : List Int) : List UInt8 := xs.flatMap fun x => Lib.itoa x ++ [32]
theorem keyB_snoc (xs : List Int) (x : Int) : keyB (xs ++ [x]) = keyB xs ++ (Lib.itoa x ++ [32]) := by simp [keyB]
theorem keyB_take {xs : List Int} {k : Nat} {x : Int} (h : xs[k]? = some x) : keyB (xs.take (k + 1)) = keyB (xs.take k) ++ (Lib.itoa x ++ [32]) := by
  rw [List.take_add_one, h]
  exact keyB_snoc _ _
def SmallM (x : Int) : Prop := x = -1 ∨ SmallI x
theorem itoa_m1 : Lib.itoa (-1) = [45, 49] := by decide +kernel
theorem itoa_no32 {x : Int} (h : SmallM x) : (32 : UInt8) ∉ Lib.itoa x := by
  rcases h with rfl | h
  · rw [itoa_m1]; decide
  · intro hm
    have := itoa_digits h 32 hm
    simp at this
theorem itoa_injM {x y : Int} (hx : SmallM x) (hy : SmallM y) (h : Lib.itoa x = Lib.itoa y) : x = y := by
  rcases hx with rfl | hx <;> rcases hy with rfl | hy
  · rfl
  · rw [itoa_m1] at h
    have := itoa_digits hy 45 (by rw [← h]; simp)
    simp at this
  · rw [itoa_m1] at h
    have := itoa_digits hx 45 (by rw [h]; simp)
    simp at this
  · exact itoa_inj hx hy h
theorem keyB_spl : ∀ {xs : List Int}, (∀ x ∈ xs, SmallM x) → spl 32 (keyB xs) = xs.map Lib.itoa ++ [[]]
  | [], _ => rfl
  | x :: xs, h => by
    have e : keyB (x :: xs) = Lib.itoa x ++ 32 :: keyB xs := by simp [keyB]
    rw [e, spl_app (itoa_no32 (h x (by simp))), keyB_spl (fun y hy => h y (by simp [hy]))]
    rfl
theorem map_itoa_inj : ∀ {xs ys : List Int}, (∀ x ∈ xs, SmallM x) → (∀ y ∈ ys, SmallM y) → xs.map Lib.itoa = ys.map Lib.itoa → xs = ys
  | [], [], _, _, _ => rfl
  | [], y :: ys, _, _, h => by simp at h
  | x :: xs, [], _, _, h => by simp at h
  | x :: xs, y :: ys, hx, hy, h => by
    simp only [List.map_cons, List.cons.injEq] at h
    rw [itoa_injM (hx x List.mem_cons_self) (hy y List.mem_cons_self) h.1, map_itoa_inj (fun z hz => hx z (List.mem_cons_of_mem _ hz)) (fun z hz => hy z (List.mem_cons_of_mem _ hz)) h.2]
theorem keyB_inj {xs ys : List Int} (hx : ∀ x ∈ xs, SmallM x) (hy : ∀ y ∈ ys, SmallM y) (h : keyB xs = keyB ys) : xs = ys := by
  have e := congrArg (spl 32) h
  rw [keyB_spl hx, keyB_spl hy] at e
  exact map_itoa_inj hx hy (List.append_cancel_right e)
theorem keyB_len {xs : List Int} (h : ∀ x ∈ xs, SmallM x) : (keyB xs).length ≤ 23 * xs.length := by
  induction xs with
  | nil => simp [keyB]
  | cons x xs ih =>
    have h1 := ih fun y hy => h y (by simp [hy])
    have e : keyB (x :: xs) = Lib.itoa x ++ 32 :: keyB xs := by simp [keyB]
    have h2 : (Lib.itoa x).length ≤ 22 := by
      rcases h x (by simp) with rfl | hs
      · rw [itoa_m1]; decide
      · have := itoa_len (x := x) (by have := hs.1; omega) (by have := hs.2; omega)
        omega
    rw [e]
    simp only [List.length_append, List.length_cons]
    omega
/-- a list of keys tells whether a list is among those that it was made of -/
theorem key_mem {F : List (List Int)} {q : List Int} (hF : ∀ xs ∈ F, ∀ x ∈ xs, SmallM x) (hq : ∀ x ∈ q, SmallM x) : keyB q ∈ F.map keyB ↔ q ∈ F := by
  constructor
  · intro h
    obtain ⟨p, hp, e⟩ := List.mem_map.1 h
    rw [← keyB_inj (hF p hp) hq e]
    exact hp
  · exact fun h => List.mem_map_of_mem h
end Go.Proofs.YtebdfhkimnlglaaDoor
