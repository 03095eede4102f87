/- Part 22 of 34 of the proof of: SightAll: for every slice of numbers, the law returns true: of a slim line made of them, the letters and hands that the program tells are just those of the truths found by going through all choices, and its marks are the fewest of any truth; no condition beyond the statement's own. -/
import Derived.Test.YtihedeofkhapiaaSA21
set_option linter.unusedVariables false
set_option linter.unusedSimpArgs false
section
namespace Go.Proofs.Ytihedeofkhapiaa.Pr
open Go.RowKit Go.Proofs.YtihedeofkhapiaaW.PrintWords Go.Proofs.YtihedeofkhapiaaW.PrintLast Go.Proofs.YtihedeofkhapiaaW.PrintMore
theorem vw {i : Int} {n : Nat} (h0 : 0 ≤ i) (h : i < (n : Int)) (hn : n ≤ 9223372036854775807) : wrap64 (i + 1) = i + 1 := by
 unfold wrap64; omega
theorem iV {α : Type} (l : List α) (d : α) (i : Nat) (h : i < l.length) : l.drop i = l.getD i d :: l.drop (i + 1) := by
 rw [List.drop_eq_getElem_cons h]; simp [List.getD_eq_getElem?_getD, List.getElem?_eq_getElem h]
def seenStep (s : Int × Int) (x : S27) : Int × Int := (Go.bits .or .i64 s.1 x.f0, Go.bits .or .i64 s.2 x.f1)
def uV (l : List S27) : Int × Int := l.foldl seenStep (0, 0)
def qx (v : Int) (b : Bool) (x : S27) : Bool := if b = true then (Go.bits .and .i64 v x.f0 == x.f1) else false
def eX (l : List S27) : Int × Int × Bool := ((uV l).1, (uV l).2, l.foldl (qx (uV l).2) true)
theorem Mm (l : List S27) (hl : l.length ≤ 9223372036854775807) (x2 x3 : Int) : ∀ (d k i : Nat) (b : Bool), i + d = l.length → d < k →
 bA.l1 k x2 x3 b l (l.length : Int) (i : Int) = some (x2, x3, (l.drop i).foldl (qx x3) b) := by
 intro d
 induction d with
 | zero =>
  intro k i b hi hk; obtain ⟨k, rfl⟩ : ∃ m, k = m + 1 := ⟨k - 1, by omega⟩; simp only [bA.l1]; rw [if_neg (by omega), List.drop_eq_nil_of_le (by omega)]; rfl
 | succ d ih =>
  intro k i b hi hk; obtain ⟨k, rfl⟩ : ∃ m, k = m + 1 := ⟨k - 1, by omega⟩; simp only [bA.l1]; rw [if_pos (by omega), if_pos (by omega), if_pos (by omega), vw (by omega) (by omega) hl, iV l z27 i (by omega)]; (have e : dx l (i : Int) = l.getD i z27 := by simp [dx]); rw [e, List.foldl_cons]; have hc : ((i : Int) + 1) = ((i + 1 : Nat) : Int) := by omega
  cases b with
  | true =>
   rw [if_pos rfl, hc, ih k (i + 1) _ (by omega) (by omega)]; simp [qx]
  | false =>
   rw [if_neg (by decide), hc, ih k (i + 1) _ (by omega) (by omega)]; simp [qx]
theorem Lt (l : List S27) (hl : l.length ≤ 9223372036854775807) : ∀ (d k i : Nat) (s : Int × Int), i + d = l.length → l.length + d + 1 < k →
 bA.l0 k l s.1 s.2 true l (l.length : Int) (i : Int) = some (((l.drop i).foldl seenStep s).1, ((l.drop i).foldl seenStep s).2, l.foldl (qx ((l.drop i).foldl seenStep s).2) true) := by
 intro d
 induction d with
 | zero =>
  intro k i s hi hk; obtain ⟨k, rfl⟩ : ∃ m, k = m + 1 := ⟨k - 1, by omega⟩; simp only [bA.l0]; rw [if_neg (by omega), List.drop_eq_nil_of_le (show l.length ≤ i by omega)]; have := Mm l hl s.1 s.2 l.length k 0 true (by omega) (by omega)
  simpa using this
 | succ d ih =>
  intro k i s hi hk; obtain ⟨k, rfl⟩ : ∃ m, k = m + 1 := ⟨k - 1, by omega⟩; simp only [bA.l0]; rw [if_pos (by omega), if_pos (by omega), if_pos (by omega), vw (by omega) (by omega) hl, iV l z27 i (by omega)]; (have e : dx l (i : Int) = l.getD i z27 := by simp [dx]); (have hc : ((i : Int) + 1) = ((i + 1 : Nat) : Int) := by omega); rw [e, hc, List.foldl_cons]; exact ih k (i + 1) (seenStep s (l.getD i z27)) (by omega) (by omega)
theorem Oa (l : List S27) (hl : l.length ≤ 9223372036854775807) : bA.f (2 * l.length + 2) l = some (eX l) := by
 have := Lt l hl l.length (2 * l.length + 2) 0 (0, 0) (by omega) (by omega)
 simpa [bA.f, eX, uV] using this
theorem Dw (A0 : Option Addr) (c0 : Nat) (l0 : List S27) (w : World) (hr0 : Kd.C k27 w A0 l0.length l0) (hc0 : l0.length ≤ c0) (hl : l0.length ≤ 9223372036854775807) :
 Calls Try.prog 82 #[.slice A0 l0.length c0] w fun e w' => e = .returned (.tuple #[.int .i64 (eX l0).1, .int .i64 (eX l0).2.1, .bool (eX l0).2.2]) ∧ Below w.heap.size w w' :=
 bA.calls _ A0 c0 l0 _ _ _ w hr0 hc0 (Oa l0 hl)
def jD (a : Int) : Int := (fe.f a).getD 0
theorem NG (a : Int) : fe.f a = some (jD a) := by
 obtain ⟨r, h⟩ : ∃ r, fe.f a = some r := by
  simp only [fe.f, iX.f, gW.f, Option.bind_some]; exact ⟨_, rfl⟩
 rw [jD, h]; rfl
theorem Dv (a : Int) (w : World) : Calls Try.prog 83 #[.int .i64 a] w fun e w' => e = .returned (.int .i64 (jD a)) ∧ bB w w' :=
 fe.calls a _ w (NG a)
def dM (a b : Int) : Int := Go.bits .andNot .i64 a b
theorem yw (a b : Int) (w : World) : Calls Try.prog 65 #[.int .i64 a, .int .i64 b] w fun e w' => e = .returned (.int .i64 (dM a b)) ∧ bB w w' :=
 dE.calls a b _ w rfl
def inP (n lo hi : Int) : Bool := decide (lo ≤ n) && decide (n ≤ hi)
theorem nE {n lo hi : Int} : inP n lo hi = true ↔ lo ≤ n ∧ n ≤ hi := by simp [inP]
theorem Du (n lo hi : Int) : di.f n lo hi = some (inP n lo hi) := by
 unfold di.f inP; split
 ·rename_i h; simp [h]
 ·rename_i h; simp [h]
def kT : Option Int → List S86 → Int
 | _, [] => 0
 | p, s :: r => if s.f0 < 65 ∨ s.f0 > 90 then 8 else if inP s.f1 1 1023 = true then (if (∃ q, p = some q ∧ s.f0 ≤ q) then 5 else kT (some s.f0) r) else 1
def qQ (a b : Int) (l : List S86) : Int :=
 if inP a (-3000) 3000 = true ∧ inP b (-3000) 3000 = true then (if a > b then 5 else if l.length = 0 then 7 else if l.length > 8 then 6 else kT none l) else 1
def BI (l : List S86) (i : Nat) : Option Int := if i = 0 then none else some (l.getD (i - 1) z86).f0
theorem C9 (l : List S86) : BI l 0 = none := rfl
theorem rM (l : List S86) (i : Nat) : BI l (i + 1) = some (l.getD i z86).f0 := by simp [BI]
theorem Dj (l : List S86) (i : Nat) : bn l (i : Int) = l.getD i z86 := by simp [bn]
theorem FW (a b : Int) (l : List S86) (hl : l.length ≤ 8) : ∀ (d i : Nat), i + d = l.length → Ev (fun k => ag.l0 k l (l.length : Int) (i : Int) a b l) (kT (BI l i) (l.drop i)) := by
 intro d
 induction d with
 | zero =>
  intro i hi; refine Ev.step (f := fun _ => some 0) (fun k => ?_) ?_
  ·simp only [ag.l0]; rw [if_neg (by omega)]
  ·rw [List.drop_eq_nil_of_le (by omega)]; exact Ev.now 0
 | succ d ih =>
  intro i hi; (have hc : ((i : Int) + 1) = ((i + 1 : Nat) : Int) := by omega); refine Ev.step (f := fun k => ag.j2 k (i : Int) l (l.length : Int) (i : Int) (decide ((l.getD i z86).f0 < 65 ∨ (l.getD i z86).f0 > 90)) a b l (l.getD i z86).f0 (l.getD i z86).f1) (fun k => ?_) ?_
  ·simp only [ag.l0]; rw [if_pos (by omega), if_pos (by omega), if_pos (by omega), Dj]; by_cases h : (l.getD i z86).f0 < 65
   ·rw [if_pos h, decide_eq_true h, decide_eq_true (show (l.getD i z86).f0 < 65 ∨ (l.getD i z86).f0 > 90 from .inl h)]
   ·rw [if_neg h]; simp only [h, false_or]
  rw [iV l z86 i (by omega), kT]; by_cases h1 : (l.getD i z86).f0 < 65 ∨ (l.getD i z86).f0 > 90
  ·rw [if_pos h1]; refine Ev.step (f := fun _ => some 8) (fun k => ?_) (Ev.now 8); simp only [ag.j2, h1, decide_true, if_true]
  rw [if_neg h1]; by_cases h2 : inP (l.getD i z86).f1 1 1023 = true
  ·rw [if_pos h2]; by_cases h3 : i = 0
   ·subst h3; rw [if_neg (by simp [BI])]; refine Ev.step (f := fun k => ag.l0 k l (l.length : Int) ((0 + 1 : Nat) : Int) a b l) (fun k => ?_) ?_
    ·simp only [ag.j2, h1, decide_false, Du, Option.bind_some, h2]; rw [if_neg (by decide), if_pos trivial, if_neg (by decide), show wrap64 (((0 : Nat) : Int) + 1) = ((0 + 1 : Nat) : Int) from by unfold wrap64; omega]
    ·have := ih 1 (by omega)
     rwa [rM] at this
   ·obtain ⟨j, rfl⟩ : ∃ j, i = j + 1 := ⟨i - 1, by omega⟩; rw [rM]; (have hw : wrap64 (((j + 1 : Nat) : Int) - 1) = (j : Int) := by unfold wrap64; omega); (have hw2 : wrap64 (((j + 1 : Nat) : Int) + 1) = ((j + 1 + 1 : Nat) : Int) := by unfold wrap64; omega); by_cases h4 : (l.getD (j + 1) z86).f0 ≤ (l.getD j z86).f0
    ·rw [if_pos ⟨_, rfl, h4⟩]; refine Ev.step (f := fun _ => some 5) (fun k => ?_) (Ev.now 5); simp only [ag.j2, h1, decide_false, Du, Option.bind_some, h2, hw]; rw [if_neg (by decide), if_pos trivial, if_pos (by omega), if_pos (by omega), if_pos (by omega), Dj, if_pos h4]
    ·rw [if_neg (by rintro ⟨q, hq, h⟩; cases hq; exact h4 h)]; refine Ev.step (f := fun k => ag.l0 k l (l.length : Int) ((j + 1 + 1 : Nat) : Int) a b l) (fun k => ?_) ?_
     ·simp only [ag.j2, h1, decide_false, Du, Option.bind_some, h2, hw, hw2]; rw [if_neg (by decide), if_pos trivial, if_pos (by omega), if_pos (by omega), if_pos (by omega), Dj, if_neg h4]
     ·have := ih (j + 1 + 1) (by omega)
      rwa [rM] at this
  ·rw [if_neg h2]; refine Ev.step (f := fun _ => some 1) (fun k => ?_) (Ev.now 1); simp only [ag.j2, h1, decide_false, Du, Option.bind_some, h2]; rw [if_neg (by decide), if_neg (by simp)]
theorem JV (a b : Int) (l : List S86) : Ev (fun k => ag.f k a b l) (qQ a b l) := by
 have hj : ∀ x, Ev (fun k => ag.j0 k x a b l) (if x = true then 1 else if a > b then 5 else if l.length = 0 then 7 else if l.length > 8 then 6 else kT none l) := by
  intro x; by_cases h1 : x = true
  ·rw [if_pos h1]; refine Ev.step (f := fun _ => some 1) (fun k => ?_) (Ev.now 1); simp only [ag.j0]; rw [if_pos h1]
  rw [if_neg h1]; by_cases h2 : a > b
  ·rw [if_pos h2]; refine Ev.step (f := fun _ => some 5) (fun k => ?_) (Ev.now 5); simp only [ag.j0]; rw [if_neg h1, if_pos h2]
  rw [if_neg h2]; by_cases h3 : l.length = 0
  ·rw [if_pos h3]; refine Ev.step (f := fun _ => some 7) (fun k => ?_) (Ev.now 7); simp only [ag.j0]; rw [if_neg h1, if_neg h2, if_pos (by omega)]
  rw [if_neg h3]; by_cases h4 : l.length > 8
  ·rw [if_pos h4]; refine Ev.step (f := fun _ => some 6) (fun k => ?_) (Ev.now 6); simp only [ag.j0]; rw [if_neg h1, if_neg h2, if_neg (by omega), if_pos (by omega)]
  rw [if_neg h4]; refine Ev.step (f := fun k => ag.l0 k l (l.length : Int) ((0 : Nat) : Int) a b l) (fun k => ?_) ?_
  ·simp only [ag.j0]; rw [if_neg h1, if_neg h2, if_neg (by omega), if_neg (by omega)]; rfl
  ·have := FW a b l (by omega) l.length 0 (by omega)
   simpa [C9] using this
 refine Ev.congr (f := fun k => ag.j0 k (!(inP a (-3000) 3000 && inP b (-3000) 3000)) a b l) (fun k => ?_) ?_
 ·simp only [ag.f, Du, Option.bind_some]; by_cases h : inP a (-3000) 3000 = true
  ·rw [if_pos h, h, Bool.true_and]
  ·rw [if_neg h]; simp only [Bool.not_eq_true] at h; rw [h, Bool.false_and]
 ·have := hj (!(inP a (-3000) 3000 && inP b (-3000) 3000)); unfold qQ; by_cases h : inP a (-3000) 3000 = true ∧ inP b (-3000) 3000 = true
  ·rw [if_pos h]; rw [h.1, h.2, Bool.and_self, Bool.not_true, if_neg (by decide)] at this; rw [h.1, h.2]; exact this
  ·rw [if_neg h]
   have hx : (inP a (-3000) 3000 && inP b (-3000) 3000) = false := by
    simp only [Bool.and_eq_false_iff]; by_cases h' : inP a (-3000) 3000 = true
    ·exact .inr (by simpa [h'] using h)
    ·exact .inl (by simpa using h')
   rw [hx, Bool.not_false, if_pos rfl] at this; rw [hx]; exact this
def kI : List S66 → Int
 | [] => 0
 | h :: r => if qQ h.f0.f0 h.f0.f1 h.f1 = 0 then kI r else qQ h.f0.f0 h.f0.f1 h.f1
def mf : List S27 → Int
 | [] => 0
 | x :: r => if inP x.f0 0 1023 = true ∧ inP x.f1 0 1023 = true then (if dM x.f1 x.f0 = 0 then mf r else 2) else 1
def jQ : List (List S27) → Int
 | [] => 0
 | q :: r => if q.length > 4 then 6 else if mf q = 0 then jQ r else mf q
def jl (l0 : List S66) (a1 a2 a3 : Int) (l4 : List (List S27)) : Int :=
 if l0.length = 0 then 7 else if l0.length > 4 then 6 else if kI l0 = 0 then
  (if inP a1 0 10 = true ∧ inP a2 0 10 = true ∧ inP a3 0 40 = true then (if l4.length = 0 then 7 else if l4.length > 8 then 6 else jQ l4) else 1)
 else kI l0
theorem FE (l : List S66) (i : Nat) : aX l (i : Int) = l.getD i z66 := by simp [aX]
theorem R6 (l : List S27) (i : Nat) : dx l (i : Int) = l.getD i z27 := by simp [dx]
theorem Qk (l : List (List S27)) (i : Nat) : dz l (i : Int) = l.getD i [] := by simp [dz]
theorem rR (i n : Nat) (h : i < n) (hn : n ≤ 9223372036854775807) : wrap64 ((i : Int) + 1) = ((i + 1 : Nat) : Int) := by unfold wrap64; omega
theorem Ct (l : List (List S27)) (hl : l.length ≤ 8) : ∀ (d i : Nat), i + d = l.length → Ev (fun k => aj.l1 k l (l.length : Int) (i : Int)) (jQ (l.drop i)) := by
 intro d
 induction d with
 | zero =>
  intro i hi; refine Ev.step (f := fun _ => some 0) (fun k => ?_) ?_
  ·simp only [aj.l1]; rw [if_neg (by omega)]
  ·rw [List.drop_eq_nil_of_le (by omega)]; exact Ev.now 0
 | succ d ih =>
  intro i hi; rw [iV l [] i (by omega), jQ]; obtain ⟨q, hq⟩ : ∃ q, q = l.getD i [] := ⟨_, rfl⟩; rw [← hq]; by_cases h1 : q.length > 4
  ·rw [if_pos h1]; refine Ev.step (f := fun _ => some 6) (fun k => ?_) (Ev.now 6); simp only [aj.l1]; rw [if_pos (by omega), if_pos (by omega), if_pos (by omega), Qk, ← hq, if_pos (by omega)]
  rw [if_neg h1]
  have hin : ∀ (e j : Nat), j + e = q.length → Ev (fun k => aj.l2 k l (l.length : Int) (i : Int) q (q.length : Int) (j : Int)) (if mf (q.drop j) = 0 then jQ (l.drop (i + 1)) else mf (q.drop j)) := by
   intro e
   induction e with
   | zero =>
    intro j hj; refine Ev.step (f := fun k => aj.l1 k l (l.length : Int) ((i + 1 : Nat) : Int)) (fun k => ?_) ?_
    ·simp only [aj.l2]; rw [if_neg (by omega), rR i 8 (by omega) (by omega)]
    ·rw [List.drop_eq_nil_of_le (show q.length ≤ j by omega), mf, if_pos rfl]; exact ih (i + 1) (by omega)
   | succ e ih2 =>
    intro j hj; rw [iV q z27 j (by omega), mf]; obtain ⟨x, hx⟩ : ∃ x, x = q.getD j z27 := ⟨_, rfl⟩; rw [← hx]; refine Ev.step (f := fun k => aj.j4 k l (l.length : Int) (i : Int) q (q.length : Int) (j : Int) (!(inP x.f0 0 1023 && inP x.f1 0 1023)) x.f0 x.f1) (fun k => ?_) ?_
    ·simp only [aj.l2, Du, Option.bind_some]; rw [if_pos (by omega), if_pos (by omega), if_pos (by omega), R6, ← hx]; by_cases h : inP x.f0 0 1023 = true
     ·rw [if_pos h, h, Bool.true_and]
     ·rw [if_neg h]; simp only [Bool.not_eq_true] at h; rw [h, Bool.false_and]
    by_cases h : inP x.f0 0 1023 = true ∧ inP x.f1 0 1023 = true
    ·rw [if_pos h, h.1, h.2, Bool.and_self, Bool.not_true]; by_cases h5 : dM x.f1 x.f0 = 0
     ·rw [if_pos h5]; refine Ev.step (f := fun k => aj.l2 k l (l.length : Int) (i : Int) q (q.length : Int) ((j + 1 : Nat) : Int)) (fun k => ?_) (ih2 (j + 1) (by omega)); simp only [aj.j4, dE.f, Option.bind_some]; rw [if_neg (by decide), if_pos (show Go.bits .andNot .i64 x.f1 x.f0 = 0 from h5), rR j 8 (by omega) (by omega)]
     ·rw [if_neg h5, if_neg (by decide)]; refine Ev.step (f := fun _ => some 2) (fun k => ?_) (Ev.now 2); simp only [aj.j4, dE.f, Option.bind_some]; rw [if_neg (by decide), if_neg (show ¬ Go.bits .andNot .i64 x.f1 x.f0 = 0 from h5)]
    ·rw [if_neg h, if_neg (by decide)]
     have hx : (inP x.f0 0 1023 && inP x.f1 0 1023) = false := by
      simp only [Bool.and_eq_false_iff]; by_cases h' : inP x.f0 0 1023 = true
      ·exact .inr (by simpa [h'] using h)
      ·exact .inl (by simpa using h')
     rw [hx, Bool.not_false]; refine Ev.step (f := fun _ => some 1) (fun k => ?_) (Ev.now 1); simp only [aj.j4]; rw [if_pos trivial]
  refine Ev.step (f := fun k => aj.l2 k l (l.length : Int) (i : Int) q (q.length : Int) ((0 : Nat) : Int)) (fun k => ?_) ?_
  ·simp only [aj.l1]; rw [if_pos (by omega), if_pos (by omega), if_pos (by omega), Qk, ← hq, if_neg (by omega)]; rfl
  ·have := hin q.length 0 (by omega)
   simpa using this
theorem F8 (l0 : List S66) (a1 a2 a3 : Int) (l4 : List (List S27)) : Ev (fun k => aj.f k l0 a1 a2 a3 l4) (jl l0 a1 a2 a3 l4) := by
 unfold jl; by_cases h1 : l0.length = 0
 ·rw [if_pos h1]; refine Ev.congr (f := fun _ => some 7) (fun k => ?_) (Ev.now 7); simp only [aj.f]; rw [if_pos (by omega)]
 rw [if_neg h1]; by_cases h2 : l0.length > 4
 ·rw [if_pos h2]; refine Ev.congr (f := fun _ => some 6) (fun k => ?_) (Ev.now 6); simp only [aj.f]; rw [if_neg (by omega), if_pos (by omega)]
 rw [if_neg h2]
 have hj : ∀ x, Ev (fun k => aj.j1 k x l0 a1 a2 a3 l4) (if x = true then 1 else if l4.length = 0 then 7 else if l4.length > 8 then 6 else jQ l4) := by
  intro x; by_cases h3 : x = true
  ·rw [if_pos h3]; refine Ev.step (f := fun _ => some 1) (fun k => ?_) (Ev.now 1); simp only [aj.j1]; rw [if_pos h3]
  rw [if_neg h3]; by_cases h4 : l4.length = 0
  ·rw [if_pos h4]; refine Ev.step (f := fun _ => some 7) (fun k => ?_) (Ev.now 7); simp only [aj.j1]; rw [if_neg h3, if_pos (by omega)]
  rw [if_neg h4]; by_cases h5 : l4.length > 8
  ·rw [if_pos h5]; refine Ev.step (f := fun _ => some 6) (fun k => ?_) (Ev.now 6); simp only [aj.j1]; rw [if_neg h3, if_neg (by omega), if_pos (by omega)]
  rw [if_neg h5]; refine Ev.step (f := fun k => aj.l1 k l4 (l4.length : Int) ((0 : Nat) : Int)) (fun k => ?_) ?_
  ·simp only [aj.j1]; rw [if_neg h3, if_neg (by omega), if_neg (by omega)]; rfl
  ·have := Ct l4 (by omega) l4.length 0 (by omega)
   simpa using this
 have hl : ∀ (d i : Nat), i + d = l0.length → Ev (fun k => aj.l0 k l0 (l0.length : Int) (i : Int) l0 a1 a2 a3 l4) (if kI (l0.drop i) = 0 then
  (if inP a1 0 10 = true ∧ inP a2 0 10 = true ∧ inP a3 0 40 = true then (if l4.length = 0 then 7 else if l4.length > 8 then 6 else jQ l4) else 1) else kI (l0.drop i)) := by
  intro d
  induction d with
  | zero =>
   intro i hi; rw [List.drop_eq_nil_of_le (by omega), kI, if_pos rfl]; refine Ev.step (f := fun k => aj.j1 k (!(inP a1 0 10 && (inP a2 0 10 && inP a3 0 40))) l0 a1 a2 a3 l4) (fun k => ?_) ?_
   ·simp only [aj.l0, Du, Option.bind_some]; rw [if_neg (by omega)]; by_cases h3 : inP a1 0 10 = true
    ·rw [if_pos h3, h3, Bool.true_and]; by_cases h4 : inP a2 0 10 = true
     ·rw [if_pos h4, h4, Bool.true_and]
     ·rw [if_neg h4]; simp only [Bool.not_eq_true] at h4; rw [h4, Bool.false_and]
    ·rw [if_neg h3]; simp only [Bool.not_eq_true] at h3; rw [h3, Bool.false_and]
   ·have := hj (!(inP a1 0 10 && (inP a2 0 10 && inP a3 0 40))); by_cases h : inP a1 0 10 = true ∧ inP a2 0 10 = true ∧ inP a3 0 40 = true
    ·rw [if_pos h]; rw [h.1, h.2.1, h.2.2] at this ⊢; exact this
    ·rw [if_neg h]
     have hx : (inP a1 0 10 && (inP a2 0 10 && inP a3 0 40)) = false := by
      rw [Bool.eq_false_iff]; intro hh; simp only [Bool.and_eq_true] at hh; exact h hh
     rw [hx] at this ⊢; exact this
  | succ d ih =>
   intro i hi; rw [iV l0 z66 i (by omega), kI]; refine Ev.step (f := fun k => (ag.f k (l0.getD i z66).f0.f0 (l0.getD i z66).f0.f1 (l0.getD i z66).f1).bind fun t => if t = 0 then aj.l0 k l0 (l0.length : Int) ((i + 1 : Nat) : Int) l0 a1 a2 a3 l4 else some t) (fun k => ?_) ?_
   ·simp only [aj.l0]; rw [if_pos (by omega), if_pos (by omega), if_pos (by omega), FE, rR i 8 (by omega) (by omega)]
   ·refine Ev.bind (JV _ _ _) ?_; by_cases h3 : qQ (l0.getD i z66).f0.f0 (l0.getD i z66).f0.f1 (l0.getD i z66).f1 = 0
    ·simp only [h3, if_true]; exact ih (i + 1) (by omega)
    ·simp only [h3, if_false]; exact Ev.now _
 have := hl l0.length 0 (by omega); refine Ev.congr (f := fun k => aj.l0 k l0 (l0.length : Int) ((0 : Nat) : Int) l0 a1 a2 a3 l4) (fun k => ?_) (by simpa using this); simp only [aj.f]; rw [if_neg (by omega), if_neg (by omega)]; rfl
theorem oN {l0 : List S66} {a1 a2 a3 : Int} {l4 : List (List S27)} (h : jl l0 a1 a2 a3 l4 = 0) : 0 < l0.length ∧ l0.length ≤ 4 ∧ 0 < l4.length ∧ l4.length ≤ 8 ∧ kI l0 = 0 ∧ jQ l4 = 0 ∧ inP a1 0 10 = true ∧ inP a2 0 10 = true ∧ inP a3 0 40 = true := by
 unfold jl at h; split at h
 ·exact absurd h (by decide)
 split at h
 ·exact absurd h (by decide)
 split at h
 ·split at h
  ·split at h
   ·exact absurd h (by decide)
   split at h
   ·exact absurd h (by decide)
   ·rename_i h1 h2 h3 h4 h5 h6; exact ⟨by omega, by omega, by omega, by omega, h3, h, h4⟩
  ·exact absurd h (by decide)
 ·rename_i h1 h2 h3; exact absurd h h3
theorem zf {l0 : List S66} (h : kI l0 = 0) : ∀ x ∈ l0, qQ x.f0.f0 x.f0.f1 x.f1 = 0 := by
 induction l0 with
 | nil => intro x hx; cases hx
 | cons y r ih =>
  rw [kI] at h; split at h
  ·rename_i h1; intro x hx; rcases List.mem_cons.1 hx with rfl | hx
   ·exact h1
   ·exact ih h x hx
  ·rename_i h1; exact absurd h h1
theorem vB {a b : Int} {l : List S86} (h : qQ a b l = 0) : inP a (-3000) 3000 = true ∧ inP b (-3000) 3000 = true ∧ a ≤ b ∧ 0 < l.length ∧ l.length ≤ 8 ∧ kT none l = 0 := by
 unfold qQ at h; split at h
 ·rename_i h0; split at h
  ·exact absurd h (by decide)
  split at h
  ·exact absurd h (by decide)
  split at h
  ·exact absurd h (by decide)
  ·rename_i h1 h2 h3; exact ⟨h0.1, h0.2, by omega, by omega, by omega, h⟩
 ·exact absurd h (by decide)
theorem oL {l0 : List S66} (h : kI l0 = 0) : ∀ i : Nat, i < l0.length → (aX l0 (i : Int)).f1.length ≤ 8 := fun i hi => by
 rw [FE, List.getD_eq_getElem?_getD, List.getElem?_eq_getElem hi]; exact (vB (zf h _ (List.getElem_mem hi))).2.2.2.2.1
theorem vo (df : Option Addr) (bW : Nat) (aG : List (S66)) (aH : Int) (aW : Int) (bg : Int) (cZ : Option Addr) (bY : Nat) (aA : List (List (S27))) (w : World) (jB : Kd.C k66 w df aG.length aG) (kD : aG.length ≤ bW) (jC : Kd.C (Kd.slice 27 k27) w cZ aA.length aA) (kF : aA.length ≤ bY) :
 Calls Try.prog 40 #[.agg #[.slice df aG.length bW, .int .i64 aH, .int .i64 aW, .int .i64 bg, .slice cZ aA.length bY]] w fun e w' => e = .returned (.int .i64 (jl aG aH aW bg aA)) ∧ Below w.heap.size w w' := by
 obtain ⟨k, hk⟩ := (F8 aG aH aW bg aA).rounds; exact aj.calls k df bW aG aH aW bg cZ bY aA _ w jB kD jC kF hk
def EvI {α : Type} (g : Nat → Option α) (P : α → Prop) : Prop := ∃ r, Ev g r ∧ P r
theorem EvI.now {α : Type} {P : α → Prop} {r : α} (h : P r) : EvI (fun _ => some r) P := ⟨r, Ev.now r, h⟩
theorem EvI.step {α : Type} {g f : Nat → Option α} {P : α → Prop} (h : ∀ k, g (k + 1) = f k) (k : EvI f P) : EvI g P := by
 obtain ⟨r, hr, hp⟩ := k; exact ⟨r, Ev.step h hr, hp⟩
theorem EvI.bind {α β : Type} {g : Nat → Option α} {f : Nat → α → Option β} {P : α → Prop} {Q : β → Prop} (h : EvI g P) (k : ∀ a, P a → EvI (fun n => f n a) Q) : EvI (fun n => (g n).bind (f n)) Q := by
 obtain ⟨a, ha, hp⟩ := h; obtain ⟨r, hr, hq⟩ := k a hp; exact ⟨r, Ev.bind ha hr, hq⟩
theorem EvI.call {α β : Type} {o : Option α} {f : Nat → α → Option β} {a : α} {Q : β → Prop} (h : o = some a) (k : EvI (fun n => f n a) Q) : EvI (fun n => o.bind (f n)) Q := by
 subst h; exact k
theorem EvI.pos {α : Type} {c : Prop} [Decidable c] {g f : Nat → Option α} {P : α → Prop} (h : c) (k : EvI f P) : EvI (fun n => if c then f n else g n) P := by
 simp only [if_pos h]; exact k
theorem EvI.neg {α : Type} {c : Prop} [Decidable c] {g f : Nat → Option α} {P : α → Prop} (h : ¬ c) (k : EvI g P) : EvI (fun n => if c then f n else g n) P := by
 simp only [if_neg h]; exact k
theorem EvI.ite {α : Type} {c : Prop} [Decidable c] {g f : Nat → Option α} {P : α → Prop} (k1 : c → EvI f P) (k2 : ¬ c → EvI g P) : EvI (fun n => if c then f n else g n) P := by
 by_cases h : c
 ·exact EvI.pos h (k1 h)
 ·exact EvI.neg h (k2 h)
theorem EvI.rounds {α : Type} {g : Nat → Option α} {P : α → Prop} (h : EvI g P) : ∃ r, (∃ k, g k = some r) ∧ P r := by
 obtain ⟨r, hr, hp⟩ := h; exact ⟨r, hr.rounds, hp⟩
theorem bJ {x : Int} (h0 : -9223372036854775808 ≤ x) (h1 : x < 9223372036854775808) : wrap64 x = x := by unfold wrap64; omega
theorem Mk (a b : Int) : ∃ r x y, cO.f a b = some (r, x, y) ∧ 0 ≤ r := by
 unfold cO.f; split
 ·exact ⟨_, _, _, rfl, by simp only [IntKind.wrap, IntKind.bits, IntKind.signed, Bool.false_and, Bool.false_eq_true, if_false]; omega⟩
 ·exact ⟨_, _, _, rfl, by simp only [IntKind.wrap, IntKind.bits, IntKind.signed, Bool.false_and, Bool.false_eq_true, if_false]; omega⟩
theorem oC (a b n : Int) (h1 : 1 ≤ n) (h2 : n ≤ 4611686018427387904) : ∃ v x y, aJ.f a b n = some (v, x, y) ∧ 0 ≤ v ∧ v < n := by
 unfold aJ.f; by_cases h : n < 2
 ·rw [if_pos h]; exact ⟨_, _, _, rfl, by omega, by omega⟩
 ·rw [if_neg h]; obtain ⟨r, x, y, hr, h0⟩ := Mk a b; (have hw : IntKind.u64.wrap n = n := by simp only [IntKind.wrap, IntKind.bits, IntKind.signed, Bool.false_and, Bool.false_eq_true, if_false]; omega); rw [hr, Option.bind_some, hw, if_neg (by omega)]; have hm0 : 0 ≤ Int.tmod (r / 2048) n := Int.tmod_nonneg _ (by omega); have hm1 : Int.tmod (r / 2048) n < n := Int.tmod_lt_of_pos _ (by omega); refine ⟨_, _, _, rfl, ?_, ?_⟩
  ·simp only []; rw [bJ (by omega) (by omega)]; exact hm0
  ·simp only []; rw [bJ (by omega) (by omega)]; exact hm1
theorem rO (a b lo hi : Int) (h : lo ≤ hi) (h1 : -1000000 ≤ lo) (h2 : hi ≤ 1000000) : ∃ v x y, bE.f a b lo hi = some (v, x, y) ∧ lo ≤ v ∧ v ≤ hi := by
 unfold bE.f; rw [bJ (x := hi - lo) (by omega) (by omega), bJ (x := hi - lo + 1) (by omega) (by omega)]; obtain ⟨v, x, y, hv, h3, h4⟩ := oC a b (hi - lo + 1) (by omega) (by omega); rw [hv, Option.bind_some]; refine ⟨_, _, _, rfl, ?_, ?_⟩ <;> (simp only []; rw [bJ (by omega) (by omega)]; omega)
theorem Ca (a b n m : Int) (h1 : 1 ≤ m) (h2 : m ≤ 1000000) : ∃ v x y, dO.f a b n m = some (v, x, y) := by
 unfold dO.f; obtain ⟨v, x, y, hv, h3, h4⟩ := oC a b m h1 (by omega); rw [hv, Option.bind_some]; exact ⟨_, _, _, rfl⟩
theorem xf (a b : Int) (l : List Int) (h1 : l ≠ []) (h2 : l.length ≤ 1000) : ∃ v x y, cK.f a b l = some (v, x, y) ∧ v ∈ l := by
 have hl : 0 < l.length := List.length_pos_iff.2 h1; unfold cK.f; rw [if_neg (by omega)]; obtain ⟨v, x, y, hv, h3, h4⟩ := oC a b (l.length : Int) (by omega) (by omega); rw [hv, Option.bind_some]; simp only []; rw [if_pos h3, if_pos h4]; refine ⟨_, _, _, rfl, ?_⟩; obtain ⟨i, rfl⟩ := Int.eq_ofNat_of_zero_le h3; (have hi : i < l.length := by omega); (have : rd l (i : Int) = l[i] := by simp [rd, List.getD_eq_getElem?_getD, hi]); rw [this]; exact List.getElem_mem _
def Asc (l : List S86) : Prop := (∀ s ∈ l, 65 ≤ s.f0 ∧ s.f0 ≤ 90 ∧ 1 ≤ s.f1 ∧ s.f1 ≤ 31) ∧ l.Pairwise (fun a b => a.f0 < b.f0)
theorem Asc.shapes : ∀ {l : List S86} {p : Option Int}, Asc l → (∀ q, p = some q → ∀ s ∈ l, q < s.f0) → kT p l = 0
 | [], _, _, _ => by simp [kT]
 | s :: r, p, h, hp => by
  obtain ⟨h1, h2⟩ := h; have hs := h1 s List.mem_cons_self; rw [kT, if_neg (by omega), if_pos (nE.2 (by omega)), if_neg]
  ·exact Asc.shapes ⟨fun t ht => h1 t (List.mem_cons_of_mem _ ht), (List.pairwise_cons.1 h2).2⟩ (fun q hq t ht => by cases hq; exact (List.pairwise_cons.1 h2).1 t ht)
  ·rintro ⟨q, hq, hle⟩; have := hp q hq s List.mem_cons_self; omega
def jI (m : Int) (h : S66) : Prop := -600 ≤ h.f0.f0 ∧ h.f0.f0 ≤ h.f0.f1 ∧ h.f0.f1 ≤ 500 ∧ Asc h.f1 ∧ 0 < h.f1.length ∧ (h.f1.length : Int) ≤ m
theorem jI.valid {m : Int} {h : S66} (hg : jI m h) (hm : m ≤ 8) : qQ h.f0.f0 h.f0.f1 h.f1 = 0 := by
 obtain ⟨h1, h2, h3, h4, h5, h6⟩ := hg; rw [qQ, if_pos ⟨nE.2 (by omega), nE.2 (by omega)⟩, if_neg (by omega), if_neg (by omega), if_neg (by omega)]; exact h4.shapes (fun q hq => by cases hq)
theorem KO : ∀ (d : Nat) (x7 x8 a b lo hi : Int) (l : List S86), 0 ≤ x7 → x7 ≤ 26 → 0 ≤ x8 → x8 = (d : Int) → d ≤ 100 → l.length + d ≤ 200 → Asc l → (∀ s ∈ l, s.f0 < 65 + x7) →
 EvI (fun k => au.l0 k x7 x8 a b lo hi l) fun r => r.1 = lo ∧ r.2.1 = hi ∧ Asc r.2.2.1 ∧ l.length ≤ r.2.2.1.length ∧ (r.2.2.1.length : Int) ≤ l.length + x8 ∧ (0 < x8 → x7 < 26 → l.length < r.2.2.1.length) := by
 intro d
 induction d with
 | zero =>
  intro x7 x8 a b lo hi l h1 h2 h3 h4 hd hl ha hb; refine EvI.step (f := fun k => au.j1 k x7 x8 false a b lo hi l) (fun k => by rw [au.l0, if_neg (by omega)]) ?_; refine EvI.step (f := fun k => some (lo, hi, l, a, b)) (fun k => by rw [au.j1, if_neg (by simp)]) ?_; refine EvI.now ⟨rfl, rfl, ha, by simp, by simp; omega, fun h => by omega⟩
 | succ d ih =>
  intro x7 x8 a b lo hi l h1 h2 h3 h4 hd hl ha hb; refine EvI.step (f := fun k => au.j1 k x7 x8 (decide (x7 < 26)) a b lo hi l) (fun k => by rw [au.l0, if_pos (by omega)]) ?_; by_cases h26 : ¬ x7 < 26
  ·refine EvI.step (f := fun k => some (lo, hi, l, a, b)) (fun k => by rw [au.j1, if_neg (by simp; omega)]) ?_; refine EvI.now ⟨rfl, rfl, ha, by simp, by simp; omega, fun _ h => by omega⟩
  replace h26 := Decidable.of_not_not h26; obtain ⟨n, x, y, hn, h5, h6⟩ := oC a b (mn 4 (wrap64 (26 - x7))) (by rw [bJ (by omega) (by omega)]; unfold mn; split <;> omega) (by rw [bJ (by omega) (by omega)]; unfold mn; split <;> omega)
  have h7 : n < 26 - x7 := by
   rw [bJ (by omega) (by omega)] at h6; unfold mn at h6; split at h6 <;> omega
  obtain ⟨s, x', y', hs, h8, h9⟩ := rO x y 1 31 (by omega) (by omega) (by omega); have e1 : wrap64 (x7 + n) = x7 + n := bJ (by omega) (by omega); (have e2 : wrap64 (65 + (x7 + n)) % 256 = 65 + x7 + n := by rw [bJ (by omega) (by omega)]; omega); have e3 : wrap64 (x7 + n + 1) = x7 + n + 1 := bJ (by omega) (by omega); have e4 : wrap64 (x8 - 1) = (d : Int) := by rw [bJ (by omega) (by omega)]; omega
  refine EvI.step (f := fun k => au.l0 k (x7 + n + 1) (d : Int) x' y' lo hi (l ++ [⟨65 + x7 + n, s⟩])) (fun k => by
   rw [au.j1, if_pos (decide_eq_true h26), hn, Option.bind_some]; simp only []; rw [hs, Option.bind_some]; simp only []
   rw [if_pos (by omega), e1, e2, e3, e4]) ?_
  obtain ⟨r, hr, r1, r2, r3, r4, r5, r6⟩ := ih (x7 + n + 1) (d : Int) x' y' lo hi (l ++ [⟨65 + x7 + n, s⟩]) (by omega) (by omega) (by omega) rfl (by omega) (by simp; omega) (by
   refine ⟨fun t ht => ?_, ?_⟩
   ·rcases List.mem_append.1 ht with ht | ht
    ·exact ha.1 t ht
    ·rw [List.mem_singleton] at ht; subst ht; exact ⟨by simp only []; omega, by simp only []; omega, h8, h9⟩
   ·refine List.pairwise_append.2 ⟨ha.2, by simp, fun t ht u hu => ?_⟩; rw [List.mem_singleton] at hu; subst hu; have := hb t ht; simp only []
    omega) (fun t ht => by
    rcases List.mem_append.1 ht with ht | ht
    ·have := hb t ht; omega
    ·rw [List.mem_singleton] at ht; subst ht; simp only []
     omega)
  simp only [List.length_append, List.length_cons, List.length_nil] at r4 r5; refine ⟨r, hr, r1, r2, r3, by omega, by push_cast at r5; omega, fun _ _ => by omega⟩
theorem AX (a b m : Int) (h1 : 1 ≤ m) (h2 : m ≤ 100) : EvI (fun k => au.f k a b m) fun r => jI m ⟨⟨r.1, r.2.1⟩, r.2.2.1⟩ := by
 obtain ⟨lo, x, y, hlo, h3, h4⟩ := rO a b (-600) 300 (by omega) (by omega) (by omega); obtain ⟨u, x', y', hu, h5, h6⟩ := oC x y 200 (by omega) (by omega); obtain ⟨n, x2, y2, hn, h7, h8⟩ := rO x' y' 1 m h1 (by omega) (by omega); have e : wrap64 (lo + u) = lo + u := bJ (by omega) (by omega); obtain ⟨d, rfl⟩ := Int.eq_ofNat_of_zero_le (show 0 ≤ n by omega); obtain ⟨r, hr, r1, r2, r3, r4, r5, r6⟩ := KO d 0 (d : Int) x2 y2 lo (lo + u) [] (by omega) (by omega) (by omega) rfl (by omega) (by simp; omega) ⟨fun s hs => absurd hs List.not_mem_nil, List.Pairwise.nil⟩ (fun s hs => absurd hs List.not_mem_nil); have r7 := r6 (by omega) (by omega); simp only [List.length_nil] at r5 r7; simp only [au.f]; refine EvI.call hlo (EvI.call hu (EvI.call hn ?_)); simp only [e]; refine ⟨r, hr, ?_⟩; refine ⟨by simp only []; omega, by simp only []; omega, by simp only []; omega, r3, r7, by simp only []; omega⟩
abbrev nZ := (List S66) × Int × Int × Int × (List (List S27)) × Int × ByteArray × List Int × Int × Int
def lw (x : S27) : Prop := inP x.f0 0 1023 = true ∧ inP x.f1 0 1023 = true ∧ dM x.f1 x.f0 = 0
def iI (a1 a2 a3 : Int) (r : nZ) : Prop :=
 (0 < r.1.length ∧ (r.1.length : Int) ≤ a1 ∧ ∀ h ∈ r.1, jI a2 h) ∧ (0 ≤ r.2.1 ∧ r.2.1 ≤ 2) ∧ (0 ≤ r.2.2.1 ∧ r.2.2.1 ≤ 2) ∧ (0 ≤ r.2.2.2.1 ∧ r.2.2.2.1 ≤ 40) ∧
  0 < r.2.2.2.2.1.length ∧ (r.2.2.2.2.1.length : Int) ≤ a3 ∧ ∀ q ∈ r.2.2.2.2.1, q.length ≤ 4 ∧ ∀ x ∈ q, lw x
theorem wrap_small {n : Nat} (h : n ≤ 1023) : IntKind.i64.wrap (n : Int) = (n : Int) := by
 have e : wrap64 (n : Int) = IntKind.i64.wrap (n : Int) := by
  simp only [IntKind.wrap, IntKind.bits, IntKind.signed, wrap64]; simp; split <;> omega
 rw [← e, bJ (by omega) (by omega)]
theorem yB (x : BitVec 64) : BitVec.ofInt IntKind.i64.bits ((x.toNat : Nat) : Int) = x := by
 show BitVec.ofInt 64 ((x.toNat : Nat) : Int) = x; rw [BitVec.ofInt_natCast, BitVec.ofNat_toNat, BitVec.setWidth_eq]
theorem yP (v s : Int) (h0 : 0 ≤ s) (h1 : s ≤ 31) : lw ⟨s, Go.bits .and .i64 v s⟩ := by
 obtain ⟨n, rfl⟩ := Int.eq_ofNat_of_zero_le h0
 have hn : (BitVec.ofInt 64 ((n : Nat) : Int)).toNat = n := by
  rw [BitVec.ofInt_natCast, BitVec.toNat_ofNat]; exact Nat.mod_eq_of_lt (by omega)
 have hle : (BitVec.ofInt 64 v &&& BitVec.ofInt 64 ((n : Nat) : Int)).toNat ≤ 31 := by
  rw [BitVec.toNat_and, hn]; have := @Nat.and_le_right (BitVec.ofInt 64 v).toNat n; omega
 have hb : Go.bits .and .i64 v ((n : Nat) : Int) = ((BitVec.ofInt 64 v &&& BitVec.ofInt 64 ((n : Nat) : Int)).toNat : Int) := wrap_small (n := (BitVec.ofInt 64 v &&& BitVec.ofInt 64 ((n : Nat) : Int)).toNat) (by omega)
 have hz : (BitVec.ofInt 64 v &&& BitVec.ofInt 64 ((n : Nat) : Int)) &&& ~~~(BitVec.ofInt 64 ((n : Nat) : Int)) = (0 : BitVec 64) := by
  rw [BitVec.and_assoc]; simp
 refine ⟨nE.2 ⟨by simp only []; omega, by simp only []; omega⟩, nE.2 ⟨?_, ?_⟩, ?_⟩
 ·simp only []; rw [hb]; omega
 ·simp only []; rw [hb]; omega
 ·simp only []; rw [hb]; unfold dM Go.bits; rw [yB]; exact congrArg (fun x : BitVec 64 => IntKind.i64.wrap (x.toNat : Int)) hz
theorem Lj (P : nZ → Prop) (x13 : List S86) (x14 x15 x17 : Int) (hs : List S66) (w c t : Int) (sq : List (List S27)) (cut : Int) (txt : ByteArray) (vis : List Int) (y0 y1 : Int)
 (ht : txt.size ≤ 100000) (hv : vis.length ≤ 100000) (hq : sq.length ≤ 100000)
 (K : ∀ (q : List S27) (a b : Int), q.length ≤ 4 → (∀ x ∈ q, lw x) → EvI (fun k => ae.l1 k x13 x14 (wrap64 (x15 - 1)) a b hs w c t (sq ++ [q]) cut (txt ++ strOfNums [y0]) (vis ++ [x17])) P) :
 ∀ (d : Nat) (q : List S27) (a b : Int), q.length + d ≤ 4 → (∀ x ∈ q, lw x) → EvI (fun k => ae.l3 k x13 x14 x15 x17 q (d : Int) a b hs w c t sq cut txt vis y0 y1) P := by
 intro d
 induction d with
 | zero =>
  intro q a b hl hx; refine EvI.step (f := fun k => ae.l1 k x13 x14 (wrap64 (x15 - 1)) a b hs w c t (sq ++ [q]) cut (txt ++ strOfNums [y0]) (vis ++ [x17])) (fun k => ?_) (K q a b (by omega) hx); rw [ae.l3, if_neg (by omega)]; simp only [Option.bind_some]; have e : (strOfNums [y0]).size = 1 := rfl; rw [if_pos (by omega), if_pos (by simp; omega), if_pos (by simp; omega)]
 | succ d ih =>
  intro q a b hl hx; obtain ⟨u, x, y, hu, h3, h4⟩ := oC a b 32 (by omega) (by omega); obtain ⟨s, x', y', hs', hm⟩ := xf x y [31, 15, u] (by simp) (by simp)
  have hs0 : 0 ≤ s ∧ s ≤ 31 := by
   simp only [List.mem_cons, List.not_mem_nil, or_false] at hm; omega
  (have e1 : wrap64 (((d + 1 : Nat) : Int) - 1) = (d : Int) := by rw [bJ (by omega) (by omega)]; omega); refine EvI.step (f := fun k => ae.l3 k x13 x14 x15 x17 (q ++ [⟨s, Go.bits .and .i64 x17 s⟩]) (d : Int) x' y' hs w c t sq cut txt vis y0 y1) (fun k => ?_) (ih _ _ _ (by simp; omega) ?_)
  ·rw [ae.l3, if_pos (by omega), hu, Option.bind_some]; simp only []; rw [hs', Option.bind_some]; simp only [Option.bind_some]; rw [if_pos (by simp; omega), e1]
  ·intro z hz; rcases List.mem_append.1 hz with hz | hz
   ·exact hx z hz
   ·rw [List.mem_singleton] at hz; subst hz; exact yP _ _ hs0.1 hs0.2
theorem MJ (P : nZ → Prop) (x13 : List S86) (x15 : Int) (hs : List S66) (w c t : Int) (sq : List (List S27)) (cut : Int) (txt : ByteArray) (vis : List Int) (y0 y1 : Int) (m0 : Int) (h0 : 0 ≤ m0) (h1 : m0 ≤ 1000000)
 (K : ∀ (m v a b : Int) (n : Nat), 0 ≤ m → m ≤ m0 + 10 → n ≤ 4 → EvI (fun k => ae.l3 k x13 m x15 v [] (n : Int) a b hs w c t sq cut txt vis y0 y1) P) :
 ∀ (d : Nat) (i m v f g a b : Int), i + d = 5 → 0 ≤ i → 0 ≤ m → m ≤ m0 + 2 * i → EvI (fun k => ae.l2 k x13 m x15 v f g i a b hs w c t sq cut txt vis y0 y1) P := by
 intro d
 induction d with
 | zero =>
  intro i m v f g a b hi hi0 hm hm1; obtain ⟨n, x, y, hn, hmem⟩ := xf a b [0, 1, 1, 2, 3] (by simp) (by simp)
  have hn0 : 0 ≤ n ∧ n ≤ 3 := by
   simp only [List.mem_cons, List.not_mem_nil, or_false] at hmem; omega
  obtain ⟨j, rfl⟩ := Int.eq_ofNat_of_zero_le hn0.1; refine EvI.step (f := fun k => ae.l3 k x13 m x15 v [] (j : Int) x y hs w c t sq cut txt vis y0 y1) (fun k => ?_) (K m v x y j hm (by omega) (by omega)); rw [ae.l2, if_neg (by omega), hn, Option.bind_some]
 | succ d ih =>
  intro i m v f g a b hi hi0 hm hm1
  have J : ∀ (h o : Bool) (a b : Int), EvI (fun k => ae.j3 k x13 m x15 v f g i h o a b hs w c t sq cut txt vis y0 y1) P := by
   intro h o a b; have e1 : wrap64 (i + 1) = i + 1 := bJ (by omega) (by omega); have e2 : wrap64 (m + 1) = m + 1 := bJ (by omega) (by omega); have e3 : wrap64 (m + 1 + 1) = m + 1 + 1 := bJ (by omega) (by omega); obtain ⟨p, x, y, hp⟩ := Ca a b 1 3 (by omega) (by omega); (have I0 : ∀ (v f g a b : Int), EvI (fun k => ae.l2 k x13 m x15 v f g (i + 1) a b hs w c t sq cut txt vis y0 y1) P := fun v f g a b => ih (i + 1) m v f g a b (by omega) (by omega) hm (by omega)); (have I1 : ∀ (v f g a b : Int), EvI (fun k => ae.l2 k x13 (m + 1) x15 v f g (i + 1) a b hs w c t sq cut txt vis y0 y1) P := fun v f g a b => ih (i + 1) (m + 1) v f g a b (by omega) (by omega) (by omega) (by omega)); (have I2 : ∀ (v f g a b : Int), EvI (fun k => ae.l2 k x13 (m + 1 + 1) x15 v f g (i + 1) a b hs w c t sq cut txt vis y0 y1) P := fun v f g a b => ih (i + 1) (m + 1 + 1) v f g a b (by omega) (by omega) (by omega) (by omega)); refine EvI.step (fun k => by rw [ae.j3, e1, e2, e3]) ?_; refine EvI.ite (fun _ => EvI.pos hi0 (EvI.ite (fun _ => I1 ..) (fun _ => EvI.ite (fun _ => EvI.call hp (EvI.ite (fun _ => I2 ..) (fun _ => I1 ..))) (fun _ => I1 ..)))) (fun _ => EvI.ite (fun _ => I0 ..) (fun _ => EvI.ite (fun _ => EvI.call hp (EvI.ite (fun _ => EvI.pos hi0 (I1 ..)) (fun _ => I0 ..))) (fun _ => I0 ..)))
  obtain ⟨p, x, y, hp⟩ := Ca a b 1 3 (by omega) (by omega); refine EvI.step (fun k => by rw [ae.l2, if_pos (by omega), if_pos hi0]) ?_; exact EvI.ite (fun _ => EvI.ite (fun _ => EvI.call hp (J ..)) (fun _ => J ..)) (fun _ => J ..)
theorem JY (a1 a2 a3 : Int) (x13 : List S86) (hx : 0 < x13.length) (hx' : x13.length ≤ 1000) (hs : List S66) (w c t : Int) (hh : 0 < hs.length ∧ (hs.length : Int) ≤ a1 ∧ ∀ h ∈ hs, jI a2 h) (hw : 0 ≤ w ∧ w ≤ 2) (hc : 0 ≤ c ∧ c ≤ 2) (cut : Int) :
 ∀ (d : Nat) (m a b : Int) (sq : List (List S27)) (txt : ByteArray) (vis : List Int), d ≤ 1000 → 0 ≤ m → m + 10 * d ≤ 100000 → ((sq.length : Int) + d ≤ a3) → (0 < sq.length + d) → txt.size + d ≤ 100000 → vis.length + d ≤ 100000 → sq.length + d ≤ 100000 → (∀ q ∈ sq, q.length ≤ 4 ∧ ∀ x ∈ q, lw x) →
  EvI (fun k => ae.l1 k x13 m (d : Int) a b hs w c t sq cut txt vis) (iI a1 a2 a3) := by
 intro d
 induction d with
 | zero =>
  intro m a b sq txt vis hd hm hm1 h3 h4 h5 h6 h7 hq; obtain ⟨n, x, y, hn, hmem⟩ := xf a b [0, 0, 1, 2] (by simp) (by simp)
  have hn0 : 0 ≤ n ∧ n ≤ 2 := by
   simp only [List.mem_cons, List.not_mem_nil, or_false] at hmem; omega
  refine EvI.step (f := fun k => some (hs, w, c, mn 40 (wrap64 (m + n)), sq, cut, txt, vis, x, y)) (fun k => ?_) (EvI.now ⟨hh, hw, hc, ?_, by simpa using h4, by simp only []; omega, hq⟩)
  ·rw [ae.l1, if_neg (by omega), hn, Option.bind_some]
  ·simp only []; rw [bJ (by omega) (by omega)]; unfold mn; split <;> omega
 | succ d ih =>
  intro m a b sq txt vis hd hm hm1 h3 h4 h5 h6 h7 hq; obtain ⟨u, x, y, hu, h8, h9⟩ := oC a b (x13.length : Int) (by omega) (by omega); have ew : wrap64 (w + 1) = w + 1 := bJ (by omega) (by omega); have ec : wrap64 (c + 1) = c + 1 := bJ (by omega) (by omega); obtain ⟨f, x1, y1, hf, _, _⟩ := oC x y (w + 1) (by omega) (by omega); obtain ⟨g, x2, y2, hg, _, _⟩ := oC x1 y1 (c + 1) (by omega) (by omega); refine EvI.step (f := fun k => ae.l2 k x13 m ((d + 1 : Nat) : Int) ((bn x13 u).f1) f g 0 x2 y2 hs w c t sq cut txt vis ((bn x13 u).f0) ((bn x13 u).f1)) (fun k => ?_) ?_
  ·rw [ae.l1, if_pos (by omega), hu, Option.bind_some]; simp only []; rw [if_pos h8, if_pos h9, ew, hf, Option.bind_some]; simp only []; rw [ec, hg, Option.bind_some]
  refine MJ _ x13 _ hs w c t sq cut txt vis _ _ m hm (by omega) (fun m' v a b n hm0 hm1 hn => ?_) 5 0 m _ f g x2 y2 (by omega) (by omega) hm (by omega); refine Lj _ x13 m' _ v hs w c t sq cut txt vis _ _ (by omega) (by omega) (by omega) (fun q a b hq1 hq2 => ?_) n [] a b (by simpa using hn) (fun x hx => absurd hx List.not_mem_nil); (have e1 : wrap64 (((d + 1 : Nat) : Int) - 1) = (d : Int) := by rw [bJ (by omega) (by omega)]; omega); rw [e1]; refine ih m' a b (sq ++ [q]) _ _ (by omega) hm0 (by omega) (by simp; omega) (by simp; omega) ?_ (by simp; omega) (by simp; omega) ?_
  ·have : (strOfNums [(bn x13 u).f0]).size = 1 := rfl; rw [ByteArray.size_append]; omega
  ·intro z hz; rcases List.mem_append.1 hz with hz | hz
   ·exact hq z hz
   ·rw [List.mem_singleton] at hz; subst hz; exact ⟨hq1, hq2⟩
theorem LV (a1 a2 a3 : Int) (h2 : 1 ≤ a2) (h2' : a2 ≤ 100) (h3 : 1 ≤ a3) (h3' : a3 ≤ 100) (w c : Int) (hw : 0 ≤ w ∧ w ≤ 2) (hc : 0 ≤ c ∧ c ≤ 2) :
 ∀ (d : Nat) (a b : Int) (hs : List S66), 0 < hs.length + d → (hs.length : Int) + d ≤ a1 → hs.length + d ≤ 1000 → (∀ h ∈ hs, jI a2 h) → EvI (fun k => ae.l0 k a2 a3 (d : Int) a b hs w c 0) (iI a1 a2 a3) := by
 intro d
 induction d with
 | zero =>
  intro a b hs h4 h5 h6 hh; obtain ⟨u, x, y, hu, h8, h9⟩ := oC a b (hs.length : Int) (by omega) (by omega); obtain ⟨n, x1, y1, hn, h10, h11⟩ := rO x y 1 a3 h3 (by omega) (by omega); obtain ⟨j, rfl⟩ := Int.eq_ofNat_of_zero_le (show 0 ≤ n by omega)
  have hg := hh (aX hs u) (by
   obtain ⟨i, rfl⟩ := Int.eq_ofNat_of_zero_le h8; rw [FE, List.getD_eq_getElem?_getD, List.getElem?_eq_getElem (by omega)]
   exact List.getElem_mem _)
  refine EvI.step (f := fun k => ae.l1 k ((aX hs u).f1) 0 (j : Int) x1 y1 hs w c 0 [] u ⟨#[]⟩ []) (fun k => ?_) ?_
  ·rw [ae.l0, if_neg (by omega), hu, Option.bind_some]; simp only []; rw [if_pos h8, if_pos h9, hn, Option.bind_some]
  ·refine JY a1 a2 a3 _ hg.2.2.2.2.1 (by have := hg.2.2.2.2.2; omega) hs w c 0 ⟨by omega, by omega, hh⟩ hw hc u j 0 x1 y1 [] _ [] (by omega) (by omega) (by omega) (by simp; omega) (by simp; omega) ?_ (by simp; omega) (by simp; omega) (fun q hq => absurd hq List.not_mem_nil); have : (ByteArray.mk #[]).size = 0 := rfl; omega
 | succ d ih =>
  intro a b hs h4 h5 h6 hh; (have e1 : wrap64 (((d + 1 : Nat) : Int) - 1) = (d : Int) := by rw [bJ (by omega) (by omega)]; omega); refine EvI.step (fun k => by rw [ae.l0, if_pos (by omega), e1]) ?_; refine EvI.bind (AX a b a2 h2 h2') (fun r hr => ?_); refine EvI.call rfl (EvI.pos ?_ ?_)
  ·simp; omega
  ·refine ih _ _ _ (by simp; omega) (by simp; omega) (by simp; omega) (fun h hm => ?_); rcases List.mem_append.1 hm with hm | hm
   ·exact hh h hm
   ·rw [List.mem_singleton] at hm; subst hm; exact hr
theorem Us (a b a1 a2 a3 : Int) (h1 : 1 ≤ a1) (h1' : a1 ≤ 100) (h2 : 1 ≤ a2) (h2' : a2 ≤ 100) (h3 : 1 ≤ a3) (h3' : a3 ≤ 100) : EvI (fun k => ae.f k a b a1 a2 a3) (iI a1 a2 a3) := by
 obtain ⟨w, x, y, hw, h4, h5⟩ := oC a b 3 (by omega) (by omega); obtain ⟨c, x1, y1, hc, h6, h7⟩ := oC x y 3 (by omega) (by omega); obtain ⟨n, x2, y2, hn, h8, h9⟩ := rO x1 y1 1 a1 h1 (by omega) (by omega); obtain ⟨j, rfl⟩ := Int.eq_ofNat_of_zero_le (show 0 ≤ n by omega); simp only [ae.f]; refine EvI.call hw (EvI.call hc (EvI.call hn ?_)); exact LV a1 a2 a3 h2 h2' h3 h3' w c (by omega) (by omega) j x2 y2 [] (by simp; omega) (by simp; omega) (by simp; omega) (fun h hm => absurd hm List.not_mem_nil)
theorem yf {m : Int} (hm : m ≤ 8) : ∀ {l : List S66}, (∀ h ∈ l, jI m h) → kI l = 0
 | [], _ => rfl
 | h :: r, hh => by
  rw [kI, if_pos ((hh h List.mem_cons_self).valid hm)]; exact yf hm fun x hx => hh x (List.mem_cons_of_mem _ hx)
theorem vk : ∀ {l : List S27}, (∀ x ∈ l, lw x) → mf l = 0
 | [], _ => rfl
 | x :: r, hh => by
  have h := hh x List.mem_cons_self; rw [mf, if_pos ⟨h.1, h.2.1⟩, if_pos h.2.2]; exact vk fun x hx => hh x (List.mem_cons_of_mem _ hx)
theorem sW : ∀ {l : List (List S27)}, (∀ q ∈ l, q.length ≤ 4 ∧ ∀ x ∈ q, lw x) → jQ l = 0
 | [], _ => rfl
 | q :: r, hh => by
  have h := hh q List.mem_cons_self; rw [jQ, if_neg (by omega), if_pos (vk h.2)]; exact sW fun x hx => hh x (List.mem_cons_of_mem _ hx)
theorem iI.check {a1 a2 a3 : Int} {r : nZ} (h : iI a1 a2 a3 r) (h1 : a1 ≤ 4) (h2 : a2 ≤ 8) (h3 : a3 ≤ 8) {t : Int} (h4 : 0 ≤ t) (h5 : t ≤ 40) {sq : List (List S27)} (h6 : sq.length = r.2.2.2.2.1.length) (h7 : ∀ q ∈ sq, q.length ≤ 4 ∧ ∀ x ∈ q, lw x) : jl r.1 r.2.1 r.2.2.1 t sq = 0 := by
 obtain ⟨⟨g1, g2, g3⟩, g4, g5, g6, g7, g8, g9⟩ := h; rw [jl, if_neg (by omega), if_neg (by omega), if_pos (yf h2 g3), if_pos ⟨nE.2 (by omega), nE.2 (by omega), nE.2 (by omega)⟩, if_neg (by omega), if_neg (by omega)]; exact sW h7
set_option maxRecDepth 100000
theorem sV : ∀ a b : Fin 32, Go.bits .and .i64 (a.1 : Int) (b.1 : Int) = ((a.1 &&& b.1 : Nat) : Int) := by decide +kernel
theorem La : ∀ a b : Fin 32, Go.bits .or .i64 (a.1 : Int) (b.1 : Int) = ((a.1 ||| b.1 : Nat) : Int) := by decide +kernel
theorem yQ : ∀ a b : Fin 32, dM (a.1 : Int) (b.1 : Int) = ((a.1 &&& (31 ^^^ b.1) : Nat) : Int) := by decide +kernel
def pop (a : Nat) : Nat := (a.testBit 0).toNat + (a.testBit 1).toNat + (a.testBit 2).toNat + (a.testBit 3).toNat + (a.testBit 4).toNat
theorem uk : ∀ a : Fin 32, jD (a.1 : Int) = (pop a.1 : Int) := by decide +kernel
def lost (s v : Nat) : Nat := pop (s &&& (31 ^^^ v))
def made (s v : Nat) : Nat := pop (v &&& (31 ^^^ s))
theorem E9 : ∀ s v h : Fin 32, pop ((s.1 &&& h.1) &&& (31 ^^^ (v.1 &&& h.1))) ≤ lost s.1 v.1 ∧ pop ((v.1 &&& h.1) &&& (31 ^^^ s.1)) ≤ made s.1 v.1 := by decide +kernel
theorem JL : ∀ (s : Fin 32) (i : Fin 5), Go.bits .and .i64 (shr .i64 (s.1 : Int) (i.1 : Int)) 1 = (if s.1.testBit i.1 then 1 else 0) := by decide +kernel
theorem Me : ∀ (i : Fin 5), shl .i64 1 (i.1 : Int) = ((2 ^ i.1 : Nat) : Int) := by decide +kernel
def Agree (s v i : Nat) : Bool := (s ^^^ v) / 2 ^ i == 0
theorem FR : ∀ (s v : Fin 32) (i : Fin 5), Agree s.1 v.1 i.1 = true → s.1.testBit i.1 = true → 2 ^ i.1 ≤ v.1 ∧ Agree s.1 (v.1 - 2 ^ i.1) (i.1 + 1) = true ∧ lost s.1 (v.1 - 2 ^ i.1) = lost s.1 v.1 + 1 ∧ made s.1 (v.1 - 2 ^ i.1) = made s.1 v.1 := by decide +kernel
theorem Fw : ∀ (s v : Fin 32) (i : Fin 5), Agree s.1 v.1 i.1 = true → s.1.testBit i.1 = false → v.1 + 2 ^ i.1 < 32 ∧ Agree s.1 (v.1 + 2 ^ i.1) (i.1 + 1) = true ∧ lost s.1 (v.1 + 2 ^ i.1) = lost s.1 v.1 ∧ made s.1 (v.1 + 2 ^ i.1) = made s.1 v.1 + 1 := by decide +kernel
theorem FX : ∀ (s v : Fin 32) (i : Fin 5), Agree s.1 v.1 i.1 = true → Agree s.1 v.1 (i.1 + 1) = true := by decide +kernel
theorem Co : ∀ s : Fin 32, Agree s.1 s.1 0 = true ∧ lost s.1 s.1 = 0 ∧ made s.1 s.1 = 0 := by decide +kernel
theorem MU : ∀ a b : Fin 32, a.1 ||| b.1 < 32 := by decide +kernel
theorem Vv : ∀ a b : Fin 32, a.1 &&& (b.1 ||| a.1) = a.1 := by decide +kernel
theorem Wl : ∀ v a b : Fin 32, (v.1 &&& a.1) ||| (v.1 &&& b.1) = v.1 &&& (a.1 ||| b.1) := by decide +kernel
theorem TW : ∀ v h x : Fin 32, x.1 &&& h.1 = x.1 → (v.1 &&& h.1) &&& x.1 = v.1 &&& x.1 := by decide +kernel
theorem ut : ∀ a : Fin 32, pop a.1 ≤ 5 := by decide +kernel
def uK (v : Nat) (x : S27) : Prop := ∃ a : Nat, a < 32 ∧ x = ⟨(a : Int), ((v &&& a : Nat) : Int)⟩
theorem uK.ok {v : Nat} (hv : v < 32) {x : S27} (h : uK v x) : lw x := by
 obtain ⟨a, ha, rfl⟩ := h; have := yP (v : Int) (a : Int) (by omega) (by omega); rw [sV ⟨v, hv⟩ ⟨a, ha⟩] at this; exact this
def dG (sh : List S86) (k : Nat) : Nat := (sh.getD k z86).f1.toNat
def Gf (W S : Int) (sh : List S86) (q : List S27) (m c : Int) : Prop :=
 ∃ k v : Nat, k < sh.length ∧ v < 32 ∧ (∀ x ∈ q, uK v x) ∧ (lost (dG sh k) v : Int) ≤ W ∧ (made (dG sh k) v : Int) ≤ S ∧ ((lost (dG sh k) v : Int) + (made (dG sh k) v : Int)) ≤ m ∧ (sh.getD k z86).f0 = c
def rT (W S : Int) (sh : List S86) (sq : List (List S27)) (ms cs : List Int) : Prop := ms.length = sq.length ∧ cs.length = sq.length ∧ ∀ i (h : i < sq.length), Gf W S sh sq[i] (ms.getD i 0) (cs.getD i 0)
theorem rT.snoc {W S : Int} {sh : List S86} {sq : List (List S27)} {ms cs : List Int} (h : rT W S sh sq ms cs) {q : List S27} {m c : Int} (hq : Gf W S sh q m c) : rT W S sh (sq ++ [q]) (ms ++ [m]) (cs ++ [c]) := by
 obtain ⟨h1, h0, h2⟩ := h; refine ⟨by simp [h1], by simp [h0], fun i hi => ?_⟩; by_cases hi' : i < sq.length
 ·have e1 : (sq ++ [q])[i] = sq[i] := List.getElem_append_left hi'; (have e2 : (ms ++ [m]).getD i 0 = ms.getD i 0 := by simp [List.getD_eq_getElem?_getD, List.getElem?_append_left (show i < ms.length by omega)]); (have e3 : (cs ++ [c]).getD i 0 = cs.getD i 0 := by simp [List.getD_eq_getElem?_getD, List.getElem?_append_left (show i < cs.length by omega)]); rw [e1, e2, e3]; exact h2 i hi'
 ·(have e : i = sq.length := by simp at hi; omega); subst e; (have e1 : (sq ++ [q])[sq.length] = q := by simp); (have e2 : (ms ++ [m]).getD sq.length 0 = m := by rw [← h1]; simp [List.getD_eq_getElem?_getD]); (have e3 : (cs ++ [c]).getD sq.length 0 = c := by rw [← h0]; simp [List.getD_eq_getElem?_getD]); rw [e1, e2, e3]; exact hq
def AF (sq : List (List S27)) (vis : List Int) : Prop := vis.length = sq.length ∧ ∀ i (h : i < sq.length), ∃ v : Nat, v < 32 ∧ vis.getD i 0 = (v : Int) ∧ ∀ x ∈ sq[i], uK v x
theorem AF.snoc {sq : List (List S27)} {vis : List Int} (h : AF sq vis) {q : List S27} {v : Nat} (hv : v < 32) (hq : ∀ x ∈ q, uK v x) : AF (sq ++ [q]) (vis ++ [(v : Int)]) := by
 obtain ⟨h1, h2⟩ := h; refine ⟨by simp [h1], fun i hi => ?_⟩; by_cases hi' : i < sq.length
 ·have e1 : (sq ++ [q])[i] = sq[i] := List.getElem_append_left hi'; (have e2 : (vis ++ [(v : Int)]).getD i 0 = vis.getD i 0 := by simp [List.getD_eq_getElem?_getD, List.getElem?_append_left (show i < vis.length by omega)]); rw [e1, e2]; exact h2 i hi'
 ·(have e : i = sq.length := by simp at hi; omega); subst e; (have e1 : (sq ++ [q])[sq.length] = q := by simp); (have e2 : (vis ++ [(v : Int)]).getD sq.length 0 = v := by rw [← h1]; simp [List.getD_eq_getElem?_getD]); rw [e1]; exact ⟨v, hv, e2, hq⟩
def xJ (r : nZ) : Prop := 0 ≤ r.2.2.2.2.2.1 ∧ r.2.2.2.2.2.1 < (r.1.length : Int) ∧ ∃ ms cs : List Int, rT r.2.1 r.2.2.1 (aX r.1 r.2.2.2.2.2.1).f1 r.2.2.2.2.1 ms cs ∧ ms.sum ≤ r.2.2.2.1 ∧ r.2.2.2.2.2.2.1 = strOfNums cs ∧ AF r.2.2.2.2.1 r.2.2.2.2.2.2.2.1
theorem oD (l : List Int) (y : Int) : strOfNums (l ++ [y]) = strOfNums l ++ strOfNums [y] := ByteArray.ext (by rw [ByteArray.data_append]; simp [strOfNums])
theorem LP (P : nZ → Prop) (x13 : List S86) (x14 x15 : Int) (v : Nat) (hv32 : v < 32) (hs : List S66) (w c t : Int) (sq : List (List S27)) (cut : Int) (txt : ByteArray) (vis : List Int) (y0 y1 : Int)
 (ht : txt.size ≤ 100000) (hv : vis.length ≤ 100000) (hq : sq.length ≤ 100000)
 (K : ∀ (q : List S27) (a b : Int), q.length ≤ 4 → (∀ x ∈ q, uK v x) → EvI (fun k => ae.l1 k x13 x14 (wrap64 (x15 - 1)) a b hs w c t (sq ++ [q]) cut (txt ++ strOfNums [y0]) (vis ++ [(v : Int)])) P) :
 ∀ (d : Nat) (q : List S27) (a b : Int), q.length + d ≤ 4 → (∀ x ∈ q, uK v x) → EvI (fun k => ae.l3 k x13 x14 x15 (v : Int) q (d : Int) a b hs w c t sq cut txt vis y0 y1) P := by
 intro d
 induction d with
 | zero =>
  intro q a b hl hx; refine EvI.step (f := fun k => ae.l1 k x13 x14 (wrap64 (x15 - 1)) a b hs w c t (sq ++ [q]) cut (txt ++ strOfNums [y0]) (vis ++ [(v : Int)])) (fun k => ?_) (K q a b (by omega) hx); rw [ae.l3, if_neg (by omega)]; simp only [Option.bind_some]; have e : (strOfNums [y0]).size = 1 := rfl; rw [if_pos (by omega), if_pos (by simp; omega), if_pos (by simp; omega)]
 | succ d ih =>
  intro q a b hl hx; obtain ⟨u, x, y, hu, h3, h4⟩ := oC a b 32 (by omega) (by omega); obtain ⟨s, x', y', hs', hm⟩ := xf x y [31, 15, u] (by simp) (by simp)
  have hs0 : 0 ≤ s ∧ s ≤ 31 := by
   simp only [List.mem_cons, List.not_mem_nil, or_false] at hm; omega
  obtain ⟨n, rfl⟩ := Int.eq_ofNat_of_zero_le hs0.1; (have e1 : wrap64 (((d + 1 : Nat) : Int) - 1) = (d : Int) := by rw [bJ (by omega) (by omega)]; omega); refine EvI.step (f := fun k => ae.l3 k x13 x14 x15 (v : Int) (q ++ [⟨(n : Int), Go.bits .and .i64 (v : Int) (n : Int)⟩]) (d : Int) x' y' hs w c t sq cut txt vis y0 y1) (fun k => ?_) (ih _ _ _ (by simp; omega) ?_)
  ·rw [ae.l3, if_pos (by omega), hu, Option.bind_some]; simp only []; rw [hs', Option.bind_some]; simp only [Option.bind_some]; rw [if_pos (by simp; omega), e1]
  ·intro z hz; rcases List.mem_append.1 hz with hz | hz
   ·exact hx z hz
   ·rw [List.mem_singleton] at hz; subst hz; exact ⟨n, by omega, by rw [sV ⟨v, hv32⟩ ⟨n, by omega⟩]⟩
theorem Mf (P : nZ → Prop) (x13 : List S86) (x15 : Int) (hs : List S66) (w c t : Int) (sq : List (List S27)) (cut : Int) (txt : ByteArray) (vis : List Int) (y0 : Int) (s : Nat) (hs32 : s < 32) (m0 w0 c0 : Int) (h0 : 0 ≤ m0) (h1 : m0 ≤ 1000000) (hw0 : w0 ≤ 100) (hc0 : c0 ≤ 100)
 (K : ∀ (v : Nat) (a b : Int) (n : Nat), v < 32 → (lost s v : Int) ≤ w0 → (made s v : Int) ≤ c0 → n ≤ 4 → EvI (fun k => ae.l3 k x13 (m0 + (lost s v : Int) + (made s v : Int)) x15 (v : Int) [] (n : Int) a b hs w c t sq cut txt vis y0 (s : Int)) P) :
 ∀ (d i v : Nat) (a b : Int), i + d = 5 → v < 32 → Agree s v i = true → (lost s v : Int) ≤ w0 → (made s v : Int) ≤ c0 →
  EvI (fun k => ae.l2 k x13 (m0 + (lost s v : Int) + (made s v : Int)) x15 (v : Int) (w0 - (lost s v : Int)) (c0 - (made s v : Int)) (i : Int) a b hs w c t sq cut txt vis y0 (s : Int)) P := by
 intro d
 induction d with
 | zero =>
  intro i v a b hi hv ha hl hm; obtain ⟨n, x, y, hn, hmem⟩ := xf a b [0, 1, 1, 2, 3] (by simp) (by simp)
  have hn0 : 0 ≤ n ∧ n ≤ 3 := by
   simp only [List.mem_cons, List.not_mem_nil, or_false] at hmem; omega
  obtain ⟨j, rfl⟩ := Int.eq_ofNat_of_zero_le hn0.1; refine EvI.step (f := fun k => ae.l3 k x13 (m0 + (lost s v : Int) + (made s v : Int)) x15 (v : Int) [] (j : Int) x y hs w c t sq cut txt vis y0 (s : Int)) (fun k => ?_) (K v x y j hv hl hm (by omega)); rw [ae.l2, if_neg (by omega), hn, Option.bind_some]
 | succ d ih =>
  intro i v a b hi hv ha hl hm; (have hi5 : i < 5 := by omega); (have e1 : wrap64 ((i : Int) + 1) = ((i + 1 : Nat) : Int) := by rw [bJ (by omega) (by omega)]; omega); have esh := Me ⟨i, hi5⟩; have ehas := JL ⟨s, hs32⟩ ⟨i, hi5⟩; simp only [] at esh ehas; have same := FX ⟨s, hs32⟩ ⟨v, hv⟩ ⟨i, hi5⟩ ha; obtain ⟨p, x, y, hp⟩ := Ca a b 1 3 (by omega) (by omega); have I0 : ∀ (a b : Int), EvI (fun k => ae.l2 k x13 (m0 + (lost s v : Int) + (made s v : Int)) x15 (v : Int) (w0 - (lost s v : Int)) (c0 - (made s v : Int)) ((i + 1 : Nat) : Int) a b hs w c t sq cut txt vis y0 (s : Int)) P := fun a b => ih (i + 1) v a b (by omega) hv same hl hm
  cases hb : s.testBit i with
  | true =>
   rw [hb, if_pos rfl] at ehas; obtain ⟨g1, g2, g3, g4⟩ := FR ⟨s, hs32⟩ ⟨v, hv⟩ ⟨i, hi5⟩ ha hb; simp only [] at g1 g2 g3 g4; generalize hz : 2 ^ i = z at g1 g2 g3 g4 esh; have hz1 : 1 ≤ z := by rw [← hz]; exact Nat.one_le_two_pow
   have JF : ∀ (a b : Int), EvI (fun k => ae.j3 k x13 (m0 + (lost s v : Int) + (made s v : Int)) x15 (v : Int) (w0 - (lost s v : Int)) (c0 - (made s v : Int)) (i : Int) true false a b hs w c t sq cut txt vis y0 (s : Int)) P := fun a b => by
    refine EvI.step (fun k => ?_) (I0 a b); rw [ae.j3, if_neg (by simp), if_pos rfl, e1]
   have JT : (lost s v : Int) < w0 → ∀ (a b : Int), EvI (fun k => ae.j3 k x13 (m0 + (lost s v : Int) + (made s v : Int)) x15 (v : Int) (w0 - (lost s v : Int)) (c0 - (made s v : Int)) (i : Int) true true a b hs w c t sq cut txt vis y0 (s : Int)) P := fun hlt a b => by
    have q := ih (i + 1) (v - z) a b (by omega) (by omega) g2 (by rw [g3]; push_cast; omega) (by rw [g4]; exact hm); (have e2 : wrap64 (m0 + (lost s v : Int) + (made s v : Int) + 1) = m0 + (lost s (v - z) : Int) + (made s (v - z) : Int) := by rw [bJ (by omega) (by omega), g3, g4]; push_cast; omega); (have e3 : wrap64 ((v : Int) - (z : Int)) = ((v - z : Nat) : Int) := by rw [bJ (by omega) (by omega)]; omega); (have e4 : wrap64 (w0 - (lost s v : Int) - 1) = w0 - (lost s (v - z) : Int) := by rw [bJ (by omega) (by omega), g3]; push_cast; omega); refine EvI.step (fun k => ?_) q; rw [ae.j3, if_pos rfl, if_pos (by omega), if_pos rfl, e1, e2, esh, e3, e4, g4]
   by_cases hf : w0 - (lost s v : Int) > 0
   ·cases p with
    | false =>
     refine EvI.step (fun k => ?_) (JF x y); rw [ae.l2, if_pos (by omega), if_pos (by omega), if_pos ehas, if_pos hf, hp, Option.bind_some, ehas]; rfl
    | true =>
     refine EvI.step (fun k => ?_) (JT (by omega) x y); rw [ae.l2, if_pos (by omega), if_pos (by omega), if_pos ehas, if_pos hf, hp, Option.bind_some, ehas]; rfl
   ·refine EvI.step (fun k => ?_) (JF a b); rw [ae.l2, if_pos (by omega), if_pos (by omega), if_pos ehas, if_neg hf, ehas]; rfl
  | false =>
   rw [hb, if_neg (by simp)] at ehas; obtain ⟨g1, g2, g3, g4⟩ := Fw ⟨s, hs32⟩ ⟨v, hv⟩ ⟨i, hi5⟩ ha hb; simp only [] at g1 g2 g3 g4; generalize hz : 2 ^ i = z at g1 g2 g3 g4 esh; have hz1 : 1 ≤ z := by rw [← hz]; exact Nat.one_le_two_pow
   have J : EvI (fun k => ae.j3 k x13 (m0 + (lost s v : Int) + (made s v : Int)) x15 (v : Int) (w0 - (lost s v : Int)) (c0 - (made s v : Int)) (i : Int) false false a b hs w c t sq cut txt vis y0 (s : Int)) P := by
    by_cases hg : c0 - (made s v : Int) > 0
    ·cases p with
     | false =>
      refine EvI.step (fun k => ?_) (I0 x y); rw [ae.j3, if_neg (by simp), if_neg (by simp), if_pos hg, hp, Option.bind_some, if_neg (by simp), e1]
     | true =>
      have q := ih (i + 1) (v + z) x y (by omega) g1 g2 (by rw [g3]; exact hl) (by rw [g4]; push_cast; omega); (have e2 : wrap64 (m0 + (lost s v : Int) + (made s v : Int) + 1) = m0 + (lost s (v + z) : Int) + (made s (v + z) : Int) := by rw [bJ (by omega) (by omega), g3, g4]; push_cast; omega); (have e3 : wrap64 ((v : Int) + (z : Int)) = ((v + z : Nat) : Int) := by rw [bJ (by omega) (by omega)]; omega); (have e4 : wrap64 (c0 - (made s v : Int) - 1) = c0 - (made s (v + z) : Int) := by rw [bJ (by omega) (by omega), g4]; push_cast; omega); refine EvI.step (fun k => ?_) q; rw [ae.j3, if_neg (by simp), if_neg (by simp), if_pos hg, hp, Option.bind_some, if_pos rfl, if_pos (by omega), e1, e2, esh, e3, e4, g3]
    ·refine EvI.step (fun k => ?_) (I0 a b); rw [ae.j3, if_neg (by simp), if_neg (by simp), if_neg hg, e1]
   refine EvI.step (fun k => ?_) J; rw [ae.l2, if_pos (by omega), if_pos (by omega), if_neg (by rw [ehas]; decide), ehas]; rfl
theorem GI (ms : List Int) (m : Int) : (ms ++ [m]).sum = ms.sum + m := by simp [List.sum_append]
theorem J4 (a1 a2 a3 : Int) (sh : List S86) (hx : 0 < sh.length) (hx' : sh.length ≤ 1000) (hasc : Asc sh) (hs : List S66) (w c t : Int) (hh : 0 < hs.length ∧ (hs.length : Int) ≤ a1 ∧ ∀ h ∈ hs, jI a2 h) (hw : 0 ≤ w ∧ w ≤ 2) (hc : 0 ≤ c ∧ c ≤ 2) (cut : Int) (hcut0 : 0 ≤ cut) (hcut1 : cut < (hs.length : Int)) (hsh : (aX hs cut).f1 = sh) (h8 : a3 ≤ 8) :
 ∀ (d : Nat) (m a b : Int) (sq : List (List S27)) (txt : ByteArray) (vis : List Int) (ms cs : List Int), 0 ≤ m → ms.sum ≤ m → m ≤ 4 * sq.length → ((sq.length : Int) + d ≤ a3) → (0 < sq.length + d) → txt.size + d ≤ 1000 → vis.length + d ≤ 1000 → (∀ q ∈ sq, q.length ≤ 4 ∧ ∀ x ∈ q, lw x) → rT w c sh sq ms cs → txt = strOfNums cs → AF sq vis →
  EvI (fun k => ae.l1 k sh m (d : Int) a b hs w c t sq cut txt vis) (fun r => iI a1 a2 a3 r ∧ xJ r) := by
 intro d
 induction d with
 | zero =>
  intro m a b sq txt vis ms cs hm hms hm1 h3 h4 h5 h6 hq hT htx hvs; obtain ⟨n, x, y, hn, hmem⟩ := xf a b [0, 0, 1, 2] (by simp) (by simp)
  have hn0 : 0 ≤ n ∧ n ≤ 2 := by
   simp only [List.mem_cons, List.not_mem_nil, or_false] at hmem; omega
  (have et : mn 40 (wrap64 (m + n)) = mn 40 (m + n) := by rw [bJ (by omega) (by omega)]); refine EvI.step (f := fun k => some (hs, w, c, mn 40 (m + n), sq, cut, txt, vis, x, y)) (fun k => ?_) (EvI.now ⟨⟨hh, hw, hc, ?_, by simpa using h4, by simp only []; omega, hq⟩, hcut0, hcut1, ms, cs, ?_, ?_, htx, hvs⟩)
  ·rw [ae.l1, if_neg (by omega), hn, Option.bind_some, et]
  ·simp only []; unfold mn; split <;> omega
  ·simp only []; rw [hsh]; exact hT
  ·simp only []; unfold mn; split <;> omega
 | succ d ih =>
  intro m a b sq txt vis ms cs hm hms hm1 h3 h4 h5 h6 hq hT htx hvs; obtain ⟨u, x, y, hu, h9, h10⟩ := oC a b (sh.length : Int) (by omega) (by omega); have ew : wrap64 (w + 1) = w + 1 := bJ (by omega) (by omega); have ec : wrap64 (c + 1) = c + 1 := bJ (by omega) (by omega); obtain ⟨f, x1, y1, hf, hf0, hf1⟩ := oC x y (w + 1) (by omega) (by omega); obtain ⟨g, x2, y2, hg, hg0, hg1⟩ := oC x1 y1 (c + 1) (by omega) (by omega); obtain ⟨i, rfl⟩ := Int.eq_ofNat_of_zero_le h9; have hi : i < sh.length := by omega
  have hmem : sh.getD i z86 ∈ sh := by
   rw [List.getD_eq_getElem?_getD, List.getElem?_eq_getElem hi]; exact List.getElem_mem _
  have hst := hasc.1 _ hmem; (have hs32 : dG sh i < 32 := by unfold dG; omega); (have es : (sh.getD i z86).f1 = (dG sh i : Int) := by unfold dG; omega); have hself := Co ⟨dG sh i, hs32⟩; simp only [] at hself; refine EvI.step (f := fun k => ae.l2 k sh (m + (lost (dG sh i) (dG sh i) : Int) + (made (dG sh i) (dG sh i) : Int)) ((d + 1 : Nat) : Int) (dG sh i : Int) (f - (lost (dG sh i) (dG sh i) : Int)) (g - (made (dG sh i) (dG sh i) : Int)) ((0 : Nat) : Int) x2 y2 hs w c t sq cut txt vis ((sh.getD i z86).f0) (dG sh i : Int)) (fun k => ?_) ?_
  ·rw [ae.l1, if_pos (by omega), hu, Option.bind_some]; simp only []; rw [if_pos h9, if_pos h10, ew, hf, Option.bind_some]; simp only []; rw [ec, hg, Option.bind_some, Dj, es, hself.2.1, hself.2.2]; simp
  refine Mf _ sh _ hs w c t sq cut txt vis _ (dG sh i) hs32 m f g hm (by omega) (by omega) (by omega) (fun v a b n hv hl hm' hn => ?_) 5 0 (dG sh i) x2 y2 (by omega) hs32 hself.1 (by rw [hself.2.1]; exact hf0) (by rw [hself.2.2]; exact hg0); refine LP _ sh _ _ v hv hs w c t sq cut txt vis _ _ (by omega) (by omega) (by omega) (fun q a b hq1 hq2 => ?_) n [] a b (by simpa using hn) (fun x hx => absurd hx List.not_mem_nil); (have e1 : wrap64 (((d + 1 : Nat) : Int) - 1) = (d : Int) := by rw [bJ (by omega) (by omega)]; omega); rw [e1]; refine ih _ a b (sq ++ [q]) _ _ (ms ++ [(lost (dG sh i) v : Int) + (made (dG sh i) v : Int)]) (cs ++ [(sh.getD i z86).f0]) (by omega) (by rw [GI]; omega) (by simp; omega) (by simp; omega) (by simp; omega) ?_ (by simp; omega) ?_ (hT.snoc ⟨i, v, hi, hv, hq2, by omega, by omega, Int.le_refl _, rfl⟩) (by rw [htx, oD]) (hvs.snoc hv hq2)
  ·have : (strOfNums [(sh.getD i z86).f0]).size = 1 := rfl; rw [ByteArray.size_append]; omega
  ·intro z hz; rcases List.mem_append.1 hz with hz | hz
   ·exact hq z hz
   ·rw [List.mem_singleton] at hz; subst hz; exact ⟨hq1, fun x hx => (hq2 x hx).ok hv⟩
theorem JN (a1 a2 a3 : Int) (h2 : 1 ≤ a2) (h2' : a2 ≤ 100) (h3 : 1 ≤ a3) (h3' : a3 ≤ 8) (w c : Int) (hw : 0 ≤ w ∧ w ≤ 2) (hc : 0 ≤ c ∧ c ≤ 2) :
 ∀ (d : Nat) (a b : Int) (hs : List S66), 0 < hs.length + d → (hs.length : Int) + d ≤ a1 → hs.length + d ≤ 1000 → (∀ h ∈ hs, jI a2 h) → EvI (fun k => ae.l0 k a2 a3 (d : Int) a b hs w c 0) (fun r => iI a1 a2 a3 r ∧ xJ r) := by
 intro d
 induction d with
 | zero =>
  intro a b hs h4 h5 h6 hh; obtain ⟨u, x, y, hu, h8, h9⟩ := oC a b (hs.length : Int) (by omega) (by omega); obtain ⟨n, x1, y1, hn, h10, h11⟩ := rO x y 1 a3 h3 (by omega) (by omega); obtain ⟨j, rfl⟩ := Int.eq_ofNat_of_zero_le (show 0 ≤ n by omega)
  have hg := hh (aX hs u) (by
   obtain ⟨i, rfl⟩ := Int.eq_ofNat_of_zero_le h8; rw [FE, List.getD_eq_getElem?_getD, List.getElem?_eq_getElem (by omega)]
   exact List.getElem_mem _)
  refine EvI.step (f := fun k => ae.l1 k ((aX hs u).f1) 0 (j : Int) x1 y1 hs w c 0 [] u ⟨#[]⟩ []) (fun k => ?_) ?_
  ·rw [ae.l0, if_neg (by omega), hu, Option.bind_some]; simp only []; rw [if_pos h8, if_pos h9, hn, Option.bind_some]
  ·refine J4 a1 a2 a3 _ hg.2.2.2.2.1 (by have := hg.2.2.2.2.2; omega) hg.2.2.2.1 hs w c 0 ⟨by omega, by omega, hh⟩ hw hc u h8 h9 rfl h3' j 0 x1 y1 [] _ [] [] [] (by omega) (by simp) (by simp) (by simp; omega) (by simp; omega) ?_ (by simp; omega) (fun q hq => absurd hq List.not_mem_nil) ⟨rfl, rfl, fun i hi => absurd hi (by simp)⟩ rfl ⟨rfl, fun i hi => absurd hi (by simp)⟩; have : (ByteArray.mk #[]).size = 0 := rfl; omega
 | succ d ih =>
  intro a b hs h4 h5 h6 hh; (have e1 : wrap64 (((d + 1 : Nat) : Int) - 1) = (d : Int) := by rw [bJ (by omega) (by omega)]; omega); refine EvI.step (fun k => by rw [ae.l0, if_pos (by omega), e1]) ?_; refine EvI.bind (AX a b a2 h2 h2') (fun r hr => ?_); refine EvI.call rfl (EvI.pos ?_ ?_)
  ·simp; omega
  ·refine ih _ _ _ (by simp; omega) (by simp; omega) (by simp; omega) (fun h hm => ?_); rcases List.mem_append.1 hm with hm | hm
   ·exact hh h hm
   ·rw [List.mem_singleton] at hm; subst hm; exact hr
theorem Kw (a b a1 a2 a3 : Int) (h1 : 1 ≤ a1) (h1' : a1 ≤ 100) (h2 : 1 ≤ a2) (h2' : a2 ≤ 100) (h3 : 1 ≤ a3) (h3' : a3 ≤ 8) : EvI (fun k => ae.f k a b a1 a2 a3) (fun r => iI a1 a2 a3 r ∧ xJ r) := by
 obtain ⟨w, x, y, hw, h4, h5⟩ := oC a b 3 (by omega) (by omega); obtain ⟨c, x1, y1, hc, h6, h7⟩ := oC x y 3 (by omega) (by omega); obtain ⟨n, x2, y2, hn, h8, h9⟩ := rO x1 y1 1 a1 h1 (by omega) (by omega); obtain ⟨j, rfl⟩ := Int.eq_ofNat_of_zero_le (show 0 ≤ n by omega); simp only [ae.f]; refine EvI.call hw (EvI.call hc (EvI.call hn ?_)); exact JN a1 a2 a3 h2 h2' h3 h3' w c (by omega) (by omega) j x2 y2 [] (by simp; omega) (by simp; omega) (by simp; omega) (fun h hm => absurd hm List.not_mem_nil)
end Go.Proofs.Ytihedeofkhapiaa.Pr
end
section
namespace Go.Proofs.Ytihedeofkhapiaa.Pr
open Go.RowKit Go.Proofs.YtihedeofkhapiaaW.PrintWords Go.Proofs.YtihedeofkhapiaaW.PrintLast Go.Proofs.YtihedeofkhapiaaW.PrintMore
attribute [local go_sem] kW kK mg lY lm lg mH mW
def bq.l0 : Nat → Int → List Int → Int → Int → Option (Int)
 | 0, _, _, _, _ => none
 | k + 1, x0, x7, x8, x9 => if x9 < x8 then (if 0 ≤ x9 then (if x9 < (x7.length : Int) then (bq.l0 k (mn x0 (rd x7 x9)) x7 x8 (wrap64 (x9 + 1))) else (none)) else (none)) else (some x0)
def bq.f (k : Nat) (a0 : Int) (l1 : List Int) : Option (Int) := bq.l0 k a0 l1 (l1.length : Int) 0
theorem bq.dF : ∀ k, (∀ y0 y1 y2 y3, LeO (bq.l0 k y0 y1 y2 y3) (bq.l0 (k + 1) y0 y1 y2 y3))
 | 0 => fun _ _ _ _ r h => by simp [bq.l0] at h
 | k + 1 => by
  have ih0 := bq.dF k
  ·intro y0 y1 y2 y3; unfold bq.l0
   repeat' first | (with_reducible exact ih0 _ _ _ _) | (with_reducible exact LeO.refl _) | (with_reducible refine LeO.ite ?_ ?_)
theorem bq.mono : ∀ a0 a1 k, LeO (bq.f k a0 a1) (bq.f (k + 1) a0 a1) := by
 intro a0 a1 k; have ih0 := bq.dF k; unfold bq.f
 repeat' (with_reducible exact ih0 _ _ _ _)
set_option maxHeartbeats 8000000 in
set_option maxRecDepth 100000 in
theorem bq.calls (k : Nat) (a0 : Int) (A1 : Option Addr) (c1 : Nat) (l1 : List Int) (r : Int) (w : World) (hr1 : Kd.C (Kd.int .i64) w A1 l1.length l1) (hc1 : l1.length ≤ c1) (h : bq.f k a0 l1 = some r) :
 Calls Try.prog 56 #[.int .i64 a0, .slice A1 l1.length c1] w fun e w' => e = .returned (.int .i64 r) ∧ Below w.heap.size w w' := by
 have HR1 := aa.mk hr1; have HC1 := aa.mk hc1; clear hr1 hc1; have HB := aa.mk (Below.refl w.heap.size w); have H : (bq.l0 k a0 l1 (l1.length : Int) 0) = some r := h; clear h; have H' := aa.mk H; clear H; go_enter Try.func56, Try.ntmps56; go_wp2; (go_loopg [0, 9] k (fun kq v0 v9 w' => ∃ (FH : Int) (pu : Int), v0 = .int .i64 FH ∧ v9 = .int .i64 pu ∧ aa (bq.l0 kq FH l1 (l1.length : Int) pu = some r) ∧ aa (kq ≤ k) ∧ aa (Below w.heap.size w w'))); case atStart => exact ⟨(a0), (0), (by rfl), (by rfl), H', ⟨Nat.le_refl _⟩, ⟨by exact HB.out⟩⟩
 case round =>
  clear H'; obtain ⟨FH, pu, rfl, rfl, HA, HK1, HB⟩ := hrel
  cases gk with
  | zero => exact absurd HA.out (by simp [bq.l0])
  | succ k1 =>
   have H := HA.out; clear HA; simp only [bq.l0] at H; by_cases c3 : pu < (l1.length : Int)
   ·rw [if_pos c3] at H; have pq : decide (pu < (l1.length : Int)) = true := decide_eq_true c3; clear c3; by_cases c4 : 0 ≤ pu
    ·rw [if_pos c4] at H; have uJ : decide (0 ≤ pu) = true := decide_eq_true c4; clear c4; by_cases c5 : pu < (l1.length : Int)
     ·rw [if_pos c5] at H; have uB : decide (pu < (l1.length : Int)) = true := decide_eq_true c5; clear c5; obtain ⟨ji6, Si⟩ : ∃ j_ : Int, (mn FH (rd l1 pu)) = j_ := ⟨_, rfl⟩; (replace H : (bq.l0 k1 ji6 l1 (l1.length : Int) (wrap64 (pu + 1))) = some r := by (rw [Si] at H; exact H)); have Xw : (if (rd l1 pu) < FH then (rd l1 pu) else FH) = ji6 := Si; have H' := aa.mk H; clear H; have OA : 0 ≤ (pu : Int) := of_decide_eq_true (by with_reducible assumption); have Pv : pu < (l1.length : Int) := of_decide_eq_true (by with_reducible assumption); obtain ⟨Ye, e124, zJ⟩ := Kd.rD HR1.out pu OA Pv; cases e124; replace zJ := (HB.out.cell (World.block_lt_of_cell? w _ zJ)).trans zJ; replace OA := eq_true OA; replace Pv := eq_true Pv; go_wp2; go_roundg k1; (case measure => have := HK1.out; omega); case rel => exact ⟨(ji6), (wrap64 (pu + 1)), (by rfl), (by rfl), H', ⟨by have := HK1.out; omega⟩, ⟨by exact HB.out⟩⟩
     ·rw [if_neg c5] at H; exact absurd H (by simp)
    ·rw [if_neg c4] at H; exact absurd H (by simp)
   ·rw [if_neg c3] at H; have pq : decide (pu < (l1.length : Int)) = false := decide_eq_false c3; clear c3; obtain rfl := Option.some.inj H; go_wp2
    go_ret
    exact ⟨by rfl, by exact HB.out⟩
def jV.f (dU : Int) (aH : Int) (a1 : Int) (CU : Int) (Iu : Int) : Option (Bool) := if dU = a1 then (some (CU == aH)) else (some true)
set_option maxHeartbeats 8000000 in
set_option maxRecDepth 100000 in
theorem jV.calls (dU : Int) (aH : Int) (a1 : Int) (CU : Int) (Iu : Int) (r : Bool) (w : World) (h : jV.f dU aH a1 CU Iu = some r) :
 Calls Try.prog 75 #[.agg #[.int .i64 dU, .int .u8 aH], .int .i64 a1, .agg #[.int .u8 CU, .int .i64 Iu]] w fun e w' => e = .returned (.bool r) ∧ Below w.heap.size w w' := by
 have hu100 := Try.underlying100; have hu86 := Try.underlying86; have HB := aa.mk (Below.refl w.heap.size w); have H : (if dU = a1 then (some (CU == aH)) else (some true)) = some r := h; clear h; by_cases c4 : dU = a1
 ·rw [if_pos c4] at H; have uJ : (dU == a1) = true := beq_iff_eq.mpr c4; have SA : (dU != a1) = false := bne_eq_false_iff_eq.mpr c4; clear c4; obtain rfl := Option.some.inj H; go_enter Try.func75, Try.ntmps75; go_wp2_with (first | ((with_reducible refine bS (N := 3) rfl ?_); refine bV ?hg (N := 3) ?hd (cs := #[.int .i64 dU, .int .u8 aH]) (t := 100) ?hr ?_; (case hd => rfl); (case hg => rfl); (case hr => (go_simp; done)); intro oq hg w5 hbox hb; have qm := aa.mk (hbox); have QT := aa.mk ((by rw [hg]; exact (ay (by exact HB.out)) : w.heap.size ≤ oq)); have RG := aa.mk ((by rw [hg]; exact (ay (by exact HB.out)) : w.heap.size ≤ oq)); replace HB := aa.mk (az (by exact HB.out) hb); clear hb hbox hg) | ((with_reducible refine bS (N := 5) rfl ?_); refine bV ?hg (N := 5) ?hd (cs := #[.int .u8 CU, .int .i64 Iu]) (t := 86) ?hr ?_; (case hd => rfl); (case hg => rfl); (case hr => (go_simp; done)); intro rQ hg w6 hbox hb; have Nk := aa.mk (hbox); have Qu := aa.mk ((by rw [hg]; exact (ay (by exact HB.out)) : w.heap.size ≤ rQ)); have Te := aa.mk ((by rw [hg]; exact (ay (by exact HB.out)) : w.heap.size ≤ rQ)); replace HB := aa.mk (az (by exact HB.out) hb); have uI := aa.mk ((by rw [hg]; exact Nat.ne_of_lt (bf (g := oq) (o := .cells #[.int .i64 dU, .int .u8 aH] 100 (0, 0)) (bU qm.out)) : oq ≠ rQ)); have uC := aa.mk ((by rw [hg]; exact Nat.ne_of_gt (bf (g := oq) (o := .cells #[.int .i64 dU, .int .u8 aH] 100 (0, 0)) (bU qm.out)) : rQ ≠ oq)); replace qm := aa.mk (ak (bU qm.out) hb); clear hb hbox hg; have YU := uI.out; have YA := uC.out; obtain ⟨CO, BU, Cb, Dn⟩ := dD qm.out; obtain ⟨Ie, Hd, Gl, F9⟩ := dD Nk.out))
  go_ret
  exact ⟨by rfl, by exact HB.out⟩
 ·rw [if_neg c4] at H; have uJ : (dU == a1) = false := beq_eq_false_iff_ne.mpr c4; have SA : (dU != a1) = true := bne_iff_ne.mpr c4; obtain rfl := Option.some.inj H; go_enter Try.func75, Try.ntmps75; go_wp2_with (first | ((with_reducible refine bS (N := 3) rfl ?_); refine bV ?hg (N := 3) ?hd (cs := #[.int .i64 dU, .int .u8 aH]) (t := 100) ?hr ?_; (case hd => rfl); (case hg => rfl); (case hr => (go_simp; done)); intro oq hg w10 hbox hb; have qm := aa.mk (hbox); have QT := aa.mk ((by rw [hg]; exact (ay (by exact HB.out)) : w.heap.size ≤ oq)); have RG := aa.mk ((by rw [hg]; exact (ay (by exact HB.out)) : w.heap.size ≤ oq)); replace HB := aa.mk (az (by exact HB.out) hb); clear hb hbox hg) | ((with_reducible refine bS (N := 5) rfl ?_); refine bV ?hg (N := 5) ?hd (cs := #[.int .u8 CU, .int .i64 Iu]) (t := 86) ?hr ?_; (case hd => rfl); (case hg => rfl); (case hr => (go_simp; done)); intro rQ hg w11 hbox hb; have Nk := aa.mk (hbox); have Qu := aa.mk ((by rw [hg]; exact (ay (by exact HB.out)) : w.heap.size ≤ rQ)); have Te := aa.mk ((by rw [hg]; exact (ay (by exact HB.out)) : w.heap.size ≤ rQ)); replace HB := aa.mk (az (by exact HB.out) hb); have uI := aa.mk ((by rw [hg]; exact Nat.ne_of_lt (bf (g := oq) (o := .cells #[.int .i64 dU, .int .u8 aH] 100 (0, 0)) (bU qm.out)) : oq ≠ rQ)); have uC := aa.mk ((by rw [hg]; exact Nat.ne_of_gt (bf (g := oq) (o := .cells #[.int .i64 dU, .int .u8 aH] 100 (0, 0)) (bU qm.out)) : rQ ≠ oq)); replace qm := aa.mk (ak (bU qm.out) hb); clear hb hbox hg; have XM := uI.out; have Xh := uC.out; obtain ⟨Lb, Kq, Ko, Jl⟩ := dD qm.out))
  go_ret
  exact ⟨by rfl, by exact HB.out⟩
def bz.l0 : Nat → List Int → Int → Int → Option (Bool)
 | 0, _, _, _ => none
 | k + 1, x0, x1, x5 => if x5 < (x0.length : Int) then (if 0 ≤ x5 then (if (rd x0 x5) = x1 then (some true) else (bz.l0 k x0 x1 (wrap64 (x5 + 1)))) else (none)) else (some false)
def bz.f (k : Nat) (l0 : List Int) (a1 : Int) : Option (Bool) := bz.l0 k l0 a1 0
theorem bz.dF : ∀ k, (∀ y0 y1 y2, LeO (bz.l0 k y0 y1 y2) (bz.l0 (k + 1) y0 y1 y2))
 | 0 => fun _ _ _ r h => by simp [bz.l0] at h
 | k + 1 => by
  have ih0 := bz.dF k
  ·intro y0 y1 y2; unfold bz.l0
   repeat' first | (with_reducible exact ih0 _ _ _) | (with_reducible exact LeO.refl _) | (with_reducible refine LeO.ite ?_ ?_)
theorem bz.mono : ∀ a0 a1 k, LeO (bz.f k a0 a1) (bz.f (k + 1) a0 a1) := by
 intro a0 a1 k; have ih0 := bz.dF k; unfold bz.f
 repeat' (with_reducible exact ih0 _ _ _)
set_option maxHeartbeats 8000000 in
set_option maxRecDepth 100000 in
theorem bz.calls (k : Nat) (A0 : Option Addr) (c0 : Nat) (l0 : List Int) (a1 : Int) (r : Bool) (w : World) (hr0 : Kd.C (Kd.int .i64) w A0 l0.length l0) (hc0 : l0.length ≤ c0) (h : bz.f k l0 a1 = some r) :
 Calls Try.prog 31 #[.slice A0 l0.length c0, .int .i64 a1] w fun e w' => e = .returned (.bool r) ∧ bB w w' := by
 have HR0 := aa.mk hr0; have HC0 := aa.mk hc0; clear hr0 hc0; have H : (bz.l0 k l0 a1 0) = some r := h; clear h; have H' := aa.mk H; clear H; go_enter Try.func31, Try.ntmps31; go_wp2; (go_loopg [5] k (fun kq v5 w' => ∃ (gG : Int), v5 = .int .i64 gG ∧ aa (bz.l0 kq l0 a1 gG = some r) ∧ aa (kq ≤ k) ∧ bB w w')); case atStart => exact ⟨(0), (by rfl), H', ⟨Nat.le_refl _⟩, by exact bB.refl _⟩
 case round =>
  clear H'; obtain ⟨gG, rfl, HA, HK1, ⟨m1, rfl⟩⟩ := hrel
  cases gk with
  | zero => exact absurd HA.out (by simp [bz.l0])
  | succ k1 =>
   have H := HA.out; clear HA; simp only [bz.l0] at H; by_cases c3 : gG < (l0.length : Int)
   ·rw [if_pos c3] at H; have pq : decide (gG < (l0.length : Int)) = true := decide_eq_true c3; clear c3; by_cases c4 : 0 ≤ gG
    ·rw [if_pos c4] at H; have uJ : decide (0 ≤ gG) = true := decide_eq_true c4; clear c4; by_cases c5 : (rd l0 gG) = a1
     ·rw [if_pos c5] at H; have uB : ((rd l0 gG) == a1) = true := beq_iff_eq.mpr c5; have Jc : ((rd l0 gG) != a1) = false := bne_eq_false_iff_eq.mpr c5; clear c5; obtain rfl := Option.some.inj H; have Dc : 0 ≤ (gG : Int) := of_decide_eq_true (by with_reducible assumption); have Cs : gG < (l0.length : Int) := of_decide_eq_true (by with_reducible assumption); obtain ⟨QV, e697, JI⟩ := Kd.rD HR0.out gG Dc Cs; cases e697; replace Dc := eq_true Dc; replace Cs := eq_true Cs; go_wp2
      go_ret
      exact ⟨by rfl, by repeat (first | exact bB.refl _ | apply bB.step)⟩
     ·rw [if_neg c5] at H; have uB : ((rd l0 gG) == a1) = false := beq_eq_false_iff_ne.mpr c5; have Jc : ((rd l0 gG) != a1) = true := bne_iff_ne.mpr c5; have H' := aa.mk H; clear H; have Dc : 0 ≤ (gG : Int) := of_decide_eq_true (by with_reducible assumption); have Cs : gG < (l0.length : Int) := of_decide_eq_true (by with_reducible assumption); obtain ⟨QV, e697, JI⟩ := Kd.rD HR0.out gG Dc Cs; cases e697; replace Dc := eq_true Dc; replace Cs := eq_true Cs; go_wp2; go_roundg k1; (case measure => have := HK1.out; omega); case rel => exact ⟨(wrap64 (gG + 1)), (by rfl), H', ⟨by have := HK1.out; omega⟩, by repeat (first | exact bB.refl _ | apply bB.step)⟩
    ·rw [if_neg c4] at H; exact absurd H (by simp)
   ·rw [if_neg c3] at H; have pq : decide (gG < (l0.length : Int)) = false := decide_eq_false c3; clear c3; obtain rfl := Option.some.inj H; go_wp2
    go_ret
    exact ⟨by rfl, by repeat (first | exact bB.refl _ | apply bB.step)⟩
def ai.l0 : Nat → Int → Int → Int → Int → Int → Option (Int × Int)
 | 0, _, _, _, _, _ => none
 | k + 1, x0, x1, x6, x7, x8 => if x8 < 10 then (if 0 ≤ x8 then (if (Go.bits .and .i64 (shr .i64 x0 x8) 1) > (Go.bits .and .i64 (shr .i64 x1 x8) 1) then (if (Go.bits .and .i64 (shr .i64 x1 x8) 1) > (Go.bits .and .i64 (shr .i64 x0 x8) 1) then (ai.l0 k x0 x1 (wrap64 (x6 + 1)) (wrap64 (x7 + 1)) (wrap64 (x8 + 1))) else (ai.l0 k x0 x1 (wrap64 (x6 + 1)) x7 (wrap64 (x8 + 1)))) else (if (Go.bits .and .i64 (shr .i64 x1 x8) 1) > (Go.bits .and .i64 (shr .i64 x0 x8) 1) then (ai.l0 k x0 x1 x6 (wrap64 (x7 + 1)) (wrap64 (x8 + 1))) else (ai.l0 k x0 x1 x6 x7 (wrap64 (x8 + 1))))) else (none)) else (some (x6, x7))
def ai.f (k : Nat) (a0 : Int) (a1 : Int) : Option (Int × Int) := ai.l0 k a0 a1 0 0 0
theorem ai.dF : ∀ k, (∀ y0 y1 y2 y3 y4, LeO (ai.l0 k y0 y1 y2 y3 y4) (ai.l0 (k + 1) y0 y1 y2 y3 y4))
 | 0 => fun _ _ _ _ _ r h => by simp [ai.l0] at h
 | k + 1 => by
  have ih0 := ai.dF k
  ·intro y0 y1 y2 y3 y4; unfold ai.l0
   repeat' first
   | (with_reducible exact ih0 _ _ _ _ _)
   | (with_reducible exact LeO.refl _)
   | (with_reducible exact LeO.none _)
   | (with_reducible refine LeO.ite ?_ ?_)
   | (with_reducible refine LeO.bind ?_ (fun _ => ?_))
   | exact ih0 _ _ _ _ _
   | exact LeO.none _
   | refine LeO.ite ?_ ?_
   | refine LeO.bind ?_ (fun _ => ?_)
theorem ai.mono : ∀ a0 a1 k, LeO (ai.f k a0 a1) (ai.f (k + 1) a0 a1) := by
 intro a0 a1 k; have ih0 := ai.dF k; unfold ai.f
 repeat' first
  | (with_reducible exact ih0 _ _ _ _ _)
  | (with_reducible exact LeO.refl _)
  | (with_reducible exact LeO.none _)
  | (with_reducible refine LeO.ite ?_ ?_)
  | (with_reducible refine LeO.bind ?_ (fun _ => ?_))
  | exact ih0 _ _ _ _ _
  | exact LeO.none _
  | refine LeO.ite ?_ ?_
  | refine LeO.bind ?_ (fun _ => ?_)
set_option maxHeartbeats 8000000 in
set_option maxRecDepth 100000 in
theorem ai.calls (k : Nat) (a0 : Int) (a1 : Int) (r1 : Int) (r2 : Int) (w : World) (h : ai.f k a0 a1 = some (r1, r2)) :
 Calls Try.prog 80 #[.int .i64 a0, .int .i64 a1] w fun e w' => e = .returned (.tuple #[.int .i64 r1, .int .i64 r2]) ∧ bB w w' := by
 have H : (ai.l0 k a0 a1 0 0 0) = some (r1, r2) := h; clear h; have H' := aa.mk H; clear H; go_enter Try.func80, Try.ntmps80; go_wp2; (repeat (go_quiet (fail); try go_wp2)); (go_loopg [6, 7, 8] k (fun kq v6 v7 v8 w' => ∃ (dC : Int) (fU : Int) (dL : Int), v6 = .int .i64 dC ∧ v7 = .int .i64 fU ∧ v8 = .int .i64 dL ∧ aa (ai.l0 kq a0 a1 dC fU dL = some (r1, r2)) ∧ aa (kq ≤ k) ∧ bB w w')); case atStart => exact ⟨(0), (0), (0), (by first | rfl | (simp; done) | (simp [*]; done)), (by first | rfl | (simp; done) | (simp [*]; done)), (by first | rfl | (simp; done) | (simp [*]; done)), H', ⟨Nat.le_refl _⟩, by repeat (first | exact bB.refl _ | apply bB.step)⟩
 case round =>
  clear H'; (try clear p2); obtain ⟨dC, fU, dL, rfl, rfl, rfl, HA, HK1, ⟨m1, rfl⟩⟩ := hrel
  cases gk with
  | zero => exact absurd HA.out (by simp [ai.l0])
  | succ k1 =>
   have H := HA.out; clear HA; simp only [ai.l0] at H; by_cases c3 : dL < 10
   ·rw [if_pos c3] at H; have pq : decide (dL < 10) = true := decide_eq_true c3; clear c3; by_cases c4 : 0 ≤ dL
    ·rw [if_pos c4] at H; have uJ := eq_true c4; have SA : decide (0 ≤ dL) = true := decide_eq_true c4; clear c4; obtain ⟨ji5, Ls⟩ : ∃ j_ : Int, (shr .i64 a0 dL) = j_ := ⟨_, rfl⟩; (replace H : (if (Go.bits .and .i64 (ji5) 1) > (Go.bits .and .i64 (shr .i64 a1 dL) 1) then (if (Go.bits .and .i64 (shr .i64 a1 dL) 1) > (Go.bits .and .i64 (ji5) 1) then (ai.l0 k1 a0 a1 (wrap64 (dC + 1)) (wrap64 (fU + 1)) (wrap64 (dL + 1))) else (ai.l0 k1 a0 a1 (wrap64 (dC + 1)) fU (wrap64 (dL + 1)))) else (if (Go.bits .and .i64 (shr .i64 a1 dL) 1) > (Go.bits .and .i64 (ji5) 1) then (ai.l0 k1 a0 a1 dC (wrap64 (fU + 1)) (wrap64 (dL + 1))) else (ai.l0 k1 a0 a1 dC fU (wrap64 (dL + 1))))) = some (r1, r2) := by first | (rw [Ls] at H; exact H) | (simp only [Ls] at H ⊢; exact H)); have Xr : (a0 / 2 ^ min dL.toNat 64) = ji5 := Ls; have XV : dL ≤ 64 → (a0 / 2 ^ dL.toNat) = ji5 := yV Ls; have FI := eq_true (of_decide_eq_true (by first | (with_reducible assumption) | assumption) : 0 ≤ dL); obtain ⟨ji7, KD⟩ : ∃ j_ : Int, (shr .i64 a1 dL) = j_ := ⟨_, rfl⟩; (replace H : (if (Go.bits .and .i64 (ji5) 1) > (Go.bits .and .i64 (ji7) 1) then (if (Go.bits .and .i64 (ji7) 1) > (Go.bits .and .i64 (ji5) 1) then (ai.l0 k1 a0 a1 (wrap64 (dC + 1)) (wrap64 (fU + 1)) (wrap64 (dL + 1))) else (ai.l0 k1 a0 a1 (wrap64 (dC + 1)) fU (wrap64 (dL + 1)))) else (if (Go.bits .and .i64 (ji7) 1) > (Go.bits .and .i64 (ji5) 1) then (ai.l0 k1 a0 a1 dC (wrap64 (fU + 1)) (wrap64 (dL + 1))) else (ai.l0 k1 a0 a1 dC fU (wrap64 (dL + 1))))) = some (r1, r2) := by first | (rw [KD] at H; exact H) | (simp only [KD] at H ⊢; exact H)); have XC : (a1 / 2 ^ min dL.toNat 64) = ji7 := KD; have Xv : dL ≤ 64 → (a1 / 2 ^ dL.toNat) = ji7 := yV KD; by_cases c8 : (Go.bits .and .i64 (ji5) 1) > (Go.bits .and .i64 (ji7) 1)
     ·rw [if_pos c8] at H; have Bl : decide ((Go.bits .and .i64 (ji7) 1) < (Go.bits .and .i64 (ji5) 1)) = true := decide_eq_true c8; clear c8; by_cases c9 : (Go.bits .and .i64 (ji7) 1) > (Go.bits .and .i64 (ji5) 1)
      ·rw [if_pos c9] at H; have IM : decide ((Go.bits .and .i64 (ji5) 1) < (Go.bits .and .i64 (ji7) 1)) = true := decide_eq_true c9; clear c9; have H' := aa.mk H; clear H; go_wp2; (repeat (go_quiet (fail); try go_wp2)); go_roundg k1; (case measure => have := HK1.out; omega); case rel => exact ⟨(wrap64 (dC + 1)), (wrap64 (fU + 1)), (wrap64 (dL + 1)), (by first | rfl | (simp; done) | (simp [*]; done)), (by first | rfl | (simp; done) | (simp [*]; done)), (by first | rfl | (simp; done) | (simp [*]; done)), H', ⟨by have := HK1.out; omega⟩, by repeat (first | exact bB.refl _ | apply bB.step)⟩
      ·rw [if_neg c9] at H; have IM : decide ((Go.bits .and .i64 (ji5) 1) < (Go.bits .and .i64 (ji7) 1)) = false := decide_eq_false c9; clear c9; have H' := aa.mk H; clear H; go_wp2; (repeat (go_quiet (fail); try go_wp2)); go_roundg k1; (case measure => have := HK1.out; omega); case rel => exact ⟨(wrap64 (dC + 1)), (fU), (wrap64 (dL + 1)), (by first | rfl | (simp; done) | (simp [*]; done)), (by first | rfl | (simp; done) | (simp [*]; done)), (by first | rfl | (simp; done) | (simp [*]; done)), H', ⟨by have := HK1.out; omega⟩, by repeat (first | exact bB.refl _ | apply bB.step)⟩
     ·rw [if_neg c8] at H; have Bl : decide ((Go.bits .and .i64 (ji7) 1) < (Go.bits .and .i64 (ji5) 1)) = false := decide_eq_false c8; clear c8; by_cases c10 : (Go.bits .and .i64 (ji7) 1) > (Go.bits .and .i64 (ji5) 1)
      ·rw [if_pos c10] at H; have qa : decide ((Go.bits .and .i64 (ji5) 1) < (Go.bits .and .i64 (ji7) 1)) = true := decide_eq_true c10; clear c10; have H' := aa.mk H; clear H; go_wp2; (repeat (go_quiet (fail); try go_wp2)); go_roundg k1; (case measure => have := HK1.out; omega); case rel => exact ⟨(dC), (wrap64 (fU + 1)), (wrap64 (dL + 1)), (by first | rfl | (simp; done) | (simp [*]; done)), (by first | rfl | (simp; done) | (simp [*]; done)), (by first | rfl | (simp; done) | (simp [*]; done)), H', ⟨by have := HK1.out; omega⟩, by repeat (first | exact bB.refl _ | apply bB.step)⟩
      ·rw [if_neg c10] at H; have qa : decide ((Go.bits .and .i64 (ji5) 1) < (Go.bits .and .i64 (ji7) 1)) = false := decide_eq_false c10; clear c10; have H' := aa.mk H; clear H; go_wp2; (repeat (go_quiet (fail); try go_wp2)); go_roundg k1; (case measure => have := HK1.out; omega); case rel => exact ⟨(dC), (fU), (wrap64 (dL + 1)), (by first | rfl | (simp; done) | (simp [*]; done)), (by first | rfl | (simp; done) | (simp [*]; done)), (by first | rfl | (simp; done) | (simp [*]; done)), H', ⟨by have := HK1.out; omega⟩, by repeat (first | exact bB.refl _ | apply bB.step)⟩
    ·rw [if_neg c4] at H; exact absurd H (by simp)
   ·rw [if_neg c3] at H; have pq : decide (dL < 10) = false := decide_eq_false c3; clear c3; simp only [Option.some.injEq, Prod.mk.injEq] at H; obtain ⟨rfl, rfl⟩ := H; go_wp2; repeat (go_quiet (fail); try go_wp2)
    go_ret2
    exact ⟨by first | rfl | (simp; done) | (simp [*]; done), by repeat (first | exact bB.refl _ | apply bB.step)⟩
mutual
def af.l0 : Nat → Int → Int → Int → Int → List (S66) → Int → Int → Int → List (List (S27)) → Option (Int)
 | 0, _, _, _, _, _, _, _, _, _ => none
 | k + 1, x1, x2, x7, x8, nD, lW, lZ, nH, jT => if x8 < 16 then (af.l1 k x1 x2 x7 x8 true 0 nD lW lZ nH jT) else (some x7)
def af.l1 : Nat → Int → Int → Int → Int → Bool → Int → List (S66) → Int → Int → Int → List (List (S27)) → Option (Int)
 | 0, _, _, _, _, _, _, _, _, _, _, _ => none
 | k + 1, x1, x2, x7, x8, x9, x10, nD, lW, lZ, nH, jT => if 0 ≤ x1 then (if x1 < (jT.length : Int) then (if x10 < ((dz jT x1).length : Int) then (if x9 = true then (if 0 ≤ x10 then (af.l1 k x1 x2 x7 x8 ((Go.bits .and .i64 x8 ((dx (dz jT x1) x10).f0)) == ((dx (dz jT x1) x10).f1)) (wrap64 (x10 + 1)) nD lW lZ nH jT) else (none)) else (af.l1 k x1 x2 x7 x8 false (wrap64 (x10 + 1)) nD lW lZ nH jT)) else ((ai.f k x2 x8).bind fun EM => (if x9 = true then (if EM.1 ≤ lW then (if EM.2 ≤ lZ then (af.l0 k x1 x2 (mn x7 (wrap64 (EM.1 + EM.2))) (wrap64 (x8 + 1)) nD lW lZ nH jT) else (af.l0 k x1 x2 x7 (wrap64 (x8 + 1)) nD lW lZ nH jT)) else (af.l0 k x1 x2 x7 (wrap64 (x8 + 1)) nD lW lZ nH jT)) else (af.l0 k x1 x2 x7 (wrap64 (x8 + 1)) nD lW lZ nH jT)))) else (none)) else (none)
end
def af.f (k : Nat) (aG : List (S66)) (aH : Int) (aW : Int) (bg : Int) (aA : List (List (S27))) (a1 : Int) (a2 : Int) : Option (Int) := af.l0 k a1 a2 99 0 aG aH aW bg aA
theorem af.dF : ∀ k, (∀ y0 y1 y2 y3 y4 y5 y6 y7 y8, LeO (af.l0 k y0 y1 y2 y3 y4 y5 y6 y7 y8) (af.l0 (k + 1) y0 y1 y2 y3 y4 y5 y6 y7 y8)) ∧ (∀ y0 y1 y2 y3 y4 y5 y6 y7 y8 y9 y10, LeO (af.l1 k y0 y1 y2 y3 y4 y5 y6 y7 y8 y9 y10) (af.l1 (k + 1) y0 y1 y2 y3 y4 y5 y6 y7 y8 y9 y10))
 | 0 => ⟨fun _ _ _ _ _ _ _ _ _ r h => by simp [af.l0] at h, fun _ _ _ _ _ _ _ _ _ _ _ r h => by simp [af.l1] at h⟩
 | k + 1 => by
  obtain ⟨ih0, ih1⟩ := af.dF k; refine ⟨?_, ?_⟩
  ·intro y0 y1 y2 y3 y4 y5 y6 y7 y8; unfold af.l0
   repeat' first
   | (with_reducible exact ih0 _ _ _ _ _ _ _ _ _)
   | (with_reducible exact ih1 _ _ _ _ _ _ _ _ _ _ _)
   | (with_reducible exact ai.mono _ _ _)
   | (with_reducible exact LeO.refl _)
   | (with_reducible exact LeO.none _)
   | (with_reducible refine LeO.ite ?_ ?_)
   | (with_reducible refine LeO.bind ?_ (fun _ => ?_))
   | exact ih0 _ _ _ _ _ _ _ _ _
   | exact ih1 _ _ _ _ _ _ _ _ _ _ _
   | exact ai.mono _ _ _
   | exact LeO.none _
   | refine LeO.ite ?_ ?_
   | refine LeO.bind ?_ (fun _ => ?_)
  ·intro y0 y1 y2 y3 y4 y5 y6 y7 y8 y9 y10; unfold af.l1
   repeat' first
   | (with_reducible exact ih0 _ _ _ _ _ _ _ _ _)
   | (with_reducible exact ih1 _ _ _ _ _ _ _ _ _ _ _)
   | (with_reducible exact ai.mono _ _ _)
   | (with_reducible exact LeO.refl _)
   | (with_reducible exact LeO.none _)
   | (with_reducible refine LeO.ite ?_ ?_)
   | (with_reducible refine LeO.bind ?_ (fun _ => ?_))
   | exact ih0 _ _ _ _ _ _ _ _ _
   | exact ih1 _ _ _ _ _ _ _ _ _ _ _
   | exact ai.mono _ _ _
   | exact LeO.none _
   | refine LeO.ite ?_ ?_
   | refine LeO.bind ?_ (fun _ => ?_)
theorem af.mono : ∀ a0 a1 a2 a3 a4 a5 a6 k, LeO (af.f k a0 a1 a2 a3 a4 a5 a6) (af.f (k + 1) a0 a1 a2 a3 a4 a5 a6) := by
 intro a0 a1 a2 a3 a4 a5 a6 k; obtain ⟨ih0, ih1⟩ := af.dF k; unfold af.f
 repeat' first
  | (with_reducible exact ih0 _ _ _ _ _ _ _ _ _)
  | (with_reducible exact ih1 _ _ _ _ _ _ _ _ _ _ _)
  | (with_reducible exact ai.mono _ _ _)
  | (with_reducible exact LeO.refl _)
  | (with_reducible exact LeO.none _)
  | (with_reducible refine LeO.ite ?_ ?_)
  | (with_reducible refine LeO.bind ?_ (fun _ => ?_))
  | exact ih0 _ _ _ _ _ _ _ _ _
  | exact ih1 _ _ _ _ _ _ _ _ _ _ _
  | exact ai.mono _ _ _
  | exact LeO.none _
  | refine LeO.ite ?_ ?_
  | refine LeO.bind ?_ (fun _ => ?_)
set_option maxHeartbeats 8000000 in
set_option maxRecDepth 100000 in
theorem af.calls (k : Nat) (df : Option Addr) (bW : Nat) (aG : List (S66)) (aH : Int) (aW : Int) (bg : Int) (cZ : Option Addr) (bY : Nat) (aA : List (List (S27))) (a1 : Int) (a2 : Int) (r : Int) (w : World) (jB : Kd.C k66 w df aG.length aG) (kD : aG.length ≤ bW) (jC : Kd.C (Kd.slice 27 k27) w cZ aA.length aA) (kF : aA.length ≤ bY) (h : af.f k aG aH aW bg aA a1 a2 = some r) :
 Calls Try.prog 60 #[.agg #[.slice df aG.length bW, .int .i64 aH, .int .i64 aW, .int .i64 bg, .slice cZ aA.length bY], .int .i64 a1, .int .i64 a2] w fun e w' => e = .returned (.int .i64 r) ∧ Below w.heap.size w w' := by
 have hu25 := Try.underlying25; have pg := aa.mk jB; have qV := aa.mk kD; clear jB kD; have kv := aa.mk jC; have qW := aa.mk kF; clear jC kF; have HB := aa.mk (Below.refl w.heap.size w); have H : (af.l0 k a1 a2 99 0 aG aH aW bg aA) = some r := h; clear h; have H' := aa.mk H; clear H; go_enter Try.func60, Try.ntmps60; (go_wp2_with (first | ((with_reducible refine bS (N := 3) rfl ?_); refine bV ?hg (N := 3) ?hd (cs := #[.slice df aG.length bW, .int .i64 aH, .int .i64 aW, .int .i64 bg, .slice cZ aA.length bY]) (t := 25) ?hr ?_; (case hd => rfl); (case hg => rfl); (case hr => first | (go_simp; done) | (go_simp; rfl)); intro fA hg w4 hbox hb; have n0_ := aa.mk (az (by repeat (first | (with_reducible first | exact HB.out | apply ah | apply aC | apply bR) | exact HB.out)) hb); have n1_ := aa.mk (hbox); have n2_ := aa.mk ((by rw [hg]; exact (ay (by repeat (first | (with_reducible first | exact HB.out | apply ah | apply aC | apply bR) | exact HB.out))) : w.heap.size ≤ fA)); have n3_ := aa.mk ((by rw [hg]; exact (ay (by repeat (first | (with_reducible first | exact HB.out | apply ah | apply aC | apply bR) | exact HB.out))) : w.heap.size ≤ fA)); clear HB; have HB := n0_; have bT := n1_; have MN := n2_; have pY := n3_; clear n0_ n1_ n2_ n3_; clear hb hbox hg))); (repeat (go_quiet (first | ((with_reducible refine bS (N := 3) rfl ?_); refine bV ?hg (N := 3) ?hd (cs := #[.slice df aG.length bW, .int .i64 aH, .int .i64 aW, .int .i64 bg, .slice cZ aA.length bY]) (t := 25) ?hr ?_; (case hd => rfl); (case hg => rfl); (case hr => first | (go_simp; done) | (go_simp; rfl)); intro fA hg w4 hbox hb; have n0_ := aa.mk (az (by repeat (first | (with_reducible first | exact HB.out | apply ah | apply aC | apply bR) | exact HB.out)) hb); have n1_ := aa.mk (hbox); have n2_ := aa.mk ((by rw [hg]; exact (ay (by repeat (first | (with_reducible first | exact HB.out | apply ah | apply aC | apply bR) | exact HB.out))) : w.heap.size ≤ fA)); have n3_ := aa.mk ((by rw [hg]; exact (ay (by repeat (first | (with_reducible first | exact HB.out | apply ah | apply aC | apply bR) | exact HB.out))) : w.heap.size ≤ fA)); clear HB; have HB := n0_; have bT := n1_; have MN := n2_; have pY := n3_; clear n0_ n1_ n2_ n3_; clear hb hbox hg)); try go_wp2_with (first | ((with_reducible refine bS (N := 3) rfl ?_); refine bV ?hg (N := 3) ?hd (cs := #[.slice df aG.length bW, .int .i64 aH, .int .i64 aW, .int .i64 bg, .slice cZ aA.length bY]) (t := 25) ?hr ?_; (case hd => rfl); (case hg => rfl); (case hr => first | (go_simp; done) | (go_simp; rfl)); intro fA hg w4 hbox hb; have n0_ := aa.mk (az (by repeat (first | (with_reducible first | exact HB.out | apply ah | apply aC | apply bR) | exact HB.out)) hb); have n1_ := aa.mk (hbox); have n2_ := aa.mk ((by rw [hg]; exact (ay (by repeat (first | (with_reducible first | exact HB.out | apply ah | apply aC | apply bR) | exact HB.out))) : w.heap.size ≤ fA)); have n3_ := aa.mk ((by rw [hg]; exact (ay (by repeat (first | (with_reducible first | exact HB.out | apply ah | apply aC | apply bR) | exact HB.out))) : w.heap.size ≤ fA)); clear HB; have HB := n0_; have bT := n1_; have MN := n2_; have pY := n3_; clear n0_ n1_ n2_ n3_; clear hb hbox hg)))); (go_loopg [7, 8] k (fun kq v7 v8 w' => ∃ (fU : Int) (dL : Int), v7 = .int .i64 fU ∧ v8 = .int .i64 dL ∧ aa (af.l0 kq a1 a2 fU dL aG aH aW bg aA = some r) ∧ aa (kq ≤ k) ∧ aa (w'.heap[fA]? = some (.cells #[(.slice df aG.length bW), .int .i64 aH, .int .i64 aW, .int .i64 bg, (.slice cZ aA.length bY)] 25 (0, 0))) ∧ aa (Below w.heap.size w w'))); case atStart => exact ⟨(99), (0), (by first | rfl | (simp; done) | (simp [*]; done)), (by first | rfl | (simp; done) | (simp [*]; done)), H', ⟨Nat.le_refl _⟩, ⟨by (with_reducible repeat (first | refine dS ?_ _ | refine bH ?_ | refine bu ?_ _)); exact bT.out⟩, ⟨by repeat (first | (with_reducible first | exact HB.out | apply ah | apply aC | apply bR | refine bK ?_ pY.out) | exact HB.out)⟩⟩
 case round =>
  clear H'; (try clear p2); obtain ⟨fU, dL, rfl, rfl, HA, HK1, bT, HB⟩ := hrel
  cases gk with
  | zero => exact absurd HA.out (by simp [af.l0])
  | succ k1 =>
   have H := HA.out; clear HA; simp only [af.l0] at H; by_cases c5 : dL < 16
   ·rw [if_pos c5] at H; have uB : decide (dL < 16) = true := decide_eq_true c5; clear c5; have H' := aa.mk H; clear H; go_wp2; (repeat (go_quiet (fail); try go_wp2)); (go_loopg [9, 10] k1 (fun kq v9 v10 w' => ∃ (EX : Bool) (jJ : Int), v9 = .bool EX ∧ v10 = .int .i64 jJ ∧ aa (af.l1 kq a1 a2 fU dL EX jJ aG aH aW bg aA = some r) ∧ aa (kq ≤ k1) ∧ aa (w'.heap[fA]? = some (.cells #[(.slice df aG.length bW), .int .i64 aH, .int .i64 aW, .int .i64 bg, (.slice cZ aA.length bY)] 25 (0, 0))) ∧ aa (Below w.heap.size w w'))); case atStart => exact ⟨(true), (0), (by first | rfl | (simp; done) | (simp [*]; done)), (by first | rfl | (simp; done) | (simp [*]; done)), H', ⟨Nat.le_refl _⟩, ⟨by (with_reducible repeat (first | refine dS ?_ _ | refine bH ?_ | refine bu ?_ _)); exact bT.out⟩, ⟨by repeat (first | (with_reducible first | exact HB.out | apply ah | apply aC | apply bR | refine bK ?_ pY.out) | exact HB.out)⟩⟩
    case round =>
     clear H'; (try clear p2); (try clear c5); (try clear uB); (try clear p2); obtain ⟨EX, jJ, rfl, rfl, HA, HK2, bT, HB⟩ := hrel
     cases gk with
     | zero => exact absurd HA.out (by simp [af.l1])
     | succ k2 =>
      have H := HA.out; clear HA; simp only [af.l1] at H; by_cases c6 : 0 ≤ a1
      ·rw [if_pos c6] at H; have FI : decide (0 ≤ a1) = true := decide_eq_true c6; clear c6; by_cases c7 : a1 < (aA.length : Int)
       ·rw [if_pos c7] at H; have NY : decide (a1 < (aA.length : Int)) = true := decide_eq_true c7; clear c7; by_cases c8 : jJ < ((dz aA a1).length : Int)
        ·rw [if_pos c8] at H; have Bl : decide (jJ < ((dz aA a1).length : Int)) = true := decide_eq_true c8; clear c8; by_cases c9 : EX = true
         ·subst c9; (have H1 : (if 0 ≤ jJ then (af.l1 k2 a1 a2 fU dL ((Go.bits .and .i64 dL ((dx (dz aA a1) jJ).f0)) == ((dx (dz aA a1) jJ).f1)) (wrap64 (jJ + 1)) aG aH aW bg aA) else (none)) = some r := by rw [if_pos rfl] at H; exact H); clear H; have H := H1; clear H1; by_cases c10 : 0 ≤ jJ
          ·rw [if_pos c10] at H; have qa : decide (0 ≤ jJ) = true := decide_eq_true c10; clear c10; have H' := aa.mk H; clear H; have J8 : wr.cell? ⟨fA, 0, none⟩ = some (.slice df aG.length bW) := (av bT.out 0).trans rfl; have K5 : wr.cell? ⟨fA, 1, none⟩ = some (.int .i64 aH) := (av bT.out 1).trans rfl; have KQ : wr.cell? ⟨fA, 2, none⟩ = some (.int .i64 aW) := (av bT.out 2).trans rfl; have Tn : wr.cell? ⟨fA, 3, none⟩ = some (.int .i64 bg) := (av bT.out 3).trans rfl; have UA : wr.cell? ⟨fA, 4, none⟩ = some (.slice cZ aA.length bY) := (av bT.out 4).trans rfl; have JM := aK bT.out 0; have KU := aK bT.out 1; have Li := aK bT.out 2; have Ul := aK bT.out 3; have UW := aK bT.out 4; have mV : 0 ≤ (a1 : Int) := of_decide_eq_true (by first | (with_reducible assumption) | assumption); have mU : a1 < (aA.length : Int) := of_decide_eq_true (by first | (with_reducible assumption) | assumption); obtain ⟨xh, A604_0, c604_0, e604, eT, iy, iE⟩ := qp kv.out a1 mV mU; cases e604; replace eT := (HB.out.cell (World.block_lt_of_cell? w _ eT)).trans eT; have sM := aa.mk iE; have sN := aa.mk iy; clear iE iy; replace mV := eq_true mV; replace mU := eq_true mU; have Qi : 0 ≤ (a1 : Int) := of_decide_eq_true (by first | (with_reducible assumption) | assumption); have Oo : a1 < (aA.length : Int) := of_decide_eq_true (by first | (with_reducible assumption) | assumption); obtain ⟨Ti, A605_0, c605_0, e605, vW, EI, Ew⟩ := qp kv.out a1 Qi Oo; obtain rfl : xh = Ti := (by injection e605); replace vW := (HB.out.cell (World.block_lt_of_cell? w _ vW)).trans vW; have KP := aa.mk Ew; have TJ := aa.mk EI; clear Ew EI; replace Qi := eq_true Qi; replace Oo := eq_true Oo; have ea_ := Option.some.inj (eT.symm.trans vW); injection ea_ with ea_ en_ ec_; subst ea_; subst ec_; clear en_; have Oe : 0 ≤ (jJ : Int) := of_decide_eq_true (by first | (with_reducible assumption) | assumption); have OC : jJ < ((dz aA a1).length : Int) := of_decide_eq_true (by first | (with_reducible assumption) | assumption); obtain ⟨Xu, e606, Ae, zh⟩ := uH KP.out jJ Oe OC; cases e606; replace Ae := (HB.out.cell (World.block_lt_of_cell? w _ Ae)).trans Ae; replace zh := (HB.out.cell (World.block_lt_of_cell? w _ zh)).trans zh; replace Oe := eq_true Oe; replace OC := eq_true OC; have Oh : 0 ≤ (a1 : Int) := of_decide_eq_true (by first | (with_reducible assumption) | assumption); have OP : a1 < (aA.length : Int) := of_decide_eq_true (by first | (with_reducible assumption) | assumption); obtain ⟨Ta, A607_0, c607_0, e607, wm, DX, ES⟩ := qp kv.out a1 Oh OP; obtain rfl : xh = Ta := (by injection e607); replace wm := (HB.out.cell (World.block_lt_of_cell? w _ wm)).trans wm; have Jw := aa.mk ES; have Vm := aa.mk DX; clear ES DX; replace Oh := eq_true Oh; replace OP := eq_true OP; have ea_ := Option.some.inj (eT.symm.trans wm); injection ea_ with ea_ en_ ec_; subst ea_; subst ec_; clear en_; have NR : 0 ≤ (jJ : Int) := of_decide_eq_true (by first | (with_reducible assumption) | assumption); have Qg : jJ < ((dz aA a1).length : Int) := of_decide_eq_true (by first | (with_reducible assumption) | assumption); obtain ⟨XI, e608, zz, zo⟩ := uH Jw.out jJ NR Qg; cases e608; replace zz := (HB.out.cell (World.block_lt_of_cell? w _ zz)).trans zz; replace zo := (HB.out.cell (World.block_lt_of_cell? w _ zo)).trans zo; replace NR := eq_true NR; replace Qg := eq_true Qg; go_wp2; (repeat (go_quiet (fail); try go_wp2)); go_roundg k2; (case measure => have := HK1.out; have := HK2.out; omega); case rel => exact ⟨(((Go.bits .and .i64 dL ((dx (dz aA a1) jJ).f0)) == ((dx (dz aA a1) jJ).f1))), (wrap64 (jJ + 1)), (by first | rfl | (simp; done) | (simp [*]; done)), (by first | rfl | (simp; done) | (simp [*]; done)), H', ⟨by have := HK1.out; have := HK2.out; omega⟩, ⟨by (with_reducible repeat (first | refine dS ?_ _ | refine bH ?_ | refine bu ?_ _)); exact bT.out⟩, ⟨by repeat (first | (with_reducible first | exact HB.out | apply ah | apply aC | apply bR | refine bK ?_ pY.out) | exact HB.out)⟩⟩
          ·rw [if_neg c10] at H; exact absurd H (by simp)
         ·replace c9 := Bool.eq_false_iff.mpr c9; subst c9; (have H1 : (af.l1 k2 a1 a2 fU dL false (wrap64 (jJ + 1)) aG aH aW bg aA) = some r := by rw [if_neg (show ¬ (false = true) by decide)] at H; exact H); clear H; have H := H1; clear H1; have H' := aa.mk H; clear H; have wB : wr.cell? ⟨fA, 0, none⟩ = some (.slice df aG.length bW) := (av bT.out 0).trans rfl; have vP : wr.cell? ⟨fA, 1, none⟩ = some (.int .i64 aH) := (av bT.out 1).trans rfl; have zu : wr.cell? ⟨fA, 2, none⟩ = some (.int .i64 aW) := (av bT.out 2).trans rfl; have J6 : wr.cell? ⟨fA, 3, none⟩ = some (.int .i64 bg) := (av bT.out 3).trans rfl; have J3 : wr.cell? ⟨fA, 4, none⟩ = some (.slice cZ aA.length bY) := (av bT.out 4).trans rfl; have vX := aK bT.out 0; have wh := aK bT.out 1; have zg := aK bT.out 2; have Jp := aK bT.out 3; have Mh := aK bT.out 4; have mV : 0 ≤ (a1 : Int) := of_decide_eq_true (by first | (with_reducible assumption) | assumption); have mU : a1 < (aA.length : Int) := of_decide_eq_true (by first | (with_reducible assumption) | assumption); obtain ⟨xh, A604_0, c604_0, e604, eT, iy, iE⟩ := qp kv.out a1 mV mU; cases e604; replace eT := (HB.out.cell (World.block_lt_of_cell? w _ eT)).trans eT; have sM := aa.mk iE; have sN := aa.mk iy; clear iE iy; replace mV := eq_true mV; replace mU := eq_true mU; go_wp2; (repeat (go_quiet (fail); try go_wp2)); go_roundg k2; (case measure => have := HK1.out; have := HK2.out; omega); case rel => exact ⟨(false), (wrap64 (jJ + 1)), (by first | rfl | (simp; done) | (simp [*]; done)), (by first | rfl | (simp; done) | (simp [*]; done)), H', ⟨by have := HK1.out; have := HK2.out; omega⟩, ⟨by (with_reducible repeat (first | refine dS ?_ _ | refine bH ?_ | refine bu ?_ _)); exact bT.out⟩, ⟨by repeat (first | (with_reducible first | exact HB.out | apply ah | apply aC | apply bR | refine bK ?_ pY.out) | exact HB.out)⟩⟩
        ·rw [if_neg c8] at H; have Bl : decide (jJ < ((dz aA a1).length : Int)) = false := decide_eq_false c8; clear c8; replace H := Option.bind_eq_some_iff.mp H; obtain ⟨⟨ni, nk⟩, GH, H⟩ := H; replace H : (if EX = true then (if ni ≤ aH then (if nk ≤ aW then (af.l0 k2 a1 a2 (mn fU (wrap64 (ni + nk))) (wrap64 (dL + 1)) aG aH aW bg aA) else (af.l0 k2 a1 a2 fU (wrap64 (dL + 1)) aG aH aW bg aA)) else (af.l0 k2 a1 a2 fU (wrap64 (dL + 1)) aG aH aW bg aA)) else (af.l0 k2 a1 a2 fU (wrap64 (dL + 1)) aG aH aW bg aA)) = some r := H; have A13 := aa.mk GH; clear GH; by_cases c14 : EX = true
         ·subst c14; (have H1 : (if ni ≤ aH then (if nk ≤ aW then (af.l0 k2 a1 a2 (mn fU (wrap64 (ni + nk))) (wrap64 (dL + 1)) aG aH aW bg aA) else (af.l0 k2 a1 a2 fU (wrap64 (dL + 1)) aG aH aW bg aA)) else (af.l0 k2 a1 a2 fU (wrap64 (dL + 1)) aG aH aW bg aA)) = some r := by rw [if_pos rfl] at H; exact H); clear H; have H := H1; clear H1; by_cases c15 : ni ≤ aH
          ·rw [if_pos c15] at H; have DV : decide (ni ≤ aH) = true := decide_eq_true c15; clear c15; by_cases c16 : nk ≤ aW
           ·rw [if_pos c16] at H; have M0 : decide (nk ≤ aW) = true := decide_eq_true c16; clear c16; obtain ⟨Ay, vE⟩ : ∃ j_ : Int, (mn fU (wrap64 (ni + nk))) = j_ := ⟨_, rfl⟩; (replace H : (af.l0 k2 a1 a2 Ay (wrap64 (dL + 1)) aG aH aW bg aA) = some r := by first | (rw [vE] at H; exact H) | (simp only [vE] at H ⊢; exact H)); (try rw [vE] at A13); have O5 : (if (wrap64 (ni + nk)) < fU then (wrap64 (ni + nk)) else fU) = Ay := vE; have H' := aa.mk H; clear H; have D7 : wr.cell? ⟨fA, 0, none⟩ = some (.slice df aG.length bW) := (av bT.out 0).trans rfl; have Eh : wr.cell? ⟨fA, 1, none⟩ = some (.int .i64 aH) := (av bT.out 1).trans rfl; have D6 : wr.cell? ⟨fA, 2, none⟩ = some (.int .i64 aW) := (av bT.out 2).trans rfl; have Em : wr.cell? ⟨fA, 3, none⟩ = some (.int .i64 bg) := (av bT.out 3).trans rfl; have Ex : wr.cell? ⟨fA, 4, none⟩ = some (.slice cZ aA.length bY) := (av bT.out 4).trans rfl; have EN := aK bT.out 0; have Eb := aK bT.out 1; have El := aK bT.out 2; have Eg := aK bT.out 3; have DY := aK bT.out 4; have mV : 0 ≤ (a1 : Int) := of_decide_eq_true (by first | (with_reducible assumption) | assumption); have mU : a1 < (aA.length : Int) := of_decide_eq_true (by first | (with_reducible assumption) | assumption); obtain ⟨xh, A604_0, c604_0, e604, eT, iy, iE⟩ := qp kv.out a1 mV mU; cases e604; replace eT := (HB.out.cell (World.block_lt_of_cell? w _ eT)).trans eT; have sM := aa.mk iE; have sN := aa.mk iy; clear iE iy; replace mV := eq_true mV; replace mU := eq_true mU; (go_wp2_with (first | (go_at_call 80; (with_reducible refine (ai.calls k2 a2 dL ni nk _ A13.out).mono ?_); rintro e w' ⟨rfl, ⟨nd, rfl⟩⟩; (try first | exact ⟨rfl, _, World.drewN_drewN _ _ _⟩ | exact ⟨rfl, _, Eq.trans (World.drewN_drewN _ _ _) (congrArg (World.drewN _) (Nat.add_assoc _ _ _))⟩)))); (repeat (go_quiet (first | (go_at_call 80; (with_reducible refine (ai.calls k2 a2 dL ni nk _ A13.out).mono ?_); rintro e w' ⟨rfl, ⟨nd, rfl⟩⟩; (try first | exact ⟨rfl, _, World.drewN_drewN _ _ _⟩ | exact ⟨rfl, _, Eq.trans (World.drewN_drewN _ _ _) (congrArg (World.drewN _) (Nat.add_assoc _ _ _))⟩))); try go_wp2_with (first | (go_at_call 80; (with_reducible refine (ai.calls k2 a2 dL ni nk _ A13.out).mono ?_); rintro e w' ⟨rfl, ⟨nd, rfl⟩⟩; (try first | exact ⟨rfl, _, World.drewN_drewN _ _ _⟩ | exact ⟨rfl, _, Eq.trans (World.drewN_drewN _ _ _) (congrArg (World.drewN _) (Nat.add_assoc _ _ _))⟩))))); go_roundg k2; (case measure => have := HK1.out; have := HK2.out; omega); case rel => exact ⟨(Ay), (wrap64 (dL + 1)), (by first | rfl | (simp; done) | (simp only [← vE] <;> (first | rfl | simp)) | (simp [*]; done)), (by first | rfl | (simp; done) | (simp [*]; done)), H', ⟨by have := HK1.out; have := HK2.out; omega⟩, ⟨by (with_reducible repeat (first | refine dS ?_ _ | refine bH ?_ | refine bu ?_ _)); exact bT.out⟩, ⟨by repeat (first | (with_reducible first | exact HB.out | apply ah | apply aC | apply bR | refine bK ?_ pY.out) | exact HB.out)⟩⟩
           ·rw [if_neg c16] at H; have M0 : decide (nk ≤ aW) = false := decide_eq_false c16; clear c16; have H' := aa.mk H; clear H; have Ld : wr.cell? ⟨fA, 0, none⟩ = some (.slice df aG.length bW) := (av bT.out 0).trans rfl; have JO : wr.cell? ⟨fA, 1, none⟩ = some (.int .i64 aH) := (av bT.out 1).trans rfl; have Kl : wr.cell? ⟨fA, 2, none⟩ = some (.int .i64 aW) := (av bT.out 2).trans rfl; have Jj : wr.cell? ⟨fA, 3, none⟩ = some (.int .i64 bg) := (av bT.out 3).trans rfl; have LK : wr.cell? ⟨fA, 4, none⟩ = some (.slice cZ aA.length bY) := (av bT.out 4).trans rfl; have Ml := aK bT.out 0; have Lm := aK bT.out 1; have Kv := aK bT.out 2; have Jv := aK bT.out 3; have J9 := aK bT.out 4; have mV : 0 ≤ (a1 : Int) := of_decide_eq_true (by first | (with_reducible assumption) | assumption); have mU : a1 < (aA.length : Int) := of_decide_eq_true (by first | (with_reducible assumption) | assumption); obtain ⟨xh, A604_0, c604_0, e604, eT, iy, iE⟩ := qp kv.out a1 mV mU; cases e604; replace eT := (HB.out.cell (World.block_lt_of_cell? w _ eT)).trans eT; have sM := aa.mk iE; have sN := aa.mk iy; clear iE iy; replace mV := eq_true mV; replace mU := eq_true mU; (go_wp2_with (first | (go_at_call 80; (with_reducible refine (ai.calls k2 a2 dL ni nk _ A13.out).mono ?_); rintro e w' ⟨rfl, ⟨nd, rfl⟩⟩; (try first | exact ⟨rfl, _, World.drewN_drewN _ _ _⟩ | exact ⟨rfl, _, Eq.trans (World.drewN_drewN _ _ _) (congrArg (World.drewN _) (Nat.add_assoc _ _ _))⟩)))); (repeat (go_quiet (first | (go_at_call 80; (with_reducible refine (ai.calls k2 a2 dL ni nk _ A13.out).mono ?_); rintro e w' ⟨rfl, ⟨nd, rfl⟩⟩; (try first | exact ⟨rfl, _, World.drewN_drewN _ _ _⟩ | exact ⟨rfl, _, Eq.trans (World.drewN_drewN _ _ _) (congrArg (World.drewN _) (Nat.add_assoc _ _ _))⟩))); try go_wp2_with (first | (go_at_call 80; (with_reducible refine (ai.calls k2 a2 dL ni nk _ A13.out).mono ?_); rintro e w' ⟨rfl, ⟨nd, rfl⟩⟩; (try first | exact ⟨rfl, _, World.drewN_drewN _ _ _⟩ | exact ⟨rfl, _, Eq.trans (World.drewN_drewN _ _ _) (congrArg (World.drewN _) (Nat.add_assoc _ _ _))⟩))))); go_roundg k2; (case measure => have := HK1.out; have := HK2.out; omega); case rel => exact ⟨(fU), (wrap64 (dL + 1)), (by first | rfl | (simp; done) | (simp [*]; done)), (by first | rfl | (simp; done) | (simp [*]; done)), H', ⟨by have := HK1.out; have := HK2.out; omega⟩, ⟨by (with_reducible repeat (first | refine dS ?_ _ | refine bH ?_ | refine bu ?_ _)); exact bT.out⟩, ⟨by repeat (first | (with_reducible first | exact HB.out | apply ah | apply aC | apply bR | refine bK ?_ pY.out) | exact HB.out)⟩⟩
          ·rw [if_neg c15] at H; have DV : decide (ni ≤ aH) = false := decide_eq_false c15; clear c15; have H' := aa.mk H; clear H; have Vu : wr.cell? ⟨fA, 0, none⟩ = some (.slice df aG.length bW) := (av bT.out 0).trans rfl; have Tu : wr.cell? ⟨fA, 1, none⟩ = some (.int .i64 aH) := (av bT.out 1).trans rfl; have UV : wr.cell? ⟨fA, 2, none⟩ = some (.int .i64 aW) := (av bT.out 2).trans rfl; have Vp : wr.cell? ⟨fA, 3, none⟩ = some (.int .i64 bg) := (av bT.out 3).trans rfl; have Tt : wr.cell? ⟨fA, 4, none⟩ = some (.slice cZ aA.length bY) := (av bT.out 4).trans rfl; have Vz := aK bT.out 0; have UX := aK bT.out 1; have TR := aK bT.out 2; have UR := aK bT.out 3; have Vd := aK bT.out 4; have mV : 0 ≤ (a1 : Int) := of_decide_eq_true (by first | (with_reducible assumption) | assumption); have mU : a1 < (aA.length : Int) := of_decide_eq_true (by first | (with_reducible assumption) | assumption); obtain ⟨xh, A604_0, c604_0, e604, eT, iy, iE⟩ := qp kv.out a1 mV mU; cases e604; replace eT := (HB.out.cell (World.block_lt_of_cell? w _ eT)).trans eT; have sM := aa.mk iE; have sN := aa.mk iy; clear iE iy; replace mV := eq_true mV; replace mU := eq_true mU; (go_wp2_with (first | (go_at_call 80; (with_reducible refine (ai.calls k2 a2 dL ni nk _ A13.out).mono ?_); rintro e w' ⟨rfl, ⟨nd, rfl⟩⟩; (try first | exact ⟨rfl, _, World.drewN_drewN _ _ _⟩ | exact ⟨rfl, _, Eq.trans (World.drewN_drewN _ _ _) (congrArg (World.drewN _) (Nat.add_assoc _ _ _))⟩)))); (repeat (go_quiet (first | (go_at_call 80; (with_reducible refine (ai.calls k2 a2 dL ni nk _ A13.out).mono ?_); rintro e w' ⟨rfl, ⟨nd, rfl⟩⟩; (try first | exact ⟨rfl, _, World.drewN_drewN _ _ _⟩ | exact ⟨rfl, _, Eq.trans (World.drewN_drewN _ _ _) (congrArg (World.drewN _) (Nat.add_assoc _ _ _))⟩))); try go_wp2_with (first | (go_at_call 80; (with_reducible refine (ai.calls k2 a2 dL ni nk _ A13.out).mono ?_); rintro e w' ⟨rfl, ⟨nd, rfl⟩⟩; (try first | exact ⟨rfl, _, World.drewN_drewN _ _ _⟩ | exact ⟨rfl, _, Eq.trans (World.drewN_drewN _ _ _) (congrArg (World.drewN _) (Nat.add_assoc _ _ _))⟩))))); go_roundg k2; (case measure => have := HK1.out; have := HK2.out; omega); case rel => exact ⟨(fU), (wrap64 (dL + 1)), (by first | rfl | (simp; done) | (simp [*]; done)), (by first | rfl | (simp; done) | (simp [*]; done)), H', ⟨by have := HK1.out; have := HK2.out; omega⟩, ⟨by (with_reducible repeat (first | refine dS ?_ _ | refine bH ?_ | refine bu ?_ _)); exact bT.out⟩, ⟨by repeat (first | (with_reducible first | exact HB.out | apply ah | apply aC | apply bR | refine bK ?_ pY.out) | exact HB.out)⟩⟩
         ·replace c14 := Bool.eq_false_iff.mpr c14; subst c14; (have H1 : (af.l0 k2 a1 a2 fU (wrap64 (dL + 1)) aG aH aW bg aA) = some r := by rw [if_neg (show ¬ (false = true) by decide)] at H; exact H); clear H; have H := H1; clear H1; have H' := aa.mk H; clear H; have EB : wr.cell? ⟨fA, 0, none⟩ = some (.slice df aG.length bW) := (av bT.out 0).trans rfl; have ED : wr.cell? ⟨fA, 1, none⟩ = some (.int .i64 aH) := (av bT.out 1).trans rfl; have DR : wr.cell? ⟨fA, 2, none⟩ = some (.int .i64 aW) := (av bT.out 2).trans rfl; have Md : wr.cell? ⟨fA, 3, none⟩ = some (.int .i64 bg) := (av bT.out 3).trans rfl; have Ju : wr.cell? ⟨fA, 4, none⟩ = some (.slice cZ aA.length bY) := (av bT.out 4).trans rfl; have Ei := aK bT.out 0; have D8 := aK bT.out 1; have EG := aK bT.out 2; have Lx := aK bT.out 3; have MI := aK bT.out 4; have mV : 0 ≤ (a1 : Int) := of_decide_eq_true (by first | (with_reducible assumption) | assumption); have mU : a1 < (aA.length : Int) := of_decide_eq_true (by first | (with_reducible assumption) | assumption); obtain ⟨xh, A604_0, c604_0, e604, eT, iy, iE⟩ := qp kv.out a1 mV mU; cases e604; replace eT := (HB.out.cell (World.block_lt_of_cell? w _ eT)).trans eT; have sM := aa.mk iE; have sN := aa.mk iy; clear iE iy; replace mV := eq_true mV; replace mU := eq_true mU; (go_wp2_with (first | (go_at_call 80; (with_reducible refine (ai.calls k2 a2 dL ni nk _ A13.out).mono ?_); rintro e w' ⟨rfl, ⟨nd, rfl⟩⟩; (try first | exact ⟨rfl, _, World.drewN_drewN _ _ _⟩ | exact ⟨rfl, _, Eq.trans (World.drewN_drewN _ _ _) (congrArg (World.drewN _) (Nat.add_assoc _ _ _))⟩)))); (repeat (go_quiet (first | (go_at_call 80; (with_reducible refine (ai.calls k2 a2 dL ni nk _ A13.out).mono ?_); rintro e w' ⟨rfl, ⟨nd, rfl⟩⟩; (try first | exact ⟨rfl, _, World.drewN_drewN _ _ _⟩ | exact ⟨rfl, _, Eq.trans (World.drewN_drewN _ _ _) (congrArg (World.drewN _) (Nat.add_assoc _ _ _))⟩))); try go_wp2_with (first | (go_at_call 80; (with_reducible refine (ai.calls k2 a2 dL ni nk _ A13.out).mono ?_); rintro e w' ⟨rfl, ⟨nd, rfl⟩⟩; (try first | exact ⟨rfl, _, World.drewN_drewN _ _ _⟩ | exact ⟨rfl, _, Eq.trans (World.drewN_drewN _ _ _) (congrArg (World.drewN _) (Nat.add_assoc _ _ _))⟩))))); go_roundg k2; (case measure => have := HK1.out; have := HK2.out; omega); case rel => exact ⟨(fU), (wrap64 (dL + 1)), (by first | rfl | (simp; done) | (simp [*]; done)), (by first | rfl | (simp; done) | (simp [*]; done)), H', ⟨by have := HK1.out; have := HK2.out; omega⟩, ⟨by (with_reducible repeat (first | refine dS ?_ _ | refine bH ?_ | refine bu ?_ _)); exact bT.out⟩, ⟨by repeat (first | (with_reducible first | exact HB.out | apply ah | apply aC | apply bR | refine bK ?_ pY.out) | exact HB.out)⟩⟩
       ·rw [if_neg c7] at H; exact absurd H (by simp)
      ·rw [if_neg c6] at H; exact absurd H (by simp)
   ·rw [if_neg c5] at H; have uB : decide (dL < 16) = false := decide_eq_false c5; clear c5; obtain rfl := Option.some.inj H; go_wp2; repeat (go_quiet (fail); try go_wp2)
    go_ret
    exact ⟨by first | rfl | (simp [uE, um] <;> rfl) | (simp [*, uE, um] <;> rfl), by repeat (first | (with_reducible first | exact HB.out | apply ah | apply aC | apply bR | refine bK ?_ pY.out) | exact HB.out)⟩
def aD.l0 : Nat → ByteArray → Int → Int → Option (Bool)
 | 0, _, _, _ => none
 | k + 1, x0, x1, x5 => if x5 < (x0.size : Int) then (if 0 ≤ x5 then (if (bt x0 x5) = x1 then (some true) else (aD.l0 k x0 x1 (wrap64 (x5 + 1)))) else (none)) else (some false)
def aD.f (k : Nat) (a0 : ByteArray) (a1 : Int) : Option (Bool) := aD.l0 k a0 a1 0
theorem aD.dF : ∀ k, (∀ y0 y1 y2, LeO (aD.l0 k y0 y1 y2) (aD.l0 (k + 1) y0 y1 y2))
 | 0 => fun _ _ _ r h => by simp [aD.l0] at h
 | k + 1 => by
  have ih0 := aD.dF k
  ·intro y0 y1 y2; unfold aD.l0
   repeat' first | (with_reducible exact ih0 _ _ _) | (with_reducible exact LeO.refl _) | (with_reducible refine LeO.ite ?_ ?_)
theorem aD.mono : ∀ a0 a1 k, LeO (aD.f k a0 a1) (aD.f (k + 1) a0 a1) := by
 intro a0 a1 k; have ih0 := aD.dF k; unfold aD.f
 repeat' (with_reducible exact ih0 _ _ _)
set_option maxHeartbeats 8000000 in
set_option maxRecDepth 100000 in
theorem aD.calls (k : Nat) (a0 : ByteArray) (a1 : Int) (r : Bool) (w : World) (h : aD.f k a0 a1 = some r) :
 Calls Try.prog 29 #[.string a0, .int .u8 a1] w fun e w' => e = .returned (.bool r) ∧ bB w w' := by
 have H : (aD.l0 k a0 a1 0) = some r := h; clear h; have H' := aa.mk H; clear H; go_enter Try.func29, Try.ntmps29; go_wp2; (go_loopg [5] k (fun kq v5 w' => ∃ (gG : Int), v5 = .int .i64 gG ∧ aa (aD.l0 kq a0 a1 gG = some r) ∧ aa (kq ≤ k) ∧ bB w w')); case atStart => exact ⟨(0), (by rfl), H', ⟨Nat.le_refl _⟩, by exact bB.refl _⟩
 case round =>
  clear H'; obtain ⟨gG, rfl, HA, HK1, ⟨m1, rfl⟩⟩ := hrel
  cases gk with
  | zero => exact absurd HA.out (by simp [aD.l0])
  | succ k1 =>
   have H := HA.out; clear HA; simp only [aD.l0] at H; by_cases c3 : gG < (a0.size : Int)
   ·rw [if_pos c3] at H; have pq : decide (gG < (a0.size : Int)) = true := decide_eq_true c3; clear c3; by_cases c4 : 0 ≤ gG
    ·rw [if_pos c4] at H; have uJ : decide (0 ≤ gG) = true := decide_eq_true c4; clear c4; by_cases c6 : (bt a0 gG) = a1
     ·rw [if_pos c6] at H; have FI : ((bt a0 gG) == a1) = true := beq_iff_eq.mpr c6; have VZ : ((bt a0 gG) != a1) = false := bne_eq_false_iff_eq.mpr c6; clear c6; obtain rfl := Option.some.inj H; have p5 : 0 ≤ (gG : Int) := of_decide_eq_true (by with_reducible assumption); have q5 : gG < (a0.size : Int) := of_decide_eq_true (by with_reducible assumption); have hx5 := ve a0 gG; replace p5 := eq_true p5; replace q5 := eq_true q5; go_wp2
      go_ret
      exact ⟨by rfl, by repeat (first | exact bB.refl _ | apply bB.step)⟩
     ·rw [if_neg c6] at H; have FI : ((bt a0 gG) == a1) = false := beq_eq_false_iff_ne.mpr c6; have VZ : ((bt a0 gG) != a1) = true := bne_iff_ne.mpr c6; have H' := aa.mk H; clear H; have p5 : 0 ≤ (gG : Int) := of_decide_eq_true (by with_reducible assumption); have q5 : gG < (a0.size : Int) := of_decide_eq_true (by with_reducible assumption); have hx5 := ve a0 gG; replace p5 := eq_true p5; replace q5 := eq_true q5; go_wp2; go_roundg k1; (case measure => have := HK1.out; omega); case rel => exact ⟨(wrap64 (gG + 1)), (by rfl), H', ⟨by have := HK1.out; omega⟩, by repeat (first | exact bB.refl _ | apply bB.step)⟩
    ·rw [if_neg c4] at H; exact absurd H (by simp)
   ·rw [if_neg c3] at H; have pq : decide (gG < (a0.size : Int)) = false := decide_eq_false c3; clear c3; obtain rfl := Option.some.inj H; go_wp2
    go_ret
    exact ⟨by rfl, by repeat (first | exact bB.refl _ | apply bB.step)⟩
def aN.l0 : Nat → List Int → List Int → Bool → Int → Option (Bool)
 | 0, _, _, _, _ => none
 | k + 1, x0, x1, x5, x6 => if x5 = true then (if x6 < (x0.length : Int) then (if 0 ≤ x6 then (if x6 < (x1.length : Int) then (aN.l0 k x0 x1 ((rd x0 x6) == (rd x1 x6)) (wrap64 (x6 + 1))) else (none)) else (none)) else (some x5)) else (some x5)
def aN.f (k : Nat) (l0 : List Int) (l1 : List Int) : Option (Bool) := aN.l0 k l0 l1 ((l0.length : Int) == (l1.length : Int)) 0
theorem aN.dF : ∀ k, (∀ y0 y1 y2 y3, LeO (aN.l0 k y0 y1 y2 y3) (aN.l0 (k + 1) y0 y1 y2 y3))
 | 0 => fun _ _ _ _ r h => by simp [aN.l0] at h
 | k + 1 => by
  have ih0 := aN.dF k
  ·intro y0 y1 y2 y3; unfold aN.l0
   repeat' first
   | (with_reducible exact ih0 _ _ _ _)
   | (with_reducible exact LeO.refl _)
   | (with_reducible exact LeO.none _)
   | (with_reducible refine LeO.ite ?_ ?_)
   | (with_reducible refine LeO.bind ?_ (fun _ => ?_))
   | exact ih0 _ _ _ _
   | exact LeO.none _
   | refine LeO.ite ?_ ?_
   | refine LeO.bind ?_ (fun _ => ?_)
theorem aN.mono : ∀ a0 a1 k, LeO (aN.f k a0 a1) (aN.f (k + 1) a0 a1) := by
 intro a0 a1 k; have ih0 := aN.dF k; unfold aN.f
 repeat' first
  | (with_reducible exact ih0 _ _ _ _)
  | (with_reducible exact LeO.refl _)
  | (with_reducible exact LeO.none _)
  | (with_reducible refine LeO.ite ?_ ?_)
  | (with_reducible refine LeO.bind ?_ (fun _ => ?_))
  | exact ih0 _ _ _ _
  | exact LeO.none _
  | refine LeO.ite ?_ ?_
  | refine LeO.bind ?_ (fun _ => ?_)
set_option maxHeartbeats 8000000 in
set_option maxRecDepth 100000 in
theorem aN.calls (k : Nat) (A0 : Option Addr) (c0 : Nat) (l0 : List Int) (A1 : Option Addr) (c1 : Nat) (l1 : List Int) (r : Bool) (w : World) (hr0 : Kd.C (Kd.int .i64) w A0 l0.length l0) (hc0 : l0.length ≤ c0) (hr1 : Kd.C (Kd.int .i64) w A1 l1.length l1) (hc1 : l1.length ≤ c1) (h : aN.f k l0 l1 = some r) :
 Calls Try.prog 28 #[.slice A0 l0.length c0, .slice A1 l1.length c1] w fun e w' => e = .returned (.bool r) ∧ bB w w' := by
 have HR0 := aa.mk hr0; have HC0 := aa.mk hc0; clear hr0 hc0; have HR1 := aa.mk hr1; have HC1 := aa.mk hc1; clear hr1 hc1; have H : (aN.l0 k l0 l1 ((l0.length : Int) == (l1.length : Int)) 0) = some r := h; clear h; have H' := aa.mk H; clear H; go_enter Try.func28, Try.ntmps28; go_wp2; (repeat (go_quiet (fail); try go_wp2)); (go_loopg [5, 6] k (fun kq v5 v6 w' => ∃ (gG : Bool) (dC : Int), v5 = .bool gG ∧ v6 = .int .i64 dC ∧ aa (aN.l0 kq l0 l1 gG dC = some r) ∧ aa (kq ≤ k) ∧ bB w w')); case atStart => exact ⟨(((l0.length : Int) == (l1.length : Int))), (0), (by first | rfl | (simp; done) | (simp [*]; done)), (by first | rfl | (simp; done) | (simp [*]; done)), H', ⟨Nat.le_refl _⟩, by repeat (first | exact bB.refl _ | apply bB.step)⟩
 case round =>
  clear H'; (try clear c1); (try clear c2); (try clear p2); obtain ⟨gG, dC, rfl, rfl, HA, HK1, ⟨m1, rfl⟩⟩ := hrel
  cases gk with
  | zero => exact absurd HA.out (by simp [aN.l0])
  | succ k1 =>
   have H := HA.out; clear HA; simp only [aN.l0] at H; by_cases c3 : gG = true
   ·subst c3; (have H1 : (if dC < (l0.length : Int) then (if 0 ≤ dC then (if dC < (l1.length : Int) then (aN.l0 k1 l0 l1 ((rd l0 dC) == (rd l1 dC)) (wrap64 (dC + 1))) else (none)) else (none)) else (some true)) = some r := by rw [if_pos rfl] at H; exact H); clear H; have H := H1; clear H1; by_cases c4 : dC < (l0.length : Int)
    ·rw [if_pos c4] at H; have uJ : decide (dC < (l0.length : Int)) = true := decide_eq_true c4; clear c4; by_cases c5 : 0 ≤ dC
     ·rw [if_pos c5] at H; have uB : decide (0 ≤ dC) = true := decide_eq_true c5; clear c5; by_cases c6 : dC < (l1.length : Int)
      ·rw [if_pos c6] at H; have FI : decide (dC < (l1.length : Int)) = true := decide_eq_true c6; clear c6; have H' := aa.mk H; clear H; have PR : 0 ≤ (dC : Int) := of_decide_eq_true (by first | (with_reducible assumption) | assumption); have Pi : dC < (l0.length : Int) := of_decide_eq_true (by first | (with_reducible assumption) | assumption); obtain ⟨Xq, e616, UY⟩ := Kd.rD HR0.out dC PR Pi; cases e616; replace PR := eq_true PR; replace Pi := eq_true Pi; have Pn : 0 ≤ (dC : Int) := of_decide_eq_true (by first | (with_reducible assumption) | assumption); have Ny : dC < (l1.length : Int) := of_decide_eq_true (by first | (with_reducible assumption) | assumption); obtain ⟨Yk, e617, Vj⟩ := Kd.rD HR1.out dC Pn Ny; cases e617; replace Pn := eq_true Pn; replace Ny := eq_true Ny; go_wp2; (repeat (go_quiet (fail); try go_wp2)); go_roundg k1; (case measure => have := HK1.out; omega); case rel => exact ⟨(((rd l0 dC) == (rd l1 dC))), (wrap64 (dC + 1)), (by first | rfl | (simp; done) | (simp [*]; done)), (by first | rfl | (simp; done) | (simp [*]; done)), H', ⟨by have := HK1.out; omega⟩, by repeat (first | exact bB.refl _ | apply bB.step)⟩
      ·rw [if_neg c6] at H; exact absurd H (by simp)
     ·rw [if_neg c5] at H; exact absurd H (by simp)
    ·rw [if_neg c4] at H; have uJ : decide (dC < (l0.length : Int)) = false := decide_eq_false c4; clear c4; obtain rfl := Option.some.inj H; go_wp2; repeat (go_quiet (fail); try go_wp2)
     go_ret
     exact ⟨by first | rfl | (simp; done) | (simp [*]; done), by repeat (first | exact bB.refl _ | apply bB.step)⟩
   ·replace c3 := Bool.eq_false_iff.mpr c3; subst c3; (have H1 : (some false) = some r := by rw [if_neg (show ¬ (false = true) by decide)] at H; exact H); clear H; have H := H1; clear H1; obtain rfl := Option.some.inj H; go_wp2; repeat (go_quiet (fail); try go_wp2)
    go_ret
    exact ⟨by first | rfl | (simp; done) | (simp [*]; done), by repeat (first | exact bB.refl _ | apply bB.step)⟩
def aT.l0 : Nat → List ByteArray → List ByteArray → Bool → Int → Option (Bool)
 | 0, _, _, _, _ => none
 | k + 1, x0, x1, x5, x6 => if x5 = true then (if x6 < (x0.length : Int) then (if 0 ≤ x6 then (if x6 < (x1.length : Int) then (aT.l0 k x0 x1 ((fM ByteArray.empty x0 x6).toList == (fM ByteArray.empty x1 x6).toList) (wrap64 (x6 + 1))) else (none)) else (none)) else (some x5)) else (some x5)
def aT.f (k : Nat) (l0 : List ByteArray) (l1 : List ByteArray) : Option (Bool) := aT.l0 k l0 l1 ((l0.length : Int) == (l1.length : Int)) 0
theorem aT.dF : ∀ k, (∀ y0 y1 y2 y3, LeO (aT.l0 k y0 y1 y2 y3) (aT.l0 (k + 1) y0 y1 y2 y3))
 | 0 => fun _ _ _ _ r h => by simp [aT.l0] at h
 | k + 1 => by
  have ih0 := aT.dF k
  ·intro y0 y1 y2 y3; unfold aT.l0
   repeat' first | (with_reducible exact ih0 _ _ _ _) | (with_reducible exact LeO.refl _) | (with_reducible refine LeO.ite ?_ ?_)
theorem aT.mono : ∀ a0 a1 k, LeO (aT.f k a0 a1) (aT.f (k + 1) a0 a1) := by
 intro a0 a1 k; have ih0 := aT.dF k; unfold aT.f
 repeat' (with_reducible exact ih0 _ _ _ _)
set_option maxHeartbeats 8000000 in
set_option maxRecDepth 100000 in
theorem aT.calls (k : Nat) (A0 : Option Addr) (c0 : Nat) (l0 : List ByteArray) (A1 : Option Addr) (c1 : Nat) (l1 : List ByteArray) (r : Bool) (w : World) (hr0 : Kd.C Kd.string w A0 l0.length l0) (hc0 : l0.length ≤ c0) (hr1 : Kd.C Kd.string w A1 l1.length l1) (hc1 : l1.length ≤ c1) (h : aT.f k l0 l1 = some r) :
 Calls Try.prog 42 #[.slice A0 l0.length c0, .slice A1 l1.length c1] w fun e w' => e = .returned (.bool r) ∧ bB w w' := by
 have HR0 := aa.mk hr0; have HC0 := aa.mk hc0; clear hr0 hc0; have HR1 := aa.mk hr1; have HC1 := aa.mk hc1; clear hr1 hc1; have H : (aT.l0 k l0 l1 ((l0.length : Int) == (l1.length : Int)) 0) = some r := h; clear h; have H' := aa.mk H; clear H; go_enter Try.func42, Try.ntmps42; go_wp2; (go_loopg [5, 6] k (fun kq v5 v6 w' => ∃ (gG : Bool) (dC : Int), v5 = .bool gG ∧ v6 = .int .i64 dC ∧ aa (aT.l0 kq l0 l1 gG dC = some r) ∧ aa (kq ≤ k) ∧ bB w w')); case atStart => exact ⟨(((l0.length : Int) == (l1.length : Int))), (0), (by rfl), (by rfl), H', ⟨Nat.le_refl _⟩, by exact bB.refl _⟩
 case round =>
  clear H'; obtain ⟨gG, dC, rfl, rfl, HA, HK1, ⟨m1, rfl⟩⟩ := hrel
  cases gk with
  | zero => exact absurd HA.out (by simp [aT.l0])
  | succ k1 =>
   have H := HA.out; clear HA; simp only [aT.l0] at H; by_cases c3 : gG = true
   ·subst c3; rw [if_pos rfl] at H; by_cases c4 : dC < (l0.length : Int)
    ·rw [if_pos c4] at H; have uJ : decide (dC < (l0.length : Int)) = true := decide_eq_true c4; clear c4; by_cases c5 : 0 ≤ dC
     ·rw [if_pos c5] at H; have uB : decide (0 ≤ dC) = true := decide_eq_true c5; clear c5; by_cases c6 : dC < (l1.length : Int)
      ·rw [if_pos c6] at H; have FI : decide (dC < (l1.length : Int)) = true := decide_eq_true c6; clear c6; have H' := aa.mk H; clear H; have NK : 0 ≤ (dC : Int) := of_decide_eq_true (by with_reducible assumption); have Qh : dC < (l0.length : Int) := of_decide_eq_true (by with_reducible assumption); obtain ⟨Yl, e264, Ui⟩ := Kd.lu HR0.out dC NK Qh; cases e264; replace NK := eq_true NK; replace Qh := eq_true Qh; have PW : 0 ≤ (dC : Int) := of_decide_eq_true (by with_reducible assumption); have Oi : dC < (l1.length : Int) := of_decide_eq_true (by with_reducible assumption); obtain ⟨Xc, e265, TH⟩ := Kd.lu HR1.out dC PW Oi; cases e265; replace PW := eq_true PW; replace Oi := eq_true Oi; go_wp2; (repeat (go_quiet (fail); go_wp2)); go_roundg k1; (case measure => have := HK1.out; omega); case rel => exact ⟨(((fM ByteArray.empty l0 dC).toList == (fM ByteArray.empty l1 dC).toList)), (wrap64 (dC + 1)), (by rfl), (by rfl), H', ⟨by have := HK1.out; omega⟩, by repeat (first | exact bB.refl _ | apply bB.step)⟩
      ·rw [if_neg c6] at H; exact absurd H (by simp)
     ·rw [if_neg c5] at H; exact absurd H (by simp)
    ·rw [if_neg c4] at H; have uJ : decide (dC < (l0.length : Int)) = false := decide_eq_false c4; clear c4; obtain rfl := Option.some.inj H; go_wp2
     go_ret
     exact ⟨by rfl, by repeat (first | exact bB.refl _ | apply bB.step)⟩
   ·replace c3 := Bool.eq_false_iff.mpr c3; subst c3; rw [if_neg (show ¬ (false = true) by decide)] at H; obtain rfl := Option.some.inj H; go_wp2
    go_ret
    exact ⟨by rfl, by repeat (first | exact bB.refl _ | apply bB.step)⟩
def iG.f  : Option ((List (S66))) := some (([(⟨(⟨(-400), (-300)⟩ : S63), (([(⟨65, 7⟩ : S86), (⟨76, 3⟩ : S86), (⟨84, 12⟩ : S86)] : List (S86)))⟩ : S66), (⟨(⟨(-320), (-200)⟩ : S63), (([(⟨65, 15⟩ : S86), (⟨76, 3⟩ : S86), (⟨84, 12⟩ : S86)] : List (S86)))⟩ : S66)] : List (S66)))
set_option maxHeartbeats 8000000 in
set_option maxRecDepth 100000 in
theorem iG.calls  (r : List (S66)) (w : World) (h : iG.f  = some r) :
 Calls Try.prog 72 #[] w fun e w' => ∃ v0_ : Value, e = .returned (v0_) ∧ Kd.N k66 66 w' w.heap.size (fun k_ => (w.heap.size ≤ k_)) v0_ r ∧ Below w.heap.size w w' := by
 have hu63 := Try.underlying63; have hu86 := Try.underlying86; have hu66 := Try.underlying66; have HB := aa.mk (Below.refl w.heap.size w); have H : (some (([(⟨(⟨(-400), (-300)⟩ : S63), (([(⟨65, 7⟩ : S86), (⟨76, 3⟩ : S86), (⟨84, 12⟩ : S86)] : List (S86)))⟩ : S66), (⟨(⟨(-320), (-200)⟩ : S63), (([(⟨65, 15⟩ : S86), (⟨76, 3⟩ : S86), (⟨84, 12⟩ : S86)] : List (S86)))⟩ : S66)] : List (S66)))) = some r := h; clear h; obtain ⟨Bh, Gb⟩ : ∃ y_ : List (S86), y_ = (([(⟨65, 7⟩ : S86), (⟨76, 3⟩ : S86), (⟨84, 12⟩ : S86)] : List (S86))) := ⟨_, rfl⟩; (replace H : (some (([(⟨(⟨(-400), (-300)⟩ : S63), Bh⟩ : S66), (⟨(⟨(-320), (-200)⟩ : S63), (([(⟨65, 15⟩ : S86), (⟨76, 3⟩ : S86), (⟨84, 12⟩ : S86)] : List (S86)))⟩ : S66)] : List (S66)))) = some r := by (rw [Gb]; with_reducible exact H)); have QI := aa.mk Gb; clear Gb; obtain ⟨Cg, Jg⟩ : ∃ y_ : List (S86), y_ = (([(⟨65, 15⟩ : S86), (⟨76, 3⟩ : S86), (⟨84, 12⟩ : S86)] : List (S86))) := ⟨_, rfl⟩; (replace H : (some (([(⟨(⟨(-400), (-300)⟩ : S63), Bh⟩ : S66), (⟨(⟨(-320), (-200)⟩ : S63), Cg⟩ : S66)] : List (S66)))) = some r := by (rw [Jg]; with_reducible exact H)); have SI := aa.mk Jg; clear Jg; obtain ⟨VP, Hz⟩ : ∃ y_ : List (S66), y_ = (([(⟨(⟨(-400), (-300)⟩ : S63), Bh⟩ : S66), (⟨(⟨(-320), (-200)⟩ : S63), Cg⟩ : S66)] : List (S66))) := ⟨_, rfl⟩; (replace H : (some VP) = some r := by (rw [Hz]; with_reducible exact H)); have SV := aa.mk Hz; clear Hz; obtain rfl := Option.some.inj H; go_enter Try.func72, Try.ntmps72; go_wp2_with (first | ((with_reducible refine bS (N := 5) rfl ?_); refine Kd.uQ k86 _ 86 ?hg (N := 5) ?hd (xs := ([(⟨65, 7⟩ : S86), (⟨76, 3⟩ : S86), (⟨84, 12⟩ : S86)] : List (S86))) (inner := [.int .u8 65, .int .i64 7, .int .u8 76, .int .i64 3, .int .u8 84, .int .i64 12]) (ok := fun _ => True) (okp := fun _ => True) ?hr ?hp (fun _ hk => hk) trivial (Below.refl _ _) (Nat.le_refl _) (by simp) ?_; (case hd => rfl); (case hg => rfl); (case hr => (go_simp; done)); (case hp => exact (dI.c2 (show Kd.M k86 _ _ _ (⟨65, 7⟩ : S86) [.int .u8 65, .int .i64 7] from (nN _ _ _ (⟨65, 7⟩ : S86) )) (dI.c2 (show Kd.M k86 _ _ _ (⟨76, 3⟩ : S86) [.int .u8 76, .int .i64 3] from (nN _ _ _ (⟨76, 3⟩ : S86) )) (dI.c2 (show Kd.M k86 _ _ _ (⟨84, 12⟩ : S86) [.int .u8 84, .int .i64 12] from (nN _ _ _ (⟨84, 12⟩ : S86) )) (dI.none _ _))))); intro YK w1 ho2 hb hg_ hnew_; clear hg_ hnew_; (rw [← QI.out] at ho2); have wP := aa.mk (Kd.eU (Kd.xz (M := fun k_ => (w.heap.size ≤ k_)) ho2 (ay (by exact HB.out)) (fun k_ h_ => h_)) (ay (by exact HB.out))); replace HB := aa.mk (az (by exact HB.out) hb); clear hb ho2; obtain ⟨Ao3, co3, eo3⟩ := Kd.dB wP.out; subst eo3) | ((with_reducible refine bS (N := 11) rfl ?_); refine Kd.uQ k86 _ 86 ?hg (N := 11) ?hd (xs := ([(⟨65, 15⟩ : S86), (⟨76, 3⟩ : S86), (⟨84, 12⟩ : S86)] : List (S86))) (inner := [.int .u8 65, .int .i64 15, .int .u8 76, .int .i64 3, .int .u8 84, .int .i64 12]) (ok := fun _ => True) (okp := fun _ => True) ?hr ?hp (fun _ hk => hk) trivial (Below.refl _ _) (Nat.le_refl _) (by simp) ?_; (case hd => rfl); (case hg => rfl); (case hr => (go_simp; done)); (case hp => exact (dI.c2 (show Kd.M k86 _ _ _ (⟨65, 15⟩ : S86) [.int .u8 65, .int .i64 15] from (nN _ _ _ (⟨65, 15⟩ : S86) )) (dI.c2 (show Kd.M k86 _ _ _ (⟨76, 3⟩ : S86) [.int .u8 76, .int .i64 3] from (nN _ _ _ (⟨76, 3⟩ : S86) )) (dI.c2 (show Kd.M k86 _ _ _ (⟨84, 12⟩ : S86) [.int .u8 84, .int .i64 12] from (nN _ _ _ (⟨84, 12⟩ : S86) )) (dI.none _ _))))); intro YV w4 ho5 hb hg_ hnew_; clear hg_ hnew_; (rw [← SI.out] at ho5); have ER := aa.mk (Kd.eU (Kd.xL (Kd.xz (M := fun k_ => (w.heap.size ≤ k_)) ho5 (ay (by exact HB.out)) (fun k_ h_ => h_)) (Kd.xM (rU wP.out))) (ay (by exact HB.out))); replace wP := aa.mk (Kd.pR (rU wP.out) (Kd.eO ho5) hb); replace HB := aa.mk (az (by exact HB.out) hb); clear hb ho5; obtain ⟨Ao6, co6, eo6⟩ := Kd.dB ER.out; subst eo6) | ((with_reducible refine bS (N := 13) rfl ?_); refine Kd.Ng k66 _ 66 ?hg (N' := 13) ?hd (xs := ([(⟨(⟨(-400), (-300)⟩ : S63), Bh⟩ : S66), (⟨(⟨(-320), (-200)⟩ : S63), Cg⟩ : S66)] : List (S66))) (inner := [.int .i64 (-400), .int .i64 (-300), .slice Ao3 Bh.length co3, .int .i64 (-320), .int .i64 (-200), .slice Ao6 Cg.length co6]) (ok := (fun k_ => (w.heap.size ≤ k_))) (okp := (fun k_ => (w.heap.size ≤ k_))) ?hr ?hp (fun _ hk => hk) ((show ∀ k_, w4.heap.size ≤ k_ → (fun k_ => (w.heap.size ≤ k_)) k_ from fun k_ hk => (Nat.le_trans (ay (by exact HB.out)) hk)) _ (Nat.le_refl _)) (Below.refl _ _) (Nat.le_refl _) (by simp) ?_; (case hd => rfl); (case hg => rfl); (case hr => (go_simp; done)); (case hp => exact (dI.c3 (show Kd.FK k66 _ _ (⟨(⟨(-400), (-300)⟩ : S63), Bh⟩ : S66) [.int .i64 (-400), .int .i64 (-300), .slice Ao3 Bh.length co3] from (EC _ _ (⟨(⟨(-400), (-300)⟩ : S63), Bh⟩ : S66) (Kd.bF (Kd.dV (ok' := (fun k_ => (w.heap.size ≤ k_))) (wP.out) (fun k_ hk => hk.1.1))).2.1 (Kd.R_F (Kd.dV (ok' := (fun k_ => (w.heap.size ≤ k_))) (wP.out) (fun k_ hk => hk.1.1))))) (dI.c3 (show Kd.FK k66 _ _ (⟨(⟨(-320), (-200)⟩ : S63), Cg⟩ : S66) [.int .i64 (-320), .int .i64 (-200), .slice Ao6 Cg.length co6] from (EC _ _ (⟨(⟨(-320), (-200)⟩ : S63), Cg⟩ : S66) (Kd.bF (Kd.dV (ok' := (fun k_ => (w.heap.size ≤ k_))) (ER.out) (fun k_ hk => hk.1.1))).2.1 (Kd.R_F (Kd.dV (ok' := (fun k_ => (w.heap.size ≤ k_))) (ER.out) (fun k_ hk => hk.1.1))))) (dI.none _ _)))); intro Yy w7 ho8 hb hg_ hnew_; clear hg_ hnew_; (rw [← SV.out] at ho8); have Qw := aa.mk (Kd.kU ho8 (ay (by exact HB.out))); replace HB := aa.mk (az (by exact HB.out) hb); clear wP ER hb ho8))
 go_ret
 exact ⟨_, by rfl, by (with_reducible skip); exact Qw.out, by exact HB.out⟩
def dH.f  : Option ((List (S66)) × Int × Int × Int × (List (List (S27)))) := (iG.f).bind fun qN => (some (qN, 1, 0, 1, (([(([(⟨15, 7⟩ : S27)] : List (S27))), (([(⟨15, 3⟩ : S27)] : List (S27))), (([(⟨3, 0⟩ : S27)] : List (S27)))] : List (List (S27))))))
set_option maxHeartbeats 8000000 in
set_option maxRecDepth 100000 in
theorem dH.calls  (r1 : List (S66)) (r2 : Int) (r3 : Int) (r4 : Int) (r5 : List (List (S27))) (w : World) (h : dH.f  = some (r1, r2, r3, r4, r5)) :
 Calls Try.prog 48 #[] w fun e w' => ∃ v0_ v4_ : Value, e = .returned (.agg #[v0_, .int .i64 r2, .int .i64 r3, .int .i64 r4, v4_]) ∧ Kd.N k66 66 w' w.heap.size (fun k_ => (w.heap.size ≤ k_) ∧ some k_ ≠ (v4_ : Value).ownBlock) v0_ r1 ∧ Kd.N (Kd.slice 27 k27) 39 w' w.heap.size (fun k_ => (w.heap.size ≤ k_) ∧ some k_ ≠ (v0_ : Value).ownBlock) v4_ r5 ∧ Below w.heap.size w w' := by
 have hu25 := Try.underlying25; have hu27 := Try.underlying27; have HB := aa.mk (Below.refl w.heap.size w); have H : ((iG.f).bind fun qN => (some (qN, 1, 0, 1, (([(([(⟨15, 7⟩ : S27)] : List (S27))), (([(⟨15, 3⟩ : S27)] : List (S27))), (([(⟨3, 0⟩ : S27)] : List (S27)))] : List (List (S27))))))) = some (r1, r2, r3, r4, r5) := h; clear h; replace H := Option.bind_eq_some_iff.mp H; obtain ⟨qN, A10, H⟩ := H; have A1 := aa.mk A10; clear A10; obtain ⟨Ap, IQ⟩ : ∃ y_ : List (S27), y_ = (([(⟨15, 7⟩ : S27)] : List (S27))) := ⟨_, rfl⟩; (replace H : (some (qN, 1, 0, 1, (([Ap, (([(⟨15, 3⟩ : S27)] : List (S27))), (([(⟨3, 0⟩ : S27)] : List (S27)))] : List (List (S27)))))) = some (r1, r2, r3, r4, r5) := by (rw [IQ]; with_reducible exact H)); have S9 := aa.mk IQ; clear IQ; obtain ⟨CJ, GA⟩ : ∃ y_ : List (S27), y_ = (([(⟨15, 3⟩ : S27)] : List (S27))) := ⟨_, rfl⟩; (replace H : (some (qN, 1, 0, 1, (([Ap, CJ, (([(⟨3, 0⟩ : S27)] : List (S27)))] : List (List (S27)))))) = some (r1, r2, r3, r4, r5) := by (rw [GA]; with_reducible exact H)); have Qx := aa.mk GA; clear GA; obtain ⟨Fq, IJ⟩ : ∃ y_ : List (S27), y_ = (([(⟨3, 0⟩ : S27)] : List (S27))) := ⟨_, rfl⟩; (replace H : (some (qN, 1, 0, 1, (([Ap, CJ, Fq] : List (List (S27)))))) = some (r1, r2, r3, r4, r5) := by (rw [IJ]; with_reducible exact H)); have RN := aa.mk IJ; clear IJ; obtain ⟨Mc, Gi⟩ : ∃ y_ : List (List (S27)), y_ = (([Ap, CJ, Fq] : List (List (S27)))) := ⟨_, rfl⟩; (replace H : (some (qN, 1, 0, 1, Mc)) = some (r1, r2, r3, r4, r5) := by (rw [Gi]; with_reducible exact H)); have Sl := aa.mk Gi; clear Gi; simp only [Option.some.injEq, Prod.mk.injEq] at H; obtain ⟨rfl, rfl, rfl, rfl, rfl⟩ := H; go_enter Try.func48, Try.ntmps48; (go_wp2_with (first | ((with_reducible refine bS (N := 0) rfl ?_); refine bV ?hg (N := 0) ?hd (cs := #[.slice none 0 0, .int .i64 0, .int .i64 0, .int .i64 0, .slice none 0 0]) (t := 25) ?hr ?_; (case hd => rfl); (case hg => rfl); (case hr => (go_simp; done)); intro iQ hg w2 hbox hb; have kE := aa.mk (hbox); have X4 := aa.mk ((by rw [hg]; exact (ay (by exact HB.out)) : w.heap.size ≤ iQ)); have Qs := aa.mk ((by rw [hg]; exact (ay (by exact HB.out)) : w.heap.size ≤ iQ)); replace HB := aa.mk (az (by exact HB.out) hb); clear hb hbox hg) | ((with_reducible refine bC (f := 72) rfl ?_); refine ed (some 1) rfl rfl Try.func72 (by kernel_rfl) rfl #[] rfl (by (simp only [List.map_toArray, List.map_cons, List.map_nil]); done) ?_; (with_reducible refine (iG.calls  qN _ A1.out).mono ?_); rintro e w3 ⟨zR, rfl, ho0, hb⟩; refine ⟨_, rfl, ?_⟩; have lI := aa.mk (Kd.kU (Kd.eP (ok' := fun k_ => (w.heap.size ≤ k_) ∧ k_ ≠ iQ) ho0 (fun k_ hk_ => ⟨(Nat.le_trans (ay (by exact HB.out)) hk_), (Kd.wX (g := iQ) (o := .cells #[.slice none 0 0, .int .i64 0, .int .i64 0, .int .i64 0, .slice none 0 0] 25 (0, 0)) (bU kE.out) k_ hk_)⟩)) (ay (by exact HB.out))); replace kE := aa.mk (ak (bU kE.out) hb); replace HB := aa.mk (az (by exact HB.out) hb); clear hb; (clear ho0)) | ((with_reducible refine bS (N := 3) rfl ?_); refine Kd.uQ k27 _ 27 ?hg (N := 3) ?hd (xs := ([(⟨15, 7⟩ : S27)] : List (S27))) (inner := [.int .i64 15, .int .i64 7]) (ok := fun _ => True) (okp := fun _ => True) ?hr ?hp (fun _ hk => hk) trivial (Below.refl _ _) (Nat.le_refl _) (by simp) ?_; (case hd => rfl); (case hg => rfl); (case hr => (go_simp; done)); (case hp => exact (dI.c2 (show Kd.M k27 _ _ _ (⟨15, 7⟩ : S27) [.int .i64 15, .int .i64 7] from (qD _ _ _ (⟨15, 7⟩ : S27) )) (dI.none _ _))); intro YG w4 ho5 hb hg_ hnew_; clear hg_ hnew_; (rw [← S9.out] at ho5); replace lI := aa.mk (Kd.gL (nU lI.out) (Kd.eO ho5) hb); have qY := aa.mk (Kd.eU (Kd.xz (M := fun k_ => (w.heap.size ≤ k_)) ho5 (ay (by exact HB.out)) (fun k_ h_ => h_)) (ay (by exact HB.out))); replace kE := aa.mk (ak (bU kE.out) hb); replace HB := aa.mk (az (by exact HB.out) hb); clear hb ho5) | ((with_reducible refine bS (N := 5) rfl ?_); refine Kd.uQ k27 _ 27 ?hg (N := 5) ?hd (xs := ([(⟨15, 3⟩ : S27)] : List (S27))) (inner := [.int .i64 15, .int .i64 3]) (ok := fun _ => True) (okp := fun _ => True) ?hr ?hp (fun _ hk => hk) trivial (Below.refl _ _) (Nat.le_refl _) (by simp) ?_; (case hd => rfl); (case hg => rfl); (case hr => (go_simp; done)); (case hp => exact (dI.c2 (show Kd.M k27 _ _ _ (⟨15, 3⟩ : S27) [.int .i64 15, .int .i64 3] from (qD _ _ _ (⟨15, 3⟩ : S27) )) (dI.none _ _))); intro YQ w6 ho7 hb hg_ hnew_; clear hg_ hnew_; (rw [← Qx.out] at ho7); replace lI := aa.mk (Kd.gL (nU lI.out) (Kd.eO ho7) hb); have xx := aa.mk (Kd.eU (Kd.xL (Kd.xz (M := fun k_ => (w.heap.size ≤ k_)) ho7 (ay (by exact HB.out)) (fun k_ h_ => h_)) (Kd.xM (rU qY.out))) (ay (by exact HB.out))); replace qY := aa.mk (Kd.pR (rU qY.out) (Kd.eO ho7) hb); replace kE := aa.mk (ak (bU kE.out) hb); replace HB := aa.mk (az (by exact HB.out) hb); clear hb ho7) | ((with_reducible refine bS (N := 7) rfl ?_); refine Kd.uQ k27 _ 27 ?hg (N := 7) ?hd (xs := ([(⟨3, 0⟩ : S27)] : List (S27))) (inner := [.int .i64 3, .int .i64 0]) (ok := fun _ => True) (okp := fun _ => True) ?hr ?hp (fun _ hk => hk) trivial (Below.refl _ _) (Nat.le_refl _) (by simp) ?_; (case hd => rfl); (case hg => rfl); (case hr => (go_simp; done)); (case hp => exact (dI.c2 (show Kd.M k27 _ _ _ (⟨3, 0⟩ : S27) [.int .i64 3, .int .i64 0] from (qD _ _ _ (⟨3, 0⟩ : S27) )) (dI.none _ _))); intro YI w8 ho9 hb hg_ hnew_; clear hg_ hnew_; (rw [← RN.out] at ho9); replace lI := aa.mk (Kd.gL (nU lI.out) (Kd.eO ho9) hb); have DZ := aa.mk (Kd.eU (Kd.xL (Kd.xL (Kd.xz (M := fun k_ => (w.heap.size ≤ k_)) ho9 (ay (by exact HB.out)) (fun k_ h_ => h_)) (Kd.xM (rU qY.out))) (Kd.xM (rU xx.out))) (ay (by exact HB.out))); replace qY := aa.mk (Kd.pR (rU qY.out) (Kd.eO ho9) hb); replace xx := aa.mk (Kd.pR (rU xx.out) (Kd.eO ho9) hb); replace kE := aa.mk (ak (bU kE.out) hb); replace HB := aa.mk (az (by exact HB.out) hb); clear hb ho9; obtain ⟨kR, kH, GU⟩ := Kd.dB qY.out; subst GU; obtain ⟨Ru, QP, VB⟩ := Kd.dB xx.out; subst VB; obtain ⟨Sj, QB, WI⟩ := Kd.dB DZ.out; subst WI) | ((with_reducible refine bS (N := 8) rfl ?_); refine Kd.Ng (Kd.slice 27 k27) _ 39 ?hg (N' := 8) ?hd (xs := ([Ap, CJ, Fq] : List (List (S27)))) (inner := [.slice kR Ap.length kH, .slice Ru CJ.length QP, .slice Sj Fq.length QB]) (ok := (fun k_ => (w.heap.size ≤ k_) ∧ some k_ ≠ (zR : Value).ownBlock ∧ k_ ≠ iQ)) (okp := (fun k_ => (w.heap.size ≤ k_) ∧ some k_ ≠ (zR : Value).ownBlock ∧ k_ ≠ iQ)) ?hr ?hp (fun _ hk => hk) ((show ∀ k_, w8.heap.size ≤ k_ → (fun k_ => (w.heap.size ≤ k_) ∧ some k_ ≠ (zR : Value).ownBlock ∧ k_ ≠ iQ) k_ from fun k_ hk => ⟨(Nat.le_trans (ay (by exact HB.out)) hk), Kd.jH (Kd.tq (nU lI.out)) k_ hk, Kd.wX (g := iQ) (o := .cells #[.slice none 0 0, .int .i64 0, .int .i64 0, .int .i64 0, .slice none 0 0] 25 (0, 0)) (bU kE.out) k_ hk⟩) _ (Nat.le_refl _)) (Below.refl _ _) (Nat.le_refl _) (by simp) ?_; (case hd => rfl); (case hg => rfl); (case hr => (go_simp; done)); (case hp => exact (dI.one (show Kd.FK (Kd.slice 27 k27) _ _ Ap [.slice kR Ap.length kH] from (Kd.ny (Kd.bF (Kd.dV (ok' := (fun k_ => (w.heap.size ≤ k_) ∧ some k_ ≠ (zR : Value).ownBlock ∧ k_ ≠ iQ)) (Kd.jy (Kd.aZ (qY.out) (Kd.bM lI.out) (by decide)) kE.out (by decide)) (fun k_ hk => ⟨hk.1.1.1.1.1, ⟨hk.1.2, hk.2⟩⟩))).2.1 (Kd.R_F (Kd.dV (ok' := (fun k_ => (w.heap.size ≤ k_) ∧ some k_ ≠ (zR : Value).ownBlock ∧ k_ ≠ iQ)) (Kd.jy (Kd.aZ (qY.out) (Kd.bM lI.out) (by decide)) kE.out (by decide)) (fun k_ hk => ⟨hk.1.1.1.1.1, ⟨hk.1.2, hk.2⟩⟩))))) (dI.one (show Kd.FK (Kd.slice 27 k27) _ _ CJ [.slice Ru CJ.length QP] from (Kd.ny (Kd.bF (Kd.dV (ok' := (fun k_ => (w.heap.size ≤ k_) ∧ some k_ ≠ (zR : Value).ownBlock ∧ k_ ≠ iQ)) (Kd.jy (Kd.aZ (xx.out) (Kd.bM lI.out) (by decide)) kE.out (by decide)) (fun k_ hk => ⟨hk.1.1.1.1.1, ⟨hk.1.2, hk.2⟩⟩))).2.1 (Kd.R_F (Kd.dV (ok' := (fun k_ => (w.heap.size ≤ k_) ∧ some k_ ≠ (zR : Value).ownBlock ∧ k_ ≠ iQ)) (Kd.jy (Kd.aZ (xx.out) (Kd.bM lI.out) (by decide)) kE.out (by decide)) (fun k_ hk => ⟨hk.1.1.1.1.1, ⟨hk.1.2, hk.2⟩⟩))))) (dI.one (show Kd.FK (Kd.slice 27 k27) _ _ Fq [.slice Sj Fq.length QB] from (Kd.ny (Kd.bF (Kd.dV (ok' := (fun k_ => (w.heap.size ≤ k_) ∧ some k_ ≠ (zR : Value).ownBlock ∧ k_ ≠ iQ)) (Kd.jy (Kd.aZ (DZ.out) (Kd.bM lI.out) (by decide)) kE.out (by decide)) (fun k_ hk => ⟨hk.1.1.1.1.1, ⟨hk.1.2, hk.2⟩⟩))).2.1 (Kd.R_F (Kd.dV (ok' := (fun k_ => (w.heap.size ≤ k_) ∧ some k_ ≠ (zR : Value).ownBlock ∧ k_ ≠ iQ)) (Kd.jy (Kd.aZ (DZ.out) (Kd.bM lI.out) (by decide)) kE.out (by decide)) (fun k_ hk => ⟨hk.1.1.1.1.1, ⟨hk.1.2, hk.2⟩⟩))))) (dI.none _ _))))); intro YP w13 Mi hb hg_ hnew_; clear hg_ hnew_; (rw [← Sl.out] at Mi); replace lI := aa.mk (Kd.gL (nU lI.out) (Kd.ko Mi) hb); have M7 := aa.mk (Kd.kU Mi (ay (by exact HB.out))); replace kE := aa.mk (ak (bU kE.out) hb); replace HB := aa.mk (az (by exact HB.out) hb); clear qY xx DZ hb Mi; obtain ⟨zL, zD, NM⟩ := Kd.lv M7.out; subst NM; obtain ⟨Cf, CK, WE⟩ := Kd.lv lI.out; subst WE; obtain ⟨JH, Ky, K8, UO, TN, LW, KZ, J2, UH, UD⟩ := cells5 kE.out))); refine bodyPost_ret (results_cell_row rfl _ _ iQ 25 #[.slice Cf qN.length CK, .int .i64 1, .int .i64 0, .int .i64 1, .slice zL Mc.length zD] (0, 0) _ rfl (by (with_reducible skip); refine bD (cs := #[.slice Cf qN.length CK, .int .i64 1, .int .i64 0, .int .i64 1, .slice none 0 0]) ?_ 4 _ rfl; (with_reducible skip); refine bD (cs := #[.slice Cf qN.length CK, .int .i64 1, .int .i64 0, .int .i64 0, .slice none 0 0]) ?_ 3 _ rfl; (with_reducible skip); refine bD (cs := #[.slice Cf qN.length CK, .int .i64 1, .int .i64 0, .int .i64 0, .slice none 0 0]) ?_ 2 _ rfl; (with_reducible skip); refine bD (cs := #[.slice Cf qN.length CK, .int .i64 0, .int .i64 0, .int .i64 0, .slice none 0 0]) ?_ 1 _ rfl; (with_reducible skip); refine bD (cs := #[.slice none 0 0, .int .i64 0, .int .i64 0, .int .i64 0, .slice none 0 0]) ?_ 0 _ rfl; (with_reducible skip); exact kE.out) Try.underlying25 rfl (by kernel_rfl)) rfl ?_; exact ⟨_, _, by rfl, by (with_reducible skip); exact Kd.eP (Kd.ik (p := ⟨iQ, 4, none⟩) (Kd.ik (p := ⟨iQ, 3, none⟩) (Kd.ik (p := ⟨iQ, 2, none⟩) (Kd.ik (p := ⟨iQ, 1, none⟩) (Kd.ik (p := ⟨iQ, 0, none⟩) (Kd.eP lI.out (fun k_ hk => (⟨hk, hk.1.1.1.1.2⟩ : _ ∧ k_ ≠ iQ))) (fun _ hk => hk.2) (.slice Cf qN.length CK)) (fun _ hk => hk.2) (.int .i64 1)) (fun _ hk => hk.2) (.int .i64 0)) (fun _ hk => hk.2) (.int .i64 1)) (fun _ hk => hk.2) (.slice zL Mc.length zD)) (fun _ hk => ⟨hk.1.1.1.1.1.1, hk.1.2⟩), by (with_reducible skip); exact Kd.eP (Kd.ik (p := ⟨iQ, 4, none⟩) (Kd.ik (p := ⟨iQ, 3, none⟩) (Kd.ik (p := ⟨iQ, 2, none⟩) (Kd.ik (p := ⟨iQ, 1, none⟩) (Kd.ik (p := ⟨iQ, 0, none⟩) (Kd.eP M7.out (fun k_ hk => (⟨hk, hk.2.2⟩ : _ ∧ k_ ≠ iQ))) (fun _ hk => hk.2) (.slice Cf qN.length CK)) (fun _ hk => hk.2) (.int .i64 1)) (fun _ hk => hk.2) (.int .i64 0)) (fun _ hk => hk.2) (.int .i64 1)) (fun _ hk => hk.2) (.slice zL Mc.length zD)) (fun _ hk => ⟨hk.1.1, hk.1.2.1⟩), by repeat ((with_reducible first | exact HB.out | refine bK ?_ Qs.out))⟩
def gX.f (a0 : Int) (l1 : List (S27)) : Option ((List (S66)) × Int × Int × Int × (List (List (S27)))) := (dH.f).bind fun oh => (if 0 ≤ a0 then (if a0 < (oh.2.2.2.2.length : Int) then (some (oh.1, oh.2.1, oh.2.2.1, oh.2.2.2.1, (oh.2.2.2.2.set (a0 : Int).toNat l1))) else (none)) else (none))
set_option maxHeartbeats 8000000 in
set_option maxRecDepth 100000 in
theorem gX.calls (a0 : Int) (P1_ : Nat → Prop) (A1 : Option Addr) (c1 : Nat) (l1 : List (S27)) (r1 : List (S66)) (r2 : Int) (r3 : Int) (r4 : Int) (r5 : List (List (S27))) (w : World) (hs1 : Kd.V k27 27 w w.heap.size (fun k_ => P1_ k_) (.slice A1 l1.length c1) l1) (h : gX.f a0 l1 = some (r1, r2, r3, r4, r5)) :
 Calls Try.prog 49 #[.int .i64 a0, .slice A1 l1.length c1] w fun e w' => ∃ v0_ v4_ : Value, e = .returned (.agg #[v0_, .int .i64 r2, .int .i64 r3, .int .i64 r4, v4_]) ∧ Kd.N k66 66 w' w.heap.size (fun k_ => (P1_ k_ ∨ w.heap.size ≤ k_) ∧ some k_ ≠ (v4_ : Value).ownBlock) v0_ r1 ∧ Kd.N (Kd.slice 27 k27) 39 w' w.heap.size (fun k_ => (P1_ k_ ∨ w.heap.size ≤ k_) ∧ some k_ ≠ (v0_ : Value).ownBlock) v4_ r5 ∧ Below w.heap.size w w' := by
 have hu25 := Try.underlying25; have HO1 := aa.mk (show Kd.V k27 27 w w.heap.size (fun k_ => (P1_ k_ ∨ w.heap.size ≤ k_)) (.slice A1 l1.length c1) l1 from Kd.rH hs1 (fun k_ hk => .inl hk)); have HB := aa.mk (Below.refl w.heap.size w); have H : ((dH.f).bind fun oh => (if 0 ≤ a0 then (if a0 < (oh.2.2.2.2.length : Int) then (some (oh.1, oh.2.1, oh.2.2.1, oh.2.2.2.1, (oh.2.2.2.2.set (a0 : Int).toNat l1))) else (none)) else (none))) = some (r1, r2, r3, r4, r5) := h; clear h; replace H := Option.bind_eq_some_iff.mp H; obtain ⟨⟨ll, qO, tO, vM, lH⟩, A30, H⟩ := H; dsimp only at H; have A3 := aa.mk A30; clear A30; by_cases c4 : 0 ≤ a0
 ·rw [if_pos c4] at H; have uJ : decide (0 ≤ a0) = true := decide_eq_true c4; clear c4; by_cases c5 : a0 < (lH.length : Int)
  ·rw [if_pos c5] at H; have uB : decide (a0 < (lH.length : Int)) = true := decide_eq_true c5; clear c5; obtain ⟨Ri, Jd⟩ : ∃ y_ : List (List (S27)), y_ = (lH.set (a0 : Int).toNat l1) := ⟨_, rfl⟩; (replace H : (some (ll, qO, tO, vM, Ri)) = some (r1, r2, r3, r4, r5) := by (rw [Jd]; with_reducible exact H)); have Q0 := aa.mk Jd; clear Jd; simp only [Option.some.injEq, Prod.mk.injEq] at H; obtain ⟨rfl, rfl, rfl, rfl, rfl⟩ := H; go_enter Try.func49, Try.ntmps49; (go_wp2_with (first | ((with_reducible refine bS (N := 4) rfl ?_); refine bV ?hg (N := 4) ?hd (cs := #[.slice none 0 0, .int .i64 0, .int .i64 0, .int .i64 0, .slice none 0 0]) (t := 25) ?hr ?_; (case hd => rfl); (case hg => rfl); (case hr => (go_simp; done)); intro gz hg w7 hbox hb; replace HO1 := aa.mk (Kd.En (Kd.AL (vU HO1.out) gz (Nat.le_of_eq hg.symm)) hb); have mY := aa.mk (hbox); have XE := aa.mk ((by rw [hg]; exact (ay (by exact HB.out)) : w.heap.size ≤ gz)); have Tc := aa.mk ((by rw [hg]; exact (ay (by exact HB.out)) : w.heap.size ≤ gz)); replace HB := aa.mk (az (by exact HB.out) hb); clear hb hbox hg) | ((with_reducible refine bC (f := 48) rfl ?_); refine ed (some 6) rfl rfl Try.func48 (by kernel_rfl) rfl #[] rfl (by (simp only [List.map_toArray, List.map_cons, List.map_nil]); done) ?_; (with_reducible refine (dH.calls  ll qO tO vM lH _ A3.out).mono ?_); rintro e w8 ⟨VG, VQ, rfl, ho0, ho1, hb⟩; refine ⟨_, rfl, ?_⟩; replace HO1 := aa.mk (Kd.rH (Kd.H7 (Kd.H7 (Kd.Sn (vU HO1.out) hb) (Kd.ko ho0)) (Kd.ko ho1)) (fun _ h_ => h_.1)); have uS := aa.mk (Kd.kU (Kd.eP (ok' := fun k_ => (P1_ k_ ∨ w.heap.size ≤ k_) ∧ some k_ ≠ (VQ : Value).ownBlock ∧ k_ ≠ gz) ho0 (fun k_ hk_ => ⟨(.inr (Nat.le_trans (ay (by exact HB.out)) hk_.1)), hk_.2, (Kd.wX (g := gz) (o := .cells #[.slice none 0 0, .int .i64 0, .int .i64 0, .int .i64 0, .slice none 0 0] 25 (0, 0)) (bU mY.out) k_ hk_.1)⟩)) (ay (by exact HB.out))); have oW := aa.mk (Kd.kU (Kd.eP (ok' := fun k_ => (P1_ k_ ∨ w.heap.size ≤ k_) ∧ some k_ ≠ (VG : Value).ownBlock ∧ k_ ≠ gz) ho1 (fun k_ hk_ => ⟨(.inr (Nat.le_trans (ay (by exact HB.out)) hk_.1)), hk_.2, (Kd.wX (g := gz) (o := .cells #[.slice none 0 0, .int .i64 0, .int .i64 0, .int .i64 0, .slice none 0 0] 25 (0, 0)) (bU mY.out) k_ hk_.1)⟩)) (ay (by exact HB.out))); replace mY := aa.mk (ak (bU mY.out) hb); replace HB := aa.mk (az (by exact HB.out) hb); clear hb; clear ho0; (clear ho1)) | ((with_reducible refine bS (N := 5) rfl ?_); refine bV ?hg (N := 5) ?hd (cs := #[.slice none 0 0, .int .i64 0, .int .i64 0, .int .i64 0, .slice none 0 0]) (t := 25) ?hr ?_; (case hd => rfl); (case hg => rfl); (case hr => (go_simp; done)); intro fw hg w9 hbox hb; replace HO1 := aa.mk (Kd.En (Kd.AL (vU HO1.out) fw (Nat.le_of_eq hg.symm)) hb); replace uS := aa.mk (Kd.iC (Kd.BK (nU uS.out) fw (Nat.le_of_eq hg.symm)) hb); replace oW := aa.mk (Kd.iC (Kd.BK (nU oW.out) fw (Nat.le_of_eq hg.symm)) hb); have vJ := aa.mk (hbox); have XX := aa.mk ((by rw [hg]; exact (ay (by exact HB.out)) : w.heap.size ≤ fw)); have Rm := aa.mk ((by rw [hg]; exact (ay (by exact HB.out)) : w.heap.size ≤ fw)); replace HB := aa.mk (az (by exact HB.out) hb); have mo := aa.mk ((by rw [hg]; exact Nat.ne_of_lt (bf (g := gz) (o := .cells #[.slice none 0 0, .int .i64 0, .int .i64 0, .int .i64 0, .slice none 0 0] 25 (0, 0)) (bU mY.out)) : gz ≠ fw)); have Fx := aa.mk ((by rw [hg]; exact Nat.ne_of_gt (bf (g := gz) (o := .cells #[.slice none 0 0, .int .i64 0, .int .i64 0, .int .i64 0, .slice none 0 0] 25 (0, 0)) (bU mY.out)) : fw ≠ gz)); replace mY := aa.mk (ak (bU mY.out) hb); clear hb hbox hg; obtain ⟨kR, kH, GU⟩ := Kd.lv uS.out; subst GU; have Sd := Fx.out; have RF := mo.out; obtain ⟨wB, vP, zu, J6, J3, vX, wh, zg, Jp, Mh⟩ := cells5 vJ.out; obtain ⟨Bb, pJ, Wh⟩ := Kd.lv oW.out; subst Wh) | ((with_reducible refine yn (t := 25) (p := 5) rfl ?_); refine uU (t := 25) (p := 5) (v := ?vo_w14) (w1 := (((((w9.setCell ⟨fw, 0, none⟩ (.slice kR ll.length kH)).setCell ⟨fw, 1, none⟩ (.int .i64 qO)).setCell ⟨fw, 2, none⟩ (.int .i64 tO)).setCell ⟨fw, 3, none⟩ (.int .i64 vM)).setCell ⟨fw, 4, none⟩ (.slice Bb lH.length pJ))) ?hg ?ho ?hn ?hr ?_; (case ho => rfl); (case hg => rfl); (case hn => rfl); (case hr => (go_simp; done)); intro w14 hw; replace HO1 : aa (Kd.V k27 27 w14 w.heap.size (fun k_ => (P1_ k_ ∨ w.heap.size ≤ k_) ∧ some k_ ≠ (.slice kR ll.length kH : Value).ownBlock ∧ some k_ ≠ (.slice Bb lH.length pJ : Value).ownBlock ∧ k_ ≠ gz ∧ k_ ≠ fw) (.slice A1 l1.length c1) l1) := ⟨(by rw [hw]; exact (vU (Kd.rH (Kd.Bf (p := ⟨fw, 4, none⟩) (Kd.Bf (p := ⟨fw, 3, none⟩) (Kd.Bf (p := ⟨fw, 2, none⟩) (Kd.Bf (p := ⟨fw, 1, none⟩) (Kd.Bf (p := ⟨fw, 0, none⟩) (Kd.rH HO1.out (fun k_ hk => (⟨hk, hk.2⟩ : _ ∧ k_ ≠ fw))) (fun _ hk => hk.2) (.slice kR ll.length kH)) (fun _ hk => hk.2) (.int .i64 qO)) (fun _ hk => hk.2) (.int .i64 tO)) (fun _ hk => hk.2) (.int .i64 vM)) (fun _ hk => hk.2) (.slice Bb lH.length pJ)) (fun _ hk => ⟨hk.1.1.1.1.1, ⟨hk.1.1.1.2, ⟨hk.1.1.2, ⟨hk.1.1.1.1.2, hk.1.2⟩⟩⟩⟩))))⟩; replace uS : aa (Kd.N k66 66 w14 w.heap.size (fun k_ => (P1_ k_ ∨ w.heap.size ≤ k_) ∧ some k_ ≠ (.slice Bb lH.length pJ : Value).ownBlock ∧ k_ ≠ gz ∧ k_ ≠ fw) (.slice kR ll.length kH) ll) := ⟨(by rw [hw]; exact (nU (Kd.eP (Kd.ik (p := ⟨fw, 4, none⟩) (Kd.ik (p := ⟨fw, 3, none⟩) (Kd.ik (p := ⟨fw, 2, none⟩) (Kd.ik (p := ⟨fw, 1, none⟩) (Kd.ik (p := ⟨fw, 0, none⟩) (Kd.eP uS.out (fun k_ hk => (⟨hk, hk.2⟩ : _ ∧ k_ ≠ fw))) (fun _ hk => hk.2) (.slice kR ll.length kH)) (fun _ hk => hk.2) (.int .i64 qO)) (fun _ hk => hk.2) (.int .i64 tO)) (fun _ hk => hk.2) (.int .i64 vM)) (fun _ hk => hk.2) (.slice Bb lH.length pJ)) (fun _ hk => ⟨hk.1.1.1, ⟨hk.1.1.2.1, ⟨hk.1.1.2.2, hk.1.2⟩⟩⟩))))⟩; replace oW : aa (Kd.N (Kd.slice 27 k27) 39 w14 w.heap.size (fun k_ => (P1_ k_ ∨ w.heap.size ≤ k_) ∧ some k_ ≠ (.slice kR ll.length kH : Value).ownBlock ∧ k_ ≠ gz ∧ k_ ≠ fw) (.slice Bb lH.length pJ) lH) := ⟨(by rw [hw]; exact (nU (Kd.eP (Kd.ik (p := ⟨fw, 4, none⟩) (Kd.ik (p := ⟨fw, 3, none⟩) (Kd.ik (p := ⟨fw, 2, none⟩) (Kd.ik (p := ⟨fw, 1, none⟩) (Kd.ik (p := ⟨fw, 0, none⟩) (Kd.eP oW.out (fun k_ hk => (⟨hk, hk.2⟩ : _ ∧ k_ ≠ fw))) (fun _ hk => hk.2) (.slice kR ll.length kH)) (fun _ hk => hk.2) (.int .i64 qO)) (fun _ hk => hk.2) (.int .i64 tO)) (fun _ hk => hk.2) (.int .i64 vM)) (fun _ hk => hk.2) (.slice Bb lH.length pJ)) (fun _ hk => ⟨hk.1.1.1, ⟨hk.1.1.2.1, ⟨hk.1.1.2.2, hk.1.2⟩⟩⟩))))⟩; replace mY : aa (w14.heap[gz]? = some (.cells #[.slice none 0 0, .int .i64 0, .int .i64 0, .int .i64 0, .slice none 0 0] 25 (0, 0))) := ⟨(by rw [hw]; exact (by (with_reducible skip); refine aM ?_ mo.out _; (with_reducible skip); refine aM ?_ mo.out _; (with_reducible skip); refine aM ?_ mo.out _; (with_reducible skip); refine aM ?_ mo.out _; (with_reducible skip); refine aM ?_ mo.out _; (with_reducible skip); exact mY.out))⟩; replace vJ : aa (w14.heap[fw]? = some (.cells #[.slice kR ll.length kH, .int .i64 qO, .int .i64 tO, .int .i64 vM, .slice Bb lH.length pJ] 25 (0, 0))) := ⟨(by rw [hw]; exact (by (with_reducible skip); refine bD (cs := #[.slice kR ll.length kH, .int .i64 qO, .int .i64 tO, .int .i64 vM, .slice none 0 0]) ?_ 4 _ rfl; (with_reducible skip); refine bD (cs := #[.slice kR ll.length kH, .int .i64 qO, .int .i64 tO, .int .i64 0, .slice none 0 0]) ?_ 3 _ rfl; (with_reducible skip); refine bD (cs := #[.slice kR ll.length kH, .int .i64 qO, .int .i64 0, .int .i64 0, .slice none 0 0]) ?_ 2 _ rfl; (with_reducible skip); refine bD (cs := #[.slice kR ll.length kH, .int .i64 0, .int .i64 0, .int .i64 0, .slice none 0 0]) ?_ 1 _ rfl; (with_reducible skip); refine bD (cs := #[.slice none 0 0, .int .i64 0, .int .i64 0, .int .i64 0, .slice none 0 0]) ?_ 0 _ rfl; (with_reducible skip); exact vJ.out))⟩; replace HB : aa (Below w.heap.size w w14) := ⟨(by rw [hw]; exact (by repeat ((with_reducible first | exact HB.out | refine bK ?_ Rm.out))))⟩; clear hw; obtain ⟨Mt, Mx, Ms, UF, UI, JD, JA, Jq, Vk, TV⟩ := cells5 vJ.out; have p6 : 0 ≤ (a0 : Int) := of_decide_eq_true (by with_reducible assumption); have q6 : (a0 : Int) < ((lH.length : Int) : Int) := of_decide_eq_true (by with_reducible assumption); obtain ⟨go6, co6, eo6, gb6, gl6, cl6, HG6⟩ := Kd.NP oW.out (by omega); (cases eo6); have GB6 := aa.mk gb6; have GG6 := aa.mk HG6; clear gb6 gl6 HG6; obtain ⟨ce6, hcl6, hM6, Tf, hfr6⟩ := Kd.IP oW.out [] (a0 : Int) p6 q6; obtain ⟨Xd, Xf, rfl, Yi, Xp⟩ := Kd.qZ hM6; have RQ := Tf 0 _ rfl; have hf6_0 := hfr6 0; (simp only [show ((Kd.slice 27 k27)).sz = 1 from rfl, Nat.mul_one, Nat.add_zero] at RQ); (simp only [show ((Kd.slice 27 k27)).sz = 1 from rfl, Nat.mul_one, Nat.add_zero] at hf6_0); clear hcl6 Tf hfr6 hM6; replace p6 := eq_true p6; replace q6 := eq_true q6; have HX16 := aa.mk (show Kd.N (Kd.slice 27 k27) 39 w14 w.heap.size (fun k_ => (P1_ k_ ∨ w.heap.size ≤ k_) ∧ some k_ ≠ (.slice kR ll.length kH : Value).ownBlock ∧ k_ ≠ gz ∧ k_ ≠ fw) (.slice (some ⟨go6, 0, none⟩) lH.length pJ) lH from (nU oW.out)); obtain ⟨ce16, hcl16, hM16, GR, hfr16⟩ := Kd.IP HX16.out [] (a0 : Int) (of_decide_eq_true (by with_reducible assumption)) (by have h_ : (a0 : Int) < ((lH.length : Int) : Int) := of_decide_eq_true (by with_reducible assumption); exact h_); obtain ⟨VN, Ws, rfl, VE, VY⟩ := Kd.qZ hM16; have HP16 := Kd.Re HX16.out (a0 : Int) (of_decide_eq_true (by with_reducible assumption)) (by have h_ : (a0 : Int) < ((lH.length : Int) : Int) := of_decide_eq_true (by with_reducible assumption); exact h_) (seg := [.slice A1 l1.length c1]) (j := 0) hcl16 GR (show 1 ≤ 1 from by decide) (x' := l1) (Kd.ny (Kd.Iq (Kd.rH (ok' := (fun k_ => ((fun k_ => (P1_ k_ ∨ w.heap.size ≤ k_) ∧ some k_ ≠ (.slice kR ll.length kH : Value).ownBlock ∧ k_ ≠ gz ∧ k_ ≠ fw)) k_ ∧ k_ ≠ go6)) (HO1.out) (fun k_ hk => ⟨⟨hk.1, ⟨hk.2.1, ⟨hk.2.2.2.1, hk.2.2.2.2⟩⟩⟩, fun e_ => (hk.2.2.1) (by rw [e_]; rfl)⟩))).2.1 (Kd.V_F (Kd.rH (ok' := (fun k_ => ((fun k_ => (P1_ k_ ∨ w.heap.size ≤ k_) ∧ some k_ ≠ (.slice kR ll.length kH : Value).ownBlock ∧ k_ ≠ gz ∧ k_ ≠ fw)) k_ ∧ k_ ≠ go6)) (HO1.out) (fun k_ hk => ⟨⟨hk.1, ⟨hk.2.1, ⟨hk.2.2.2.1, hk.2.2.2.2⟩⟩⟩, fun e_ => (hk.2.2.1) (by rw [e_]; rfl)⟩)))) (fun _ hk => hk); have NQ := GR 0 _ rfl; (simp only [show ((Kd.slice 27 k27)).sz = 1 from rfl, Nat.mul_one, Nat.add_zero] at NQ); have hf16_0 := hfr16 0; (simp only [show ((Kd.slice 27 k27)).sz = 1 from rfl, Nat.mul_one, Nat.add_zero] at hf16_0); clear hcl16 GR hfr16 hM16; (simp only [show ((Kd.slice 27 k27)).sz = 1 from rfl, Nat.mul_one, Nat.add_zero] at HP16)) | ((with_reducible refine yn (t := 39) (p := 11) rfl ?_); refine uU (t := 39) (p := 11) (v := ?vo_w17) (w1 := (w14.setCell ⟨go6, (a0 : Int).toNat, none⟩ (.slice A1 l1.length c1))) ?hg ?ho ?hn ?hr ?_; (case ho => rfl); (case hg => rfl); (case hn => rfl); (case hr => (go_simp; done)); intro w17 hw; have hg : w14.grownBy w17 (some go6) := (by rw [hw]; exact HP16.2); have hp_ : Kd.N (Kd.slice 27 k27) 39 w17 w.heap.size (fun k_ => (P1_ k_ ∨ w.heap.size ≤ k_) ∧ some k_ ≠ (.slice kR ll.length kH : Value).ownBlock ∧ k_ ≠ gz ∧ k_ ≠ fw) (.slice (some ⟨go6, 0, none⟩) lH.length pJ) Ri := (by rw [hw, Q0.out]; exact HP16.1); clear HP16; replace HO1 := aa.mk (Kd.I9 (v := (.slice (some ⟨go6, 0, none⟩) lH.length pJ)) (v1 := (.slice (some ⟨go6, 0, none⟩) lH.length pJ)) (ok := (fun k_ => (P1_ k_ ∨ w.heap.size ≤ k_) ∧ some k_ ≠ (.slice kR ll.length kH : Value).ownBlock ∧ k_ ≠ gz ∧ k_ ≠ fw)) (vU (Kd.rH HO1.out (fun _ hk => ⟨⟨hk.1, ⟨hk.2.1, ⟨hk.2.2.2.1, hk.2.2.2.2⟩⟩⟩, hk.2.2.1⟩))) hg (.inl rfl)); replace mY := aa.mk (aU (bU mY.out) hg (Kd.PH oW.out mY.out (by decide))); replace uS := aa.mk (Kd.H9 (v := (.slice (some ⟨go6, 0, none⟩) lH.length pJ)) (v1 := (.slice (some ⟨go6, 0, none⟩) lH.length pJ)) (ok := (fun k_ => (P1_ k_ ∨ w.heap.size ≤ k_) ∧ k_ ≠ gz ∧ k_ ≠ fw)) (nU (Kd.eP uS.out (fun _ hk => ⟨⟨hk.1, ⟨hk.2.2.1, hk.2.2.2⟩⟩, hk.2.1⟩))) hg (.inl rfl)); replace vJ := aa.mk (aU (bU vJ.out) hg (Kd.PH oW.out vJ.out (by decide))); replace oW := aa.mk (hp_); replace HB := aa.mk ((by rw [hw]; exact bK (HB.out) GB6.out : Below w.heap.size w w17)); clear hg hw hp_; obtain ⟨D7, Eh, D6, Em, Ex, EN, Eb, El, Eg, DY⟩ := cells5 vJ.out; obtain ⟨Ld, JO, Kl, Jj, LK, Ml, Lm, Kv, Jv, J9⟩ := cells5 mY.out))); refine bodyPost_ret (results_cell_row rfl _ _ gz 25 #[.slice kR ll.length kH, .int .i64 qO, .int .i64 tO, .int .i64 vM, .slice (some ⟨go6, 0, none⟩) lH.length pJ] (0, 0) _ rfl (by (with_reducible skip); refine bD (cs := #[.slice kR ll.length kH, .int .i64 qO, .int .i64 tO, .int .i64 vM, .slice none 0 0]) ?_ 4 _ rfl; (with_reducible skip); refine bD (cs := #[.slice kR ll.length kH, .int .i64 qO, .int .i64 tO, .int .i64 0, .slice none 0 0]) ?_ 3 _ rfl; (with_reducible skip); refine bD (cs := #[.slice kR ll.length kH, .int .i64 qO, .int .i64 0, .int .i64 0, .slice none 0 0]) ?_ 2 _ rfl; (with_reducible skip); refine bD (cs := #[.slice kR ll.length kH, .int .i64 0, .int .i64 0, .int .i64 0, .slice none 0 0]) ?_ 1 _ rfl; (with_reducible skip); refine bD (cs := #[.slice none 0 0, .int .i64 0, .int .i64 0, .int .i64 0, .slice none 0 0]) ?_ 0 _ rfl; (with_reducible skip); exact mY.out) Try.underlying25 rfl (by kernel_rfl)) rfl ?_; exact ⟨_, _, by rfl, by (with_reducible skip); exact Kd.eP (Kd.ik (p := ⟨gz, 4, none⟩) (Kd.ik (p := ⟨gz, 3, none⟩) (Kd.ik (p := ⟨gz, 2, none⟩) (Kd.ik (p := ⟨gz, 1, none⟩) (Kd.ik (p := ⟨gz, 0, none⟩) (Kd.eP uS.out (fun k_ hk => (⟨hk, hk.1.2.1⟩ : _ ∧ k_ ≠ gz))) (fun _ hk => hk.2) (.slice kR ll.length kH)) (fun _ hk => hk.2) (.int .i64 qO)) (fun _ hk => hk.2) (.int .i64 tO)) (fun _ hk => hk.2) (.int .i64 vM)) (fun _ hk => hk.2) (.slice (some ⟨go6, 0, none⟩) lH.length pJ)) (fun _ hk => ⟨hk.1.1.1, hk.1.2⟩), by (with_reducible skip); exact Kd.eP (Kd.ik (p := ⟨gz, 4, none⟩) (Kd.ik (p := ⟨gz, 3, none⟩) (Kd.ik (p := ⟨gz, 2, none⟩) (Kd.ik (p := ⟨gz, 1, none⟩) (Kd.ik (p := ⟨gz, 0, none⟩) (Kd.eP oW.out (fun k_ hk => (⟨hk, hk.2.2.1⟩ : _ ∧ k_ ≠ gz))) (fun _ hk => hk.2) (.slice kR ll.length kH)) (fun _ hk => hk.2) (.int .i64 qO)) (fun _ hk => hk.2) (.int .i64 tO)) (fun _ hk => hk.2) (.int .i64 vM)) (fun _ hk => hk.2) (.slice (some ⟨go6, 0, none⟩) lH.length pJ)) (fun _ hk => ⟨hk.1.1, hk.1.2.1⟩), by repeat ((with_reducible first | exact HB.out | refine bK ?_ Tc.out))⟩
  ·rw [if_neg c5] at H; exact absurd H (by simp)
 ·rw [if_neg c4] at H; exact absurd H (by simp)
end Go.Proofs.Ytihedeofkhapiaa.Pr
end
