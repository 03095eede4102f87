/- Part 31 of 34 of the proof of: SightAll: for every slice of numbers, the law returns true: of a slim line made of them, the letters and hands that the program tells are just those of the truths found by going through all choices, and its marks are the fewest of any truth; no condition beyond the statement's own. -/
import Derived.RangeFuncBox
import Derived.Maps.AppendAt
import Derived.Maps.OwnIn
import Derived.Maps.RangeWalk
import Derived.Sort.KeysCollected
import Derived.Laws.MakeOwn
import Derived.Laws.OwnMore
import Derived.Sort.CutIn
import Derived.Sort.LoopGhostIn
import Derived.Test.YtihedeofkhapiaaSA5
import Derived.Test.YtihedeofkhapiaaSA21
import Derived.Test.YtihedeofkhapiaaSA22
import Derived.Test.YtihedeofkhapiaaSA23
import Derived.Test.YtihedeofkhapiaaSA28
import Derived.Test.YtihedeofkhapiaaSA29
import Derived.Test.YtihedeofkhapiaaSA30
set_option linter.unusedVariables false
set_option linter.unusedSectionVars false
set_option linter.unusedSimpArgs false
section
namespace Go.Proofs.Ytihedeofkhapiaa.Pr
open Go.RowKit Go.Shelf Go.Proofs.YtihedeofkhapiaaW.PrintWords Go.Proofs.YtihedeofkhapiaaW.PrintLast Go.Proofs.YtihedeofkhapiaaW.PrintMore
attribute [local go_sem] Oper.semAt_some
def yG (gs gl a1 a2 a3 : Int) (l0 : List S66) (l4 : List (List S27)) (i x k : Nat) : Bool :=
 let m := bP a1 a2 l0 l4 x
 let st := dZ gs gl m (aX l0 (x : Int)).f1 l4.length
 ug gs gl i (bn (aX l0 (x : Int)).f1 (k : Int)) && decide (m.getD (i * 8 + k) 0 < 1048576) && decide (wrap64 (wrap64 (st.2 - st.1.getD i 0) + m.getD (i * 8 + k) 0) ≤ a3)
def jX (gs gl a1 a2 a3 : Int) (l0 : List S66) (l4 : List (List S27)) (i x : Nat) : Nat → Int → Bool
 | 0, _ => false
 | k + 1, c => jX gs gl a1 a2 a3 l0 l4 i x k c || (yG gs gl a1 a2 a3 l0 l4 i x k && (c == (bn (aX l0 (x : Int)).f1 (k : Int)).f0))
def jU (gs gl a1 a2 a3 : Int) (l0 : List S66) (l4 : List (List S27)) (i : Nat) (pre : List (Fin l0.length)) (c : Int) : Bool :=
 pre.any fun x => jX gs gl a1 a2 a3 l0 l4 i x.1 (aX l0 (x.1 : Int)).f1.length c
def dN (gs gl a1 a2 a3 : Int) (l0 : List S66) (l4 : List (List S27)) (i : Nat) : List Int :=
 ((List.range 256).map Int.ofNat).filter (jU gs gl a1 a2 a3 l0 l4 i (List.finRange l0.length))
def dW (gs gl a1 a2 a3 : Int) (l0 : List S66) (l4 : List (List S27)) : List (List Int) := (List.range l4.length).map (dN gs gl a1 a2 a3 l0 l4)
def eu.f (dU : Int) (aH : Int) (fK : List (S66)) (gM : Int) (gQ : Int) (jh : Int) (dA : List (List (S27))) : Option ((List (List Int))) :=
 if jl fK gM gQ jh dA = 0 then some (dW dU aH gM gQ jh fK dA) else none
theorem yF (gs gl a1 a2 a3 : Int) (l0 : List S66) (l4 : List (List S27)) : ∀ l ∈ dW gs gl a1 a2 a3 l0 l4, l.length ≤ 256 := fun l hl => by
 obtain ⟨i, _, rfl⟩ := List.mem_map.1 hl; exact Nat.le_trans (List.length_filter_le _ _) (by simp)
theorem qw : ∀ {p : Option Int} {l : List S86}, kT p l = 0 → ∀ s ∈ l, 65 ≤ s.f0 ∧ s.f0 ≤ 90
 | _, [], _, s, hs => by cases hs
 | p, s :: r, h, t, ht => by
  simp only [kT] at h; by_cases h1 : s.f0 < 65 ∨ s.f0 > 90
  ·rw [if_pos h1] at h; cases h
  ·rw [if_neg h1] at h; by_cases h2 : inP s.f1 1 1023 = true
   ·rw [if_pos h2] at h; by_cases h3 : ∃ q, p = some q ∧ s.f0 ≤ q
    ·rw [if_pos h3] at h; cases h
    ·rw [if_neg h3] at h; rcases List.mem_cons.1 ht with rfl | ht
     ·omega
     ·exact qw h t ht
   ·rw [if_neg h2] at h; cases h
theorem zM {l0 : List S66} (h : kI l0 = 0) (x k : Nat) (hx : x < l0.length) (hk : k < (aX l0 (x : Int)).f1.length) : 65 ≤ (bn (aX l0 (x : Int)).f1 (k : Int)).f0 ∧ (bn (aX l0 (x : Int)).f1 (k : Int)).f0 ≤ 90 := by
 have h1 := zf h (aX l0 (x : Int)) (by rw [FE, List.getD_eq_getElem?_getD, List.getElem?_eq_getElem hx]; exact List.getElem_mem _); have h2 := (vB h1).2.2.2.2.2; refine qw h2 _ ?_; rw [Dj, List.getD_eq_getElem?_getD, List.getElem?_eq_getElem hk]; exact List.getElem_mem _
def kP (W : World) (b : Nat) (S : Int → Bool) (N : Nat) : Prop := ∃ (D : DataW Unit) (nn : Nat), W.ownsMap Try.prog 5 (plainElem Try.prog 4) b nn D ∧ nn ≤ N ∧ ∀ c, Maps.has D (.int .u8 c) = S c
theorem kP.kept {W W' : World} {b : Nat} {S : Int → Bool} {N : Nat} (h : kP W b S N) {row : Option Nat} (hg : W.grownBy W' row) (hb : row ≠ some b) : kP W' b S N := by
 obtain ⟨D, nn, h1, h2⟩ := h; exact ⟨D, nn, h1.kept hg (fun e => hb e.symm), h2⟩
theorem kP.lt {W : World} {b : Nat} {S : Int → Bool} {N : Nat} (h : kP W b S N) : b < W.heap.size := by
 obtain ⟨D, nn, h1, h2⟩ := h; exact h1.lt
theorem kP.below {W W' : World} {b : Nat} {S : Int → Bool} {N : Nat} (h : kP W b S N) (hb : Below W.heap.size W W') : kP W' b S N := h.kept (gp hb none) (by simp)
theorem kP.more {W : World} {b : Nat} {S : Int → Bool} {N N' : Nat} (h : kP W b S N) (hn : N ≤ N') : kP W b S N' := by
 obtain ⟨D, nn, h1, h2, h3⟩ := h; exact ⟨D, nn, h1, Nat.le_trans h2 hn, h3⟩
theorem kP.put {D : DataW Unit} {W : World} {b nn N : Nat} {S : Int → Bool} {c : Int} {D0 : DataW Unit} (h : W.ownsMap Try.prog 5 (plainElem Try.prog 4) b nn (D0.put (.int .u8 c) D)) (hD : Maps.IsMap D0) (hn : nn ≤ N) (hs : ∀ c, Maps.has D0 (.int .u8 c) = S c) : kP W b (fun x => S x || x == c) N := by
 refine ⟨_, nn, h, hn, fun x => ?_⟩; by_cases hx : x = c
 ·subst hx; rw [Maps.has_put_same (k := .int .u8 x) hD trivial]; simp
 ·rw [Maps.has_put_other (by simpa using hx), hs x]; simp [hx]
theorem kP.congr {W : World} {b N : Nat} {S S' : Int → Bool} (h : kP W b S N) (he : ∀ c, S c = S' c) : kP W b S' N := by
 obtain ⟨D, nn, h1, h2, h3⟩ := h; exact ⟨D, nn, h1, h2, fun c => (h3 c).trans (he c)⟩
def sS (S : Int → Bool) (left : Lit → Bool) (ss : List Int) : Prop := ss.Nodup ∧ (∀ x, x ∈ ss ↔ (S x = true ∧ left (.int .u8 x) = false)) ∧ ∀ x ∈ ss, 0 ≤ x ∧ x < 256
theorem wf_u8 {x : Int} : (Lit.int .u8 x).wf = true ↔ 0 ≤ x ∧ x < 256 := by
 have e1 : IntKind.u8.min = 0 := rfl; have e2 : IntKind.u8.max = 255 := rfl; simp only [Lit.wf, e1, e2]; simp; omega
theorem sS.start {D : DataW Unit} {S : Int → Bool} (h : ∀ c, Maps.has D (.int .u8 c) = S c) : sS S (Maps.has D) [] := ⟨List.nodup_nil, fun x => by rw [h x]; cases S x <;> simp, fun x hx => by cases hx⟩
theorem sS.step {S : Int → Bool} {left : Lit → Bool} {ss : List Int} (h : sS S left ss) {x : Int} (hl : left (.int .u8 x) = true) (hs : S x = true) (hw : 0 ≤ x ∧ x < 256) : sS S (fun z => left z && !z.sameKey (.int .u8 x)) (ss ++ [x]) := by
 (have hnew : x ∉ ss := fun hx => by have := ((h.2.1 x).1 hx).2; rw [hl] at this; cases this); refine ⟨List.nodup_append.2 ⟨h.1, by simp, fun a ha b hb => by simp at hb; subst hb; exact fun e => hnew (e ▸ ha)⟩, fun y => ?_, fun y hy => ?_⟩
 ·by_cases hy : y = x
  ·subst hy; simp [hs, Lit.sameKey]
  ·simp [h.2.1 y, hy, Lit.sameKey]
 ·rcases List.mem_append.1 hy with hy | hy
  ·exact h.2.2 y hy
  ·simp at hy; subst hy; exact hw
theorem sS.perm {gs gl a1 a2 a3 : Int} {l0 : List S66} {l4 : List (List S27)} {i : Nat} {left : Lit → Bool} {ss : List Int} (h : sS (jU gs gl a1 a2 a3 l0 l4 i (List.finRange l0.length)) left ss) (hl : ∀ kl, left kl = false) : (dN gs gl a1 a2 a3 l0 l4 i).Perm ss := by
 have hnd : ((List.range 256).map Int.ofNat).Nodup := by
  refine List.pairwise_map.2 (List.nodup_range.imp fun hne e => hne ?_); exact Int.ofNat.inj e
 (refine (List.perm_ext_iff_of_nodup (hnd.filter _) h.1).2 fun x => ?_); rw [List.mem_filter, h.2.1 x]; constructor
 ·rintro ⟨_, h2⟩; exact ⟨h2, hl _⟩
 ·rintro ⟨h1, h2⟩; have := h.2.2 x ((h.2.1 x).2 ⟨h1, h2⟩); exact ⟨List.mem_map.2 ⟨x.toNat, by simp; omega, by simp; omega⟩, h1⟩
theorem xB (gs gl a1 a2 a3 : Int) (l0 : List S66) (l4 : List (List S27)) (i : Nat) : (dN gs gl a1 a2 a3 l0 l4 i).Pairwise (· ≤ ·) := by
 refine List.Pairwise.filter _ (List.pairwise_map.2 (List.pairwise_le_range.imp fun h => ?_)); exact Int.ofNat_le.2 h
theorem H6 {key : Value} {kl : Lit} (h : keyOf Try.prog 5 key = some kl) : ∃ x : Int, key = .int .u8 x ∧ kl = .int .u8 x ∧ (Lit.int .u8 x).wf = true := Maps.keyOf_int_inv Try.underlying5 h
theorem Ov {W : World} {g : Nat} {v : Int} (h : W.cell? ⟨g, 0, none⟩ = some (.int .u8 v)) : Kd.C (Kd.int .u8) W (some ⟨g, 0, none⟩) 1 [v] := by
 refine ⟨rfl, by simp, fun _ => ⟨_, rfl, fun j p hp => ?_⟩⟩
 cases j with
 | zero =>
  simp at hp; subst hp; refine ⟨[.int .u8 v], rfl, rfl, fun i u hu => ?_⟩
  cases i with
  | zero =>
   simp at hu; subst hu; exact h
  | succ i => simp at hu
 | succ j => simp at hp
theorem GX (W : World) (n : Nat) (hn : n ≤ 1000) : (Instr.makeSlice 88 (.int .i64 (n : Int)) (.int .i64 (n : Int))).run Try.prog W = .ok (.slice (some ⟨W.heap.size, 0, none⟩) n n) (W.alloc (.cells (madeCells #[.int .u8 0] n) 5)) := by
 obtain ⟨i, h1, h2, h3, h4⟩ := info_parts (P := Try.prog) (e := 5) (z := .int .u8 0) (size := 1) (bytes := 1) (by kernel_rfl); have h := run_makeSlice (P := Try.prog) W 88 5 i (.int .u8 0) Try.underlying88 h1 h2 .i64 .i64 n n (by omega) (by omega) (by rw [h3]; omega) (by rw [h4]; omega) (by omega); rw [h3] at h; rw [show (Value.int .u8 0).cells = #[Value.int .u8 0] from rfl] at h
 simpa using h
theorem OE (W : World) (n base : Nat) (hn : n ≤ 1000) (hb : base ≤ W.heap.size) : Kd.R (Kd.int .u8) 5 (W.alloc (.cells (madeCells #[.int .u8 0] n) 5)) base (fun k => k = W.heap.size) (.slice (some ⟨W.heap.size, 0, none⟩) n n) (List.replicate n 0) := by
 obtain ⟨i, h1, h2, h3, h4⟩ := info_parts (P := Try.prog) (e := 5) (z := .int .u8 0) (size := 1) (bytes := 1) (by kernel_rfl); obtain ⟨w', e1, e2, e3⟩ := run_makeSlice_full (P := Try.prog) (w := W) base 88 5 i (.int .u8 0) 1 Try.underlying88 h1 h2 h3 .i64 .i64 n (by omega) (by rw [h4]; omega) (by unfold maxLen; omega) hb; rw [GX W n hn] at e1; injection e1 with _ e1; subst e1; refine Kd.pU (enc := Value.int .u8) ?_ (fun k hk => by simp [Value.ownBlock] at hk; exact hk.symm); rw [List.length_replicate]
 have : encs (Value.int .u8) (List.replicate n (0 : Int)) = (madeCells (Value.int IntKind.u8 0).cells (n * 1)).toList := by
  rw [show (Value.int IntKind.u8 0).cells = #[Value.int .u8 0] from rfl, Nat.mul_one]; apply List.ext_getElem?; intro j; simp only [encs, madeCells, List.map_replicate]; simp; by_cases hj : j < n
  ·simp [hj, Nat.mod_one]
  ·simp [hj]
 rw [this]; exact e2
theorem Ad {gs gl a1 a2 a3 : Int} {l0 : List S66} {l4 : List (List S27)} {i : Nat} (pre : List (Fin l0.length)) (x : Fin l0.length) (c : Int) : jU gs gl a1 a2 a3 l0 l4 i (pre ++ [x]) c = (jU gs gl a1 a2 a3 l0 l4 i pre c || jX gs gl a1 a2 a3 l0 l4 i x.1 (aX l0 (x.1 : Int)).f1.length c) := by
 simp [jU, List.any_append]
theorem w64 (n : Int) : wrap64 n = IntKind.i64.wrap n := by
 simp only [IntKind.wrap, IntKind.bits, IntKind.signed, wrap64]; simp; split <;> omega
theorem LZ (W : World) (n : Nat) (hn : n ≤ 8) : (Instr.makeSlice 104 (.int .i64 (n : Int)) (.int .i64 (n : Int))).run Try.prog W = .ok (.slice (some ⟨W.heap.size, 0, none⟩) n n) (W.alloc (.cells (madeCells #[.slice none 0 0] n) 88)) := by
 obtain ⟨i, h1, h2, h3, h4⟩ := info_parts (P := Try.prog) (e := 88) (z := .slice none 0 0) (size := 1) (bytes := 24) (by kernel_rfl); have h := run_makeSlice (P := Try.prog) W 104 88 i (.slice none 0 0) Try.underlying104 h1 h2 .i64 .i64 n n (by omega) (by omega) (by rw [h3]; omega) (by rw [h4]; omega) (by omega); rw [h3] at h; rw [show (Value.slice none 0 0).cells = #[Value.slice none 0 0] from rfl] at h
 simpa using h
def uf (b : Nat) (ds : List Deferred) (W : World) : Prop := (∀ d ∈ ds, ∃ D, d = { target := .collected D, args := #[] } ∧ b ≤ D ∧ W.heap[D]? = some (.deferred (some []))) ∧ ds.Nodup
theorem tL {C : World → Prop} {b : Nat} (hC : ∀ (W : World) (D : Nat) (o : Obj), C W → b ≤ D → W.heap[D]? = some (.deferred (some [])) → C (W.putObj D o)) {F : Fence} {n : Nat} {P : Program} {fn : Func} {tmps : Array Value} {R : Ending → World → Prop}
 (hend : ∀ W, C W → LeavesIn F n P fn tmps R [] .returning W) : ∀ (ds : List Deferred) (W : World), uf b ds W → C W → LeavesInM F n P fn tmps R ds .returning W
 | [], W, _, h => hend W h
 | d :: ds, W, hm, h => by
  obtain ⟨D, rfl, hb, hD⟩ := hm.1 d (List.mem_cons_self); refine ⟨by simp, .inl ⟨_, _, rfl, run_takeDeferred hD, ?_⟩⟩; refine tL hC hend ds _ ⟨fun d' hd' => ?_, (List.nodup_cons.1 hm.2).2⟩ (hC _ _ _ h hb hD); obtain ⟨D', rfl, hb', hD'⟩ := hm.1 d' (List.mem_cons_of_mem _ hd'); refine ⟨D', rfl, hb', ?_⟩
  have hne : D ≠ D' := by
   rintro rfl; exact (List.nodup_cons.1 hm.2).1 hd'
  simp only [World.putObj]; rw [Array.getElem?_setIfInBounds_ne hne]; exact hD'
theorem uf.below {b : Nat} {ds : List Deferred} {W W1 : World} (h : uf b ds W) (hb : Below W.heap.size W W1) : uf b ds W1 :=
 ⟨fun d hd => by
  obtain ⟨D, e, h1, h2⟩ := h.1 d hd
  exact ⟨D, e, h1, (hb.block D (bf h2)).trans h2⟩, h.2⟩
structure kV (w1 : World) (i : Nat) (S : Int → Bool) (N : Nat) (W : World) : Prop where
 sq : W.heap[w1.heap.size]? = some (.cells #[.int .i64 (i : Int)] 3 (0, 0))
 mp : W.heap[w1.heap.size + 1 + 1]? = some (.cells #[.map (some (w1.heap.size + 1))] 128 (0, 0))
 set : kP W (w1.heap.size + 1) S N
 below : Below w1.heap.size w1 W
theorem kV.kept {w1 : World} {i : Nat} {S : Int → Bool} {N : Nat} {W W' : World} (h : kV w1 i S N W) {row : Option Nat} (hg : W.grownBy W' row) (hr : ∀ r, row = some r → w1.heap.size + 1 + 1 < r) : kV w1 i S N W' := by
 refine ⟨(hg.block _ (bf h.sq) ?_).trans h.sq, (hg.block _ (bf h.mp) ?_).trans h.mp, h.set.kept hg ?_, h.below.grown hg h.below.size (fun j hj => ?_)⟩
 ·intro e; have := hr _ e.symm; omega
 ·intro e; have := hr _ e.symm; omega
 ·intro e; have := hr _ e; omega
 ·have := hr j hj; omega
theorem kV.step {w1 : World} {i : Nat} {S : Int → Bool} {N : Nat} {W W' : World} (h : kV w1 i S N W) (hb : Below W.heap.size W W') : kV w1 i S N W' := h.kept (gp hb none) (by simp)
structure jg (w1 : World) (i : Nat) (S : Int → Bool) (N bo B0 Bx By : Nat) (m es : List Int) (W wr : World) : Prop where
 rnd : kV w1 i S N wr
 arr : kC wr Bx m
 eac : pm wr By es
 keeps : KeepsFrom B0 W wr
 kp : KpB w1.heap.size bo W wr
theorem jg.step {w1 : World} {i : Nat} {S : Int → Bool} {N bo B0 Bx By : Nat} {m es : List Int} {W wr wn : World} (h : jg w1 i S N bo B0 Bx By m es W wr) (hb : Below wr.heap.size wr wn) : jg w1 i S N bo B0 Bx By m es W wn := by
 have hs := h.rnd.below.size; exact ⟨h.rnd.step hb, h.arr.below hb, h.eac.below hb, h.keeps.trans ((iF hb).from _), h.kp.trans ⟨hb.mono hs, fun o ho _ => (hb.block _ (bf ho)).trans ho⟩⟩
theorem jg.congr {w1 : World} {i : Nat} {S S' : Int → Bool} {N bo B0 Bx By : Nat} {m es : List Int} {W wr : World} (h : jg w1 i S N bo B0 Bx By m es W wr) (he : ∀ c, S c = S' c) : jg w1 i S' N bo B0 Bx By m es W wr :=
 { h with rnd := { h.rnd with set := h.rnd.set.congr he } }
theorem jg.more {w1 : World} {i : Nat} {S : Int → Bool} {N N' bo B0 Bx By : Nat} {m es : List Int} {W wr : World} (h : jg w1 i S N bo B0 Bx By m es W wr) (hn : N ≤ N') : jg w1 i S N' bo B0 Bx By m es W wr :=
 { h with rnd := { h.rnd with set := h.rnd.set.more hn } }
theorem jg.turn {w1 : World} {i : Nat} {S S' : Int → Bool} {N N' bo B0 Bx By : Nat} {m es : List Int} {W wr wn : World} (h : jg w1 i S N bo B0 Bx By m es W wr) (hg : wr.grownBy wn (some (w1.heap.size + 1))) (hm : kP wn (w1.heap.size + 1) S' N')
 (hB : w1.heap.size + 1 < B0) (hbo : w1.heap.size + 1 < bo) (hx : w1.heap.size + 1 < Bx) (hy : w1.heap.size + 1 < By) : jg w1 i S' N' bo B0 Bx By m es W wn := by
 have hb : Below w1.heap.size w1 wn := h.rnd.below.grown hg h.rnd.below.size (fun j hj => by cases hj; omega)
 refine ⟨⟨(hg.block _ (bf h.rnd.sq) (by simp)).trans h.rnd.sq, (hg.block _ (bf h.rnd.mp) (by simp)).trans h.rnd.mp, hm, hb⟩, ⟨h.arr.1, (hg.block _ (bf h.arr.2) (by simp; omega)).trans h.arr.2⟩, ⟨h.eac.1, (hg.block _ (bf h.eac.2) (by simp; omega)).trans h.eac.2⟩,
  h.keeps.trans (KeepsFrom.of_grownBy hg (fun j hj => by cases hj; exact hB)), h.kp.trans ⟨?_, fun o ho _ => (hg.block _ (bf ho) (by simp; omega)).trans ho⟩⟩
 have := (Below.refl w1.heap.size wr).grown hg h.rnd.below.size (fun j hj => by cases hj; omega); exact this
theorem wT {F : Fence} {n : Nat} {P : Program} {c : Code} {Q : Exit → Act → World → Prop} {a : Act} {W : World} (R : World → Prop) (h : R W) (k : ∀ W', R W' → Code.wpIn F n P c Q a W') : Code.wpIn F n P c Q a W := k W h
structure mQ (w : World) (gs gl : Int) (A0 : Option Addr) (c0 : Nat) (l0 : List S66) (a1 a2 a3 : Int) (A4 : Option Addr) (c4 : Nat) (l4 : List (List S27)) (i : Nat) (ds : List Deferred) (W : World) : Prop where
 given : W.heap[w.heap.size]? = some (.cells #[.int .i64 gs, .int .u8 gl] 100 (0, 0))
 line : W.heap[w.heap.size + 1]? = some (.cells #[.slice A0 l0.length c0, .int .i64 a1, .int .i64 a2, .int .i64 a3, .slice A4 l4.length c4] 25 (0, 0))
 rows : ∃ (cs : Array Value) (fo : Nat → Nat), cs.size = l4.length ∧ W.heap[w.heap.size + 1 + 1]? = some (.cells cs 88 (0, 0)) ∧ (∀ u ∈ cs, u.oneCell' = true) ∧
  ∀ j, j < i → ∃ v, cs[j]? = some v ∧ Kd.R (Kd.int .u8) 5 W w.heap.size (fun k => fo k = j) v (dN gs gl a1 a2 a3 l0 l4 j)
 marks : uf w.heap.size ds W
 below : Below w.heap.size w W
theorem mQ.step {w : World} {gs gl : Int} {A0 : Option Addr} {c0 : Nat} {l0 : List S66} {a1 a2 a3 : Int} {A4 : Option Addr} {c4 : Nat} {l4 : List (List S27)} {i : Nat} {ds : List Deferred} {W W1 : World}
 (h : mQ w gs gl A0 c0 l0 a1 a2 a3 A4 c4 l4 i ds W) (hb : Below W.heap.size W W1) : mQ w gs gl A0 c0 l0 a1 a2 a3 A4 c4 l4 i ds W1 := by
 refine ⟨(hb.block _ (bf h.given)).trans h.given, (hb.block _ (bf h.line)).trans h.line, ?_, h.marks.below hb, eY h.below h.below.size hb⟩; obtain ⟨cs, fo, h1, h2, h3, h4⟩ := h.rows; refine ⟨cs, fo, h1, (hb.block _ (bf h2)).trans h2, h3, fun j hj => ?_⟩; obtain ⟨v, e, hr⟩ := h4 j hj; exact ⟨v, e, Kd.bZ hr hb⟩
def EL (Q : Exit → Act → World → Prop) : Exit → Act → World → Prop
 | .panic _, _, _ => False
 | e, a, w => Q e a w
theorem Fs {Q : Exit → Act → World → Prop} {a : Act} {w : World} (h : Q .normal a w) : EL Q .normal a w := h
theorem Dt {P : Program} {c : Code} {Q : Exit → Act → World → Prop} {a : Act} {w : World} (h : c.wp P (EL Q) a w) : c.wp P Q a w :=
 wp_mono h fun e a w h => by
  cases e with
  | panic ch => exact h.elim
  | normal => exact h
  | exit id => exact h
  | goto l => exact h
  | ret => exact h
  | outgrown => exact h
theorem mQ.next {w : World} {gs gl : Int} {A0 : Option Addr} {c0 : Nat} {l0 : List S66} {a1 a2 a3 : Int} {A4 : Option Addr} {c4 : Nat} {l4 : List (List S27)} {i : Nat} {ds : List Deferred} {w1 Wn : World} {v : Value} {D : Nat}
 (h : mQ w gs gl A0 c0 l0 a1 a2 a3 A4 c4 l4 i ds w1) (hi : i < l4.length) (hbelow : Below w.heap.size w Wn)
 (hbut : ∀ k, k < w1.heap.size → k ≠ w.heap.size + 1 + 1 → Wn.heap[k]? = w1.heap[k]?)
 (hout : ∀ cs, w1.heap[w.heap.size + 1 + 1]? = some (.cells cs 88 (0, 0)) → Wn.heap[w.heap.size + 1 + 1]? = some (.cells (cs.setIfInBounds i v) 88 (0, 0)))
 (hone : v.oneCell' = true) (hw1 : w.heap.size ≤ w1.heap.size) (hv : Kd.R (Kd.int .u8) 5 Wn w1.heap.size (fun _ => True) v (dN gs gl a1 a2 a3 l0 l4 i)) (hD : Wn.heap[D]? = some (.deferred (some []))) (hDw : w1.heap.size ≤ D) :
 mQ w gs gl A0 c0 l0 a1 a2 a3 A4 c4 l4 (i + 1) ({ target := .collected D, args := #[] } :: ds) Wn := by
 refine ⟨(hbut _ (bf h.given) (by omega)).trans h.given, (hbut _ (bf h.line) (by omega)).trans h.line, ?_, ⟨fun d hd => ?_, ?_⟩, hbelow⟩
 ·obtain ⟨cs, fo, h1, h2, h3, h4⟩ := h.rows; refine ⟨cs.setIfInBounds i v, fun k => if w1.heap.size ≤ k then i else fo k, by simpa using h1, hout cs h2, fun u hu => ?_, fun j hj => ?_⟩
  ·rw [Array.mem_iff_getElem] at hu; obtain ⟨k, hk, rfl⟩ := hu; rw [Array.getElem_setIfInBounds]
   ·split
    ·exact hone
    ·exact h3 _ (Array.getElem_mem (by simpa using hk))
   ·simpa using hk
  ·by_cases hji : j = i
   ·subst hji; refine ⟨v, by simp [h1, hi], ?_⟩; exact Kd.eU (Kd.dV (Kd.ib hv) (fun k hk => by simp [hk.2.1])) hw1
   ·obtain ⟨u, e, hr⟩ := h4 j (by omega); refine ⟨u, by rw [Array.getElem?_setIfInBounds_ne (fun e => hji e.symm)]; exact e, ?_⟩; have hr1 := Kd.ib (Kd.jy hr h2 (fun q hq => by simp [Kd.int, Kd.scalar] at hq; subst hq; decide))
    exact Kd.dV (Kd.pV hr1 (fun k hk => hbut k hk.2.2.1 hk.1.2)) (fun k hk => by
     have h5 := hk.2.2.1; show (if w1.heap.size ≤ k then i else fo k) = j; rw [if_neg (by omega)]
     exact hk.1.1)
 ·rcases List.mem_cons.1 hd with rfl | hd
  ·exact ⟨D, rfl, Nat.le_trans hw1 hDw, hD⟩
  ·obtain ⟨D', e, h1, h2⟩ := h.marks.1 d hd; refine ⟨D', e, h1, ?_⟩; rw [hbut D' (bf h2) ?_]
   ·exact h2
   ·rintro rfl; obtain ⟨cs, fo, _, h3, _⟩ := h.rows; rw [h3] at h2; cases h2
 ·refine List.nodup_cons.2 ⟨fun hd => ?_, h.marks.2⟩; obtain ⟨D', e, h1, h2⟩ := h.marks.1 _ hd; injection e with e _; injection e with e; subst e; have := bf h2; omega
theorem mQ.all {w : World} {gs gl : Int} {A0 : Option Addr} {c0 : Nat} {l0 : List S66} {a1 a2 a3 : Int} {A4 : Option Addr} {c4 : Nat} {l4 : List (List S27)} {ds : List Deferred} {W : World}
 (h : mQ w gs gl A0 c0 l0 a1 a2 a3 A4 c4 l4 l4.length ds W) (h8 : l4.length ≤ 8) : Kd.S (Kd.slice 5 (Kd.int .u8)) 88 W w.heap.size (fun _ => True) (.slice (some ⟨w.heap.size + 1 + 1, 0, none⟩) l4.length l4.length) (dW gs gl a1 a2 a3 l0 l4) := by
 obtain ⟨cs, fo, h1, h2, h3, h4⟩ := h.rows; have hlen : (dW gs gl a1 a2 a3 l0 l4).length = l4.length := by simp [dW]
 obtain ⟨f, hr⟩ := Kd.Ij (d := Kd.slice 5 (Kd.int .u8)) (w := W) (base := w.heap.size) (ok := fun k => True ∧ some k ≠ (Value.slice (some ⟨w.heap.size + 1 + 1, 0, none⟩) l4.length l4.length).ownBlock) (xs := dW gs gl a1 a2 a3 l0 l4) (inner := cs.toList)
  (fun j k => fo k = j ∧ k ≠ w.heap.size + 1 + 1) (fun i j k e1 e2 => e1.1.symm.trans e2.1) (fun j k e => ⟨trivial, by simp [Value.ownBlock]; exact e.2⟩) (by rw [hlen]; simp [Kd.slice, h1]) (fun j x hx => by
    have hj : j < l4.length := by
     rw [← hlen]; exact (List.getElem?_eq_some_iff.1 hx).1
    obtain ⟨v, e, hv⟩ := h4 j hj
    have hx' : x = dN gs gl a1 a2 a3 l0 l4 j := by
     simp [dW, hj] at hx; exact hx.symm
    subst hx'; refine ⟨v, ?_, Kd.jy hv h2 (fun q hq => by simp [Kd.int, Kd.scalar] at hq; subst hq; decide)⟩; show (cs.toList.drop (j * 1)).take 1 = [v]; (have e' : cs.toList[j]? = some v := by simpa using e); rw [Nat.mul_one]; obtain ⟨hj2, hj3⟩ := List.getElem?_eq_some_iff.1 e'; rw [List.drop_eq_getElem_cons hj2, hj3]
    rfl)
 refine ⟨f, fun _ _ => trivial, cs.toList, ?_, hr⟩; rw [List.length_zipIdx, hlen]; refine ⟨by simp [Kd.tag, Kd.slice, h1], .inr ⟨w.heap.size + 1 + 1, l4.length, cs, rfl, by omega, h2, Nat.le_refl _, by unfold maxLen; omega, by simp [Kd.tag, Kd.slice, h1], ?_⟩⟩; refine List.take_of_length_le ?_; simp [Kd.tag, Kd.slice, h1]
theorem Gr {α : Type} {d : Kd α} {e : Nat} {W : World} {base : Nat} {ok : Nat → Prop} {v : Value} {xs : List α} (h : Kd.S d e W base ok v xs) {l : Nat} {o o' : Obj} (hl : W.heap[l]? = some o) (ho : o.isCells = false) : Kd.S d e (W.putObj l o') base ok v xs := by
 obtain ⟨f, h⟩ := h; exact ⟨f, Bp h hl ho⟩
end Go.Proofs.Ytihedeofkhapiaa.Pr
end
section
namespace Go.Proofs.Ytihedeofkhapiaa.Pr
open Go.RowKit Go.Proofs.YtihedeofkhapiaaW.PrintWords Go.Proofs.YtihedeofkhapiaaW.PrintLast Go.Proofs.YtihedeofkhapiaaW.PrintMore
theorem Qq {gs gl a1 a2 a3 : Int} {l0 : List S66} {l4 : List (List S27)} {i x : Nat} {k : Nat} (hh : yG gs gl a1 a2 a3 l0 l4 i x k = true) : ∀ K, k < K → jX gs gl a1 a2 a3 l0 l4 i x K (bn (aX l0 (x : Int)).f1 (k : Int)).f0 = true := by
 intro K
 induction K with
 | zero => intro h; omega
 | succ K ih =>
  intro h; rw [jX]; by_cases he : k = K
  ·subst he; rw [hh]; simp
  ·rw [ih (by omega)]; simp
def Sm5 (q : List S27) : Prop := ∀ x ∈ q, ∃ a b : Nat, a < 32 ∧ b < 32 ∧ x = ⟨(a : Int), (b : Int)⟩
theorem uK.sm {v : Nat} {q : List S27} (h : ∀ x ∈ q, uK v x) : Sm5 q := fun x hx => by
 obtain ⟨a, ha, rfl⟩ := h x hx; exact ⟨a, v &&& a, ha, Nat.lt_of_le_of_lt Nat.and_le_right ha, rfl⟩
theorem yl {q : List S27} (h : Sm5 q) : ∃ g v : Nat, g < 32 ∧ v < 32 ∧ uV q = ((g : Int), (v : Int)) := by
 have key : ∀ (r : List S27) (a b : Nat), a < 32 → b < 32 → Sm5 r → ∃ g v : Nat, g < 32 ∧ v < 32 ∧ r.foldl seenStep ((a : Int), (b : Int)) = ((g : Int), (v : Int)) := by
  intro r
  induction r with
  | nil => exact fun a b ha hb _ => ⟨a, b, ha, hb, rfl⟩
  | cons x r ih =>
   intro a b ha hb hx; obtain ⟨c, d, hc, hd, rfl⟩ := hx x List.mem_cons_self
   have e : seenStep ((a : Int), (b : Int)) ⟨(c : Int), (d : Int)⟩ = (((a ||| c : Nat) : Int), ((b ||| d : Nat) : Int)) := by
    simp only [seenStep]; rw [La ⟨a, ha⟩ ⟨c, hc⟩, La ⟨b, hb⟩ ⟨d, hd⟩]
   rw [List.foldl_cons, e]; exact ih _ _ (MU ⟨a, ha⟩ ⟨c, hc⟩) (MU ⟨b, hb⟩ ⟨d, hd⟩) (fun y hy => hx y (List.mem_cons_of_mem _ hy))
 exact key q 0 0 (by omega) (by omega) h
theorem F4 (c : Prop) [Decidable c] (m n : Nat) (hm : m ≤ 5) (hn : n ≤ 5) : 0 ≤ (if c then wrap64 ((m : Int) + (n : Int)) else fV) ∧ (if c then wrap64 ((m : Int) + (n : Int)) else fV) ≤ 1048576 := by
 split
 ·rw [bJ (by omega) (by omega)]; omega
 ·exact ⟨by decide, by decide⟩
theorem rA (W S : Int) {q : List S27} (hq : Sm5 q) {s : S86} (h0 : 0 ≤ s.f1) (h1 : s.f1 ≤ 31) : 0 ≤ cellP W S (eX q) s ∧ cellP W S (eX q) s ≤ 1048576 := by
 obtain ⟨g, v, hg, hv, hA⟩ := yl hq; obtain ⟨z, hz⟩ := Int.eq_ofNat_of_zero_le h0; (have hz32 : z < 32 := by omega); have b1 : z &&& g < 32 := Nat.lt_of_le_of_lt Nat.and_le_left hz32; have b3 : (z &&& g) &&& (31 ^^^ v) < 32 := Nat.lt_of_le_of_lt Nat.and_le_left b1; have b4 : v &&& (31 ^^^ z) < 32 := Nat.lt_of_le_of_lt Nat.and_le_left hv; have p1 : pop ((z &&& g) &&& (31 ^^^ v)) ≤ 5 := ut ⟨_, b3⟩; have p2 : pop (v &&& (31 ^^^ z)) ≤ 5 := ut ⟨_, b4⟩
 have e1 : jD (dM (Go.bits .and .i64 s.f1 (g : Int)) (v : Int)) = (pop ((z &&& g) &&& (31 ^^^ v)) : Int) := by
  rw [hz, sV ⟨z, hz32⟩ ⟨g, hg⟩, yQ ⟨z &&& g, b1⟩ ⟨v, hv⟩, uk ⟨_, b3⟩]
 have e2 : jD (dM (v : Int) s.f1) = (pop (v &&& (31 ^^^ z)) : Int) := by
  rw [hz, yQ ⟨v, hv⟩ ⟨z, hz32⟩, uk ⟨_, b4⟩]
 have hc : cellP W S (eX q) s = if (eX q).2.2 = true ∧ jD (dM (Go.bits .and .i64 s.f1 (g : Int)) (v : Int)) ≤ W ∧ jD (dM (v : Int) s.f1) ≤ S then wrap64 (jD (dM (Go.bits .and .i64 s.f1 (g : Int)) (v : Int)) + jD (dM (v : Int) s.f1)) else fV := by
  (have h1 : (eX q).1 = (g : Int) := by rw [eX, hA]); (have h2 : (eX q).2.1 = (v : Int) := by rw [eX, hA]); rw [cellP, h1, h2]
 rw [hc, e1, e2]; exact F4 _ _ _ p1 p2
def nM (W S : Int) (q : Int × Int × Bool) (sh : List S86) : Nat → Int
 | 0 => fV
 | k + 1 => mn (nM W S q sh k) (cellP W S q (bn sh (k : Int)))
def ig (W S : Int) (sh : List S86) (q : List S27) : Int := nM W S (eX q) sh sh.length
def iL (sh : List S86) : Prop := Asc sh ∧ sh.length ≤ 8
def jW (sq : List (List S27)) : Prop := sq.length ≤ 8 ∧ ∀ q ∈ sq, Sm5 q
theorem D9 (i : Nat) (s : S86) : ug (-1) 0 (i : Int) s = true := by rw [ug, if_neg (by omega)]
theorem uG (W S : Int) {sh : List S86} (hsh : iL sh) {q : List S27} (hq : Sm5 q) {k : Nat} (hk : k < sh.length) : 0 ≤ cellP W S (eX q) (bn sh (k : Int)) ∧ cellP W S (eX q) (bn sh (k : Int)) ≤ 1048576 := by
 have hmem : bn sh (k : Int) ∈ sh := by
  rw [Dj, List.getD_eq_getElem?_getD, List.getElem?_eq_getElem hk]; exact List.getElem_mem _
 have := hsh.1.1 _ hmem; exact rA W S hq (by omega) (by omega)
theorem uY (W S : Int) {sh : List S86} (hsh : iL sh) {q : List S27} (hq : Sm5 q) : ∀ K, K ≤ sh.length → 0 ≤ nM W S (eX q) sh K ∧ nM W S (eX q) sh K ≤ 1048576
 | 0, _ => ⟨by simp [nM, fV], by simp [nM, fV]⟩
 | K + 1, h => by
  have h1 := uY W S hsh hq K (by omega); have h2 := uG W S hsh hq (k := K) (by omega); rw [nM]; unfold mn; split <;> omega
theorem iH (W S : Int) {sh : List S86} (hsh : iL sh) {q : List S27} (hq : Sm5 q) : 0 ≤ ig W S sh q ∧ ig W S sh q ≤ 1048576 := uY W S hsh hq _ (Nat.le_refl _)
theorem DJ (W S : Int) (q : Int × Int × Bool) (sh : List S86) : ∀ K k, k < K → nM W S q sh K ≤ cellP W S q (bn sh (k : Int))
 | 0, _, h => by omega
 | K + 1, k, h => by
  rw [nM]; unfold mn; by_cases he : k = K
  ·subst he; split <;> omega
  ·have := DJ W S q sh K k (by omega); split <;> omega
theorem xN (W S : Int) (q : Int × Int × Bool) (sh : List S86) : ∀ K, nM W S q sh K = 1048576 ∨ ∃ k, k < K ∧ nM W S q sh K = cellP W S q (bn sh (k : Int))
 | 0 => .inl rfl
 | K + 1 => by
  rw [nM]; unfold mn; split
  ·exact .inr ⟨K, by omega, rfl⟩
  ·rcases xN W S q sh K with h | ⟨k, hk, h⟩
   ·exact .inl h
   ·exact .inr ⟨k, by omega, h⟩
theorem Bc (W S : Int) (sq : List (List S27)) (hn : sq.length ≤ 8) (sh : List S86) (hsh : sh.length ≤ 8) (i : Nat) (hi : i < sq.length) : ∀ K, K ≤ sh.length → fE (-1) 0 (dY W S sq sh sq.length) i sh K = nM W S (eX (dz sq (i : Int))) sh K := by
 intro K
 induction K with
 | zero => intro _; rfl
 | succ K ih =>
  intro h; rw [fE, if_pos (D9 _ _), ih (by omega), nM, oG W S sq sh hsh sq.length hn i K hi (by omega)]
theorem qK (sq : List (List S27)) (i : Nat) (hi : i < sq.length) : dz sq (i : Int) = sq[i] := by
 rw [Qk, List.getD_eq_getElem?_getD, List.getElem?_eq_getElem hi]; rfl
theorem wY {f g : Nat → Int} : ∀ n, (∀ i, i < n → f i = g i) → ou f n = ou g n
 | 0, _ => rfl
 | n + 1, h => by simp only [ou]; rw [wY n (fun i hi => h i (by omega)), h n (by omega)]
theorem uR (W S : Int) {sq : List (List S27)} (hq : jW sq) {sh : List S86} (hsh : iL sh) :
 (dZ (-1) 0 (dY W S sq sh sq.length) sh sq.length).2 = (sq.map (ig W S sh)).sum ∧ ∀ i (h : i < sq.length), (dZ (-1) 0 (dY W S sq sh sq.length) sh sq.length).1.getD i 0 = ig W S sh sq[i] := by
 have hnn : ∀ i k, i < sq.length → k < sh.length → 0 ≤ (dY W S sq sh sq.length).getD (i * 8 + k) 0 := fun i k hi hk => by
  rw [oG W S sq sh hsh.2 sq.length hq.1 i k hi hk, qK sq i hi]; exact (uG W S hsh (hq.2 _ (List.getElem_mem _)) hk).1
 obtain ⟨e1, e2⟩ := K4 (dY W S sq sh sq.length) sh sq.length hq.1 hnn
 have hE : ∀ i (h : i < sq.length), fE (-1) 0 (dY W S sq sh sq.length) i sh sh.length = ig W S sh sq[i] := fun i h => by
  rw [Bc W S sq hq.1 sh hsh.2 i h _ (Nat.le_refl _), qK sq i h]; rfl
 refine ⟨?_, fun i h => by rw [e2 i h, hE i h]⟩; rw [e1, ← GM, List.length_map]; refine wY _ (fun i h => ?_); rw [hE i h, List.getD_eq_getElem?_getD, List.getElem?_map, List.getElem?_eq_getElem h]; rfl
def fO (W S : Int) (sq : List (List S27)) (sh : List S86) : Int := (sq.map (ig W S sh)).sum
theorem sj (W S : Int) (hs : List S66) {sq : List (List S27)} (hq : jW sq) (x : Nat) (hsh : iL (aX hs (x : Int)).f1) : lL hs W S sq x = fO W S sq (aX hs (x : Int)).f1 := (uR W S hq hsh).1
theorem rP (f : List S27 → Int) : ∀ l : List (List S27), (∀ q ∈ l, 0 ≤ f q ∧ f q ≤ 1048576) → 0 ≤ (l.map f).sum ∧ (l.map f).sum ≤ 1048576 * l.length
 | [], _ => by simp
 | q :: r, h => by
  have h1 := rP f r (fun y hy => h y (List.mem_cons_of_mem _ hy)); have h2 := h q List.mem_cons_self; rw [List.map_cons, List.sum_cons, List.length_cons]; push_cast; omega
theorem Ch (W S : Int) {sq : List (List S27)} (hq : jW sq) {sh : List S86} (hsh : iL sh) : 0 ≤ fO W S sq sh ∧ fO W S sq sh ≤ 8388608 := by
 have h := rP (ig W S sh) sq (fun q hm => iH W S hsh (hq.2 q hm)); have := hq.1; unfold fO; omega
def QJ (W S t : Int) (sq : List (List S27)) (q : List S27) (sh : List S86) (s : S86) : Prop := cellP W S (eX q) s < 1048576 ∧ fO W S sq sh - ig W S sh q + cellP W S (eX q) s ≤ t
theorem xS (W S t : Int) (hs : List S66) {sq : List (List S27)} (hq : jW sq) (x : Nat) (hsh : iL (aX hs (x : Int)).f1) (i : Nat) (hi : i < sq.length) (k : Nat) (hk : k < (aX hs (x : Int)).f1.length) :
 yG (-1) 0 W S t hs sq i x k = true ↔ QJ W S t sq sq[i] (aX hs (x : Int)).f1 (bn (aX hs (x : Int)).f1 (k : Int)) := by
 obtain ⟨e1, e2⟩ := uR W S hq hsh; have h1 := Ch W S hq hsh; have h2 := iH W S hsh (hq.2 _ (List.getElem_mem hi)); have h3 := uG W S hsh (hq.2 _ (List.getElem_mem hi)) hk; have e3 := oG W S sq (aX hs (x : Int)).f1 hsh.2 sq.length hq.1 i k hi hk; rw [qK sq i hi] at e3; unfold fO at h1; have hu : yG (-1) 0 W S t hs sq i x k = (ug (-1) 0 (i : Int) (bn (aX hs (x : Int)).f1 (k : Int)) && decide ((dY W S sq (aX hs (x : Int)).f1 sq.length).getD (i * 8 + k) 0 < 1048576) && decide (wrap64 (wrap64 ((dZ (-1) 0 (dY W S sq (aX hs (x : Int)).f1 sq.length) (aX hs (x : Int)).f1 sq.length).2 - (dZ (-1) 0 (dY W S sq (aX hs (x : Int)).f1 sq.length) (aX hs (x : Int)).f1 sq.length).1.getD i 0) + (dY W S sq (aX hs (x : Int)).f1 sq.length).getD (i * 8 + k) 0) ≤ t)) := rfl; rw [hu, D9, e1, e2 i hi, e3, bJ (x := _ - _) (by omega) (by omega), bJ (by omega) (by omega)]; simp only [Bool.true_and, Bool.and_eq_true, decide_eq_true_eq]; exact Iff.rfl
theorem rF {gs gl a1 a2 a3 : Int} {l0 : List S66} {l4 : List (List S27)} {i x : Nat} (c : Int) : ∀ K, jX gs gl a1 a2 a3 l0 l4 i x K c = true ↔ ∃ k, k < K ∧ yG gs gl a1 a2 a3 l0 l4 i x k = true ∧ c = (bn (aX l0 (x : Int)).f1 (k : Int)).f0
 | 0 => by simp [jX]
 | K + 1 => by
  rw [jX, Bool.or_eq_true, rF c K, Bool.and_eq_true, beq_iff_eq]; constructor
  ·rintro (⟨k, hk, h⟩ | h)
   ·exact ⟨k, by omega, h⟩
   ·exact ⟨K, by omega, h⟩
  ·rintro ⟨k, hk, h⟩; by_cases he : k = K
   ·subst he; exact .inr h
   ·exact .inl ⟨k, by omega, h⟩
def fitsAt (W S t : Int) (hs : List S66) (sq : List (List S27)) (q : List S27) (c : Int) : Prop := ∃ h ∈ hs, ∃ s ∈ h.f1, s.f0 = c ∧ QJ W S t sq q h.f1 s
theorem iP (hs : List S66) (x : Nat) (hx : x < hs.length) : aX hs (x : Int) = hs[x] := by
 rw [FE, List.getD_eq_getElem?_getD, List.getElem?_eq_getElem hx]; rfl
theorem og (sh : List S86) (k : Nat) (hk : k < sh.length) : bn sh (k : Int) = sh[k] := by
 rw [Dj, List.getD_eq_getElem?_getD, List.getElem?_eq_getElem hk]; rfl
theorem oO (W S t : Int) {hs : List S66} (hh : ∀ h ∈ hs, iL h.f1) {sq : List (List S27)} (hq : jW sq) (i : Nat) (hi : i < sq.length) (c : Int) :
 jU (-1) 0 W S t hs sq i (List.finRange hs.length) c = true ↔ fitsAt W S t hs sq sq[i] c := by
 rw [jU, List.any_eq_true]; constructor
 ·rintro ⟨x, _, hx⟩; obtain ⟨k, hk, h1, h2⟩ := (rF c _).1 hx; have e := iP hs x.1 x.2; have hf := hh _ (List.getElem_mem x.2); rw [← e] at hf; have h3 := (xS W S t hs hq x.1 hf i hi k hk).1 h1; refine ⟨hs[x.1]'x.2, List.getElem_mem _, ?_⟩; rw [← e]; rw [og _ k hk] at h2 h3; exact ⟨_, List.getElem_mem hk, h2.symm, h3⟩
 ·rintro ⟨h, hm, s, hs', h1, h2⟩; obtain ⟨x, hx, rfl⟩ := List.getElem_of_mem hm; obtain ⟨k, hk, rfl⟩ := List.getElem_of_mem hs'; refine ⟨⟨x, hx⟩, List.mem_finRange _, ?_⟩; have e := iP hs x hx; have hf := hh _ (List.getElem_mem hx); rw [← e] at hf; (have hk' : k < (aX hs (x : Int)).f1.length := by rw [e]; exact hk); (have e' : bn (aX hs (x : Int)).f1 (k : Int) = (hs[x].f1)[k] := by rw [e, og _ k hk]); refine (rF c _).2 ⟨k, hk', (xS W S t hs hq x hf i hi k hk').2 ?_, ?_⟩
  ·rw [e', e]; exact h2
  ·rw [e']; exact h1.symm
theorem xq (W S t : Int) {hs : List S66} (hh : ∀ h ∈ hs, iL h.f1) {sq : List (List S27)} (hq : jW sq) (i : Nat) (hi : i < sq.length) (c : Int) :
 c ∈ dN (-1) 0 W S t hs sq i ↔ fitsAt W S t hs sq sq[i] c := by
 rw [dN, List.mem_filter, oO W S t hh hq i hi c]; refine ⟨fun h => h.2, fun h => ⟨?_, h⟩⟩; obtain ⟨h', hm, s, hs', h1, _⟩ := h; have := (hh h' hm).1.1 s hs'; refine List.mem_map.2 ⟨c.toNat, List.mem_range.2 (by omega), ?_⟩; simp only [Int.ofNat_eq_natCast]; omega
theorem OO {W S t W' S' t' : Int} {hs hs' : List S66} (hh : ∀ h ∈ hs, iL h.f1) (hh' : ∀ h ∈ hs', iL h.f1) {sq sq' : List (List S27)} (hq : jW sq) (hq' : jW sq') {i j : Nat} (hi : i < sq.length) (hj : j < sq'.length)
 (h : ∀ c, fitsAt W S t hs sq sq[i] c ↔ fitsAt W' S' t' hs' sq' sq'[j] c) : dN (-1) 0 W S t hs sq i = dN (-1) 0 W' S' t' hs' sq' j := by
 unfold dN; refine List.filter_congr (fun c _ => ?_); rw [Bool.eq_iff_iff, oO W S t hh hq i hi c, oO W' S' t' hh' hq' j hj c]; exact h c
theorem BV (W S t : Int) {hs : List S66} (hh : ∀ h ∈ hs, iL h.f1) {sq : List (List S27)} (hq : jW sq) (n : Int) :
 n ∈ je hs W S t sq (List.finRange hs.length) ↔ ∃ x, ∃ h : x < hs.length, n = (x : Int) ∧ fO W S sq hs[x].f1 ≤ t := by
 have key : ∀ x (h : x < hs.length), lL hs W S sq x = fO W S sq hs[x].f1 := fun x h => by
  have e := iP hs x h; have hf := hh _ (List.getElem_mem h); rw [← e] at hf; rw [sj W S hs hq x hf, e]
 rw [je, List.mem_map]; constructor
 ·rintro ⟨x, hx, rfl⟩; refine ⟨x.1, x.2, rfl, ?_⟩; rw [← key x.1 x.2]; exact of_decide_eq_true (List.mem_filter.1 hx).2
 ·rintro ⟨x, h, rfl, h1⟩; refine ⟨⟨x, h⟩, List.mem_filter.2 ⟨List.mem_finRange _, decide_eq_true ?_⟩, rfl⟩; simp only []; rw [key x h]; exact h1
theorem uM {α : Type} (t : α → Int) (T : Int) : ∀ (l : List α) (b : Int), l.foldl (fun b x => mn b (t x)) b ≤ T ↔ b ≤ T ∨ ∃ x ∈ l, t x ≤ T
 | [], b => by simp
 | x :: r, b => by
  rw [List.foldl_cons, uM t T r]; (have hm : mn b (t x) ≤ T ↔ b ≤ T ∨ t x ≤ T := by unfold mn; split <;> omega); rw [hm]; simp only [List.mem_cons, exists_eq_or_imp, or_assoc]
theorem pF (W S : Int) {hs : List S66} (hh : ∀ h ∈ hs, iL h.f1) {sq : List (List S27)} (hq : jW sq) (T : Int) :
 jf hs W S sq (List.finRange hs.length) ≤ T ↔ 1048576 ≤ T ∨ ∃ h ∈ hs, fO W S sq h.f1 ≤ T := by
 have key : ∀ x (h : x < hs.length), lL hs W S sq x = fO W S sq hs[x].f1 := fun x h => by
  have e := iP hs x h; have hf := hh _ (List.getElem_mem h); rw [← e] at hf; rw [sj W S hs hq x hf, e]
 rw [jf, uM]; refine or_congr Iff.rfl ⟨?_, ?_⟩
 ·rintro ⟨x, _, h⟩; exact ⟨_, List.getElem_mem x.2, by rw [← key x.1 x.2]; exact h⟩
 ·rintro ⟨h, hm, h1⟩; obtain ⟨x, hx, rfl⟩ := List.getElem_of_mem hm; exact ⟨⟨x, hx⟩, List.mem_finRange _, by rw [key x hx]; exact h1⟩
end Go.Proofs.Ytihedeofkhapiaa.Pr
end
section
namespace Go.Proofs.Ytihedeofkhapiaa.Pr
open Go.RowKit Go.Shelf Go.Proofs.YtihedeofkhapiaaW.PrintWords Go.Proofs.YtihedeofkhapiaaW.PrintLast Go.Proofs.YtihedeofkhapiaaW.PrintMore
attribute [local go_sem] Oper.semAt_some
set_option maxRecDepth 100000 in
set_option maxHeartbeats 4000000 in
theorem eu.calls (dU : Int) (aH : Int) (pE : Option Addr) (pz : Nat) (fK : List (S66)) (gM : Int) (gQ : Int) (jh : Int) (nS : Option Addr) (nV : Nat) (dA : List (List (S27))) (r : List (List Int)) (w : World) (M5 : Kd.C k66 w pE fK.length fK) (Sr : fK.length ≤ pz) (M8 : Kd.C (Kd.slice 27 k27) w nS dA.length dA) (SL : dA.length ≤ nV) (h : eu.f dU aH fK gM gQ jh dA = some r) :
 Calls Try.prog 59 #[.agg #[.int .i64 dU, .int .u8 aH], .agg #[.slice pE fK.length pz, .int .i64 gM, .int .i64 gQ, .int .i64 jh, .slice nS dA.length nV]] w fun e w' => ∃ v0_ : Value, e = .returned (v0_) ∧ Kd.S (Kd.slice 5 (Kd.int .u8)) 88 w' w.heap.size (fun _ => True) v0_ r ∧ Below w.heap.size w w' := by
 unfold eu.f at h; by_cases hck : jl fK gM gQ jh dA = 0; (case neg => rw [if_neg hck] at h; cases h); rw [if_pos hck] at h; obtain rfl := Option.some.inj h; have hsh := yF dU aH gM gQ jh fK dA; have hv := oN hck; have HV := aa.mk hv; have HS := aa.mk (oL hv.2.2.2.2.1); have HSH := aa.mk hsh; have HR0 := aa.mk M5; have HR4 := aa.mk M8; obtain ⟨n, hn⟩ : ∃ n, n = dA.length := ⟨_, rfl⟩; (have hmk : ∀ W : World, (Instr.makeSlice 104 (.int .i64 (dA.length : Int)) (.int .i64 (dA.length : Int))).run Try.prog W = .ok (.slice (some ⟨W.heap.size, 0, none⟩) dA.length dA.length) (W.alloc (.cells (madeCells #[.slice none 0 0] dA.length) 88)) := fun W => LZ W _ hv.2.2.2.1); clear hv hck hsh h M5 M8 Sr SL; refine callsIn_wide (n := 10).1 ?_; refine callsIn_of_wp_marks Try.func59 rfl trivial ?_ rfl; simp only [Try.ntmps59, List.size_toArray, List.length_cons, List.length_nil, Nat.reduceAdd, Nat.reduceSub, Array.replicate_succ, Array.replicate_zero, List.push_toArray, List.append_toArray, List.nil_append, List.cons_append]; refine wpIn_wide.2 ?_; (go_wp2_with (fail)); refine wp_loop_ghost_k (fun gk a W => ∃ (u6 u7 u8 u9 u10 u11 u12 u13 u14 u15 u24 u25 u26 u27 u28 u29 u30 u31 u32 u33 u34 u35 u36 u37 u38 u39 u40 u41 u42 u43 u44 u45 u46 u47 u48 u49 u50 u51 u52 u53 u54 u55 u56 u57 u58 u59 u60 u61 u62 u63 u64 u65 u66 u67 u68 u69 u70 u71 u72 u73 u74 u75 u76 u77 u78 u79 u80 u81 u82 u83 u84 u85 u86 u87 u88 u89 u90 u91 u92 u93 u94 u95 u96 u97 u98 u99 NC Pw Oj P5 NH NT PK PO OM : Value) (i : Nat) (ds : List Deferred), gk + i = dA.length ∧ a = { tmps := #[.agg #[.int .i64 dU, .int .u8 aH], .agg #[.slice pE fK.length pz, .int .i64 gM, .int .i64 gQ, .int .i64 jh, .slice nS dA.length nV], .pointer (some ⟨w.heap.size, 0, none⟩), .pointer (some ⟨w.heap.size + 1, 0, none⟩), .slice none 0 0, .slice (some ⟨w.heap.size + 1 + 1, 0, none⟩) dA.length dA.length, u6, u7, u8, u9, u10, u11, u12, u13, u14, u15, .pointer (some ⟨w.heap.size + 1, 4, none⟩), .slice nS dA.length nV, .int .i64 dA.length, .slice (some ⟨w.heap.size + 1 + 1, 0, none⟩) dA.length dA.length, .pointer (some ⟨w.heap.size + 1, 4, none⟩), .slice nS dA.length nV, .int .i64 dA.length, .int .i64 i, u24, u25, u26, u27, u28, u29, u30, u31, u32, u33, u34, u35, u36, u37, u38, u39, u40, u41, u42, u43, u44, u45, u46, u47, u48, u49, u50, u51, u52, u53, u54, u55, u56, u57, u58, u59, u60, u61, u62, u63, u64, u65, u66, u67, u68, u69, u70, u71, u72, u73, u74, u75, u76, u77, u78, u79, u80, u81, u82, u83, u84, u85, u86, u87, u88, u89, u90, u91, u92, u93, u94, u95, u96, u97, u98, u99, NC, Pw, Oj, P5, NH, NT, PK, PO, OM], defers := ds } ∧ aa (mQ w dU aH pE pz fK gM gQ jh nS nV dA i ds W)) dA.length ?start ?round
 case start =>
  refine ⟨_, _, _, _, _, _, _, _, _, _, _, _, _, _, _, _, _, _, _, _, _, _, _, _, _, _, _, _, _, _, _, _, _, _, _, _, _, _, _, _, _, _, _, _, _, _, _, _, _, _, _, _, _, _, _, _, _, _, _, _, _, _, _, _, _, _, _, _, _, _, _, _, _, _, _, _, _, _, _, _, _, _, _, _, _, _, _, _, _, _, _, _, _, _, _, 0, [], by omega, rfl, ⟨⟨?_, ?_, ⟨madeCells #[.slice none 0 0] dA.length, fun _ => 0, size_madeCells _ _, ?_, ?_, fun j hj => absurd hj (by omega)⟩, ⟨fun d hd => (by cases hd), List.nodup_nil⟩, ?_⟩⟩⟩
  ·exact bu (bu (heap_alloc_new w _) _) _
  ·refine bu ?_ _; have := heap_alloc_new (w.alloc (.cells #[.int .i64 dU, .int .u8 aH] 100)) (.cells #[.slice pE fK.length pz, .int .i64 gM, .int .i64 gQ, .int .i64 jh, .slice nS dA.length nV] 25)
   rwa [World.size_alloc] at this
  ·have := heap_alloc_new ((w.alloc (.cells #[.int .i64 dU, .int .u8 aH] 100)).alloc (.cells #[.slice pE fK.length pz, .int .i64 gM, .int .i64 gQ, .int .i64 jh, .slice nS dA.length nV] 25)) (.cells (madeCells #[.slice none 0 0] dA.length) 88)
   rwa [World.size_alloc, World.size_alloc] at this
  ·intro u hu; simp [madeCells] at hu; obtain ⟨k, _, rfl⟩ := hu; rw [Nat.mod_one]; rfl
  ·exact ah (ah (ah (Below.refl _ _) _) _) _
 case round =>
  intro gk a w1 hinv; obtain ⟨u6, hinv⟩ := hinv; obtain ⟨u7, hinv⟩ := hinv; obtain ⟨u8, hinv⟩ := hinv; obtain ⟨u9, hinv⟩ := hinv; obtain ⟨u10, hinv⟩ := hinv; obtain ⟨u11, hinv⟩ := hinv; obtain ⟨u12, hinv⟩ := hinv; obtain ⟨u13, hinv⟩ := hinv; obtain ⟨u14, hinv⟩ := hinv; obtain ⟨u15, hinv⟩ := hinv; obtain ⟨u24, hinv⟩ := hinv; obtain ⟨u25, hinv⟩ := hinv; obtain ⟨u26, hinv⟩ := hinv; obtain ⟨u27, hinv⟩ := hinv; obtain ⟨u28, hinv⟩ := hinv; obtain ⟨u29, hinv⟩ := hinv; obtain ⟨u30, hinv⟩ := hinv; obtain ⟨u31, hinv⟩ := hinv; obtain ⟨u32, hinv⟩ := hinv; obtain ⟨u33, hinv⟩ := hinv; obtain ⟨u34, hinv⟩ := hinv; obtain ⟨u35, hinv⟩ := hinv; obtain ⟨u36, hinv⟩ := hinv; obtain ⟨u37, hinv⟩ := hinv; obtain ⟨u38, hinv⟩ := hinv; obtain ⟨u39, hinv⟩ := hinv; obtain ⟨u40, hinv⟩ := hinv; obtain ⟨u41, hinv⟩ := hinv; obtain ⟨u42, hinv⟩ := hinv; obtain ⟨u43, hinv⟩ := hinv; obtain ⟨u44, hinv⟩ := hinv; obtain ⟨u45, hinv⟩ := hinv; obtain ⟨u46, hinv⟩ := hinv; obtain ⟨u47, hinv⟩ := hinv; obtain ⟨u48, hinv⟩ := hinv; obtain ⟨u49, hinv⟩ := hinv; obtain ⟨u50, hinv⟩ := hinv; obtain ⟨u51, hinv⟩ := hinv; obtain ⟨u52, hinv⟩ := hinv; obtain ⟨u53, hinv⟩ := hinv; obtain ⟨u54, hinv⟩ := hinv; obtain ⟨u55, hinv⟩ := hinv; obtain ⟨u56, hinv⟩ := hinv; obtain ⟨u57, hinv⟩ := hinv; obtain ⟨u58, hinv⟩ := hinv; obtain ⟨u59, hinv⟩ := hinv; obtain ⟨u60, hinv⟩ := hinv; obtain ⟨u61, hinv⟩ := hinv; obtain ⟨u62, hinv⟩ := hinv; obtain ⟨u63, hinv⟩ := hinv; obtain ⟨u64, hinv⟩ := hinv; obtain ⟨u65, hinv⟩ := hinv; obtain ⟨u66, hinv⟩ := hinv; obtain ⟨u67, hinv⟩ := hinv; obtain ⟨u68, hinv⟩ := hinv; obtain ⟨u69, hinv⟩ := hinv; obtain ⟨u70, hinv⟩ := hinv; obtain ⟨u71, hinv⟩ := hinv; obtain ⟨u72, hinv⟩ := hinv; obtain ⟨u73, hinv⟩ := hinv; obtain ⟨u74, hinv⟩ := hinv; obtain ⟨u75, hinv⟩ := hinv; obtain ⟨u76, hinv⟩ := hinv; obtain ⟨u77, hinv⟩ := hinv; obtain ⟨u78, hinv⟩ := hinv; obtain ⟨u79, hinv⟩ := hinv; obtain ⟨u80, hinv⟩ := hinv; obtain ⟨u81, hinv⟩ := hinv; obtain ⟨u82, hinv⟩ := hinv; obtain ⟨u83, hinv⟩ := hinv; obtain ⟨u84, hinv⟩ := hinv; obtain ⟨u85, hinv⟩ := hinv; obtain ⟨u86, hinv⟩ := hinv; obtain ⟨u87, hinv⟩ := hinv; obtain ⟨u88, hinv⟩ := hinv; obtain ⟨u89, hinv⟩ := hinv; obtain ⟨u90, hinv⟩ := hinv; obtain ⟨u91, hinv⟩ := hinv; obtain ⟨u92, hinv⟩ := hinv; obtain ⟨u93, hinv⟩ := hinv; obtain ⟨u94, hinv⟩ := hinv; obtain ⟨u95, hinv⟩ := hinv; obtain ⟨u96, hinv⟩ := hinv; obtain ⟨u97, hinv⟩ := hinv; obtain ⟨u98, hinv⟩ := hinv; obtain ⟨u99, hinv⟩ := hinv; obtain ⟨NC, hinv⟩ := hinv; obtain ⟨Pw, hinv⟩ := hinv; obtain ⟨Oj, hinv⟩ := hinv; obtain ⟨P5, hinv⟩ := hinv; obtain ⟨NH, hinv⟩ := hinv; obtain ⟨NT, hinv⟩ := hinv; obtain ⟨PK, hinv⟩ := hinv; obtain ⟨PO, hinv⟩ := hinv; obtain ⟨OM, hinv⟩ := hinv; obtain ⟨i, ds, hgi, ha, hM⟩ := hinv; subst ha; intro J K hJ hK; (try dsimp only); clear hmk
  cases gk with
  | zero =>
   (obtain rfl : i = dA.length := by omega); (have c1 : decide (dA.length < dA.length) = false := by simp); go_wp2_with (fail)
   refine tL (C := fun W => Kd.S (Kd.slice 5 (Kd.int .u8)) 88 W w.heap.size (fun _ => True) (.slice (some ⟨w.heap.size + 1 + 1, 0, none⟩) dA.length dA.length) (dW dU aH gM gQ jh fK dA) ∧ Below w.heap.size w W) (b := w.heap.size)
    ?_ ?_ ds w1 hM.out.marks ⟨mQ.all hM.out HV.out.2.2.2.1, hM.out.below⟩
   ·exact fun W D o h hb hD => ⟨Gr h.1 hD rfl, h.2.trans (belowK_b (w := w) (Nat.le_refl _) W D _ _ hb hD rfl rfl)⟩
   ·intro W h; exact ⟨_, results_tmp (show Try.f59.results = #[ResultVar.tmp 4] from rfl) _ _ _, _, rfl, h.1, h.2⟩
  | succ g0 =>
   (have c1 : decide (i < dA.length) = true := by simp; omega); have hlt : w.heap.size + 1 < w1.heap.size := bf hM.out.line; have hmm := @run_makeMap Try.prog; (go_upto_region 6 with (fail)); refine xW (fun W => kV w1 i (fun _ => false) 0 W) ?_ ?_
   ·refine ⟨?_, ?_, ⟨DataW.map [], 0, ?_, Nat.le_refl _, fun c => rfl⟩, ah (ah (ah (Below.refl _ _) _) _) _⟩
    ·exact bu (bu (heap_alloc_new w1 _) _) _
    ·have := heap_alloc_new ((w1.alloc (.cells #[.int .i64 (i : Int)] 3)).alloc (.map #[] 0)) (.cells #[.map (some (w1.heap.size + 1))] 128)
     rwa [World.size_alloc, World.size_alloc] at this
    ·have := World.ownsMap_made (H := Unit) (w1.alloc (.cells #[.int .i64 (i : Int)] 3)) Try.prog 5 (plainElem (H := Unit) Try.prog 4); rw [World.size_alloc] at this; exact this.alloc _
   intro W hR; have HR := aa.mk hR; have HM := aa.mk (hM.out.step (hR.below)); clear hR hmm hlt; have hz0 : W.cell? ⟨w.heap.size + 1, 0, none⟩ = some (.slice pE fK.length pz) := (av HM.out.line 0).trans rfl; have hz1 : W.cell? ⟨w.heap.size + 1, 1, none⟩ = some (.int .i64 gM) := (av HM.out.line 1).trans rfl; have hz2 : W.cell? ⟨w.heap.size + 1, 2, none⟩ = some (.int .i64 gQ) := (av HM.out.line 2).trans rfl; have hz3 : W.cell? ⟨w.heap.size + 1, 3, none⟩ = some (.int .i64 jh) := (av HM.out.line 3).trans rfl; have hz4 : W.cell? ⟨w.heap.size + 1, 4, none⟩ = some (.slice nS dA.length nV) := (av HM.out.line 4).trans rfl; (go_wp2_with (fail)); refine (callsIn_wide (n := 9).1 (wS 9 _ _ _ _ _ _ _ _ _ _)).mono ?_; rintro e w2 ⟨rfl, rfl⟩; have HRL := aa.mk (HR.out.step (ah (Below.refl _ _) (.cells #[.slice pE fK.length pz, .int .i64 gM, .int .i64 gQ, .int .i64 jh, .slice nS dA.length nV] 25))); have bL := heap_alloc_new W (.cells #[.slice pE fK.length pz, .int .i64 gM, .int .i64 gQ, .int .i64 jh, .slice nS dA.length nV] 25); have hB0 := ah HM.out.below (.cells #[.slice pE fK.length pz, .int .i64 gM, .int .i64 gQ, .int .i64 jh, .slice nS dA.length nV] 25); (have hsz : (W.alloc (.cells #[.slice pE fK.length pz, .int .i64 gM, .int .i64 gQ, .int .i64 jh, .slice nS dA.length nV] 25)).heap.size = W.heap.size + 1 := by simp); have hlt1 : w1.heap.size + 1 + 1 < W.heap.size := bf HR.out.mp
   have hlt0 : w.heap.size + 1 + 1 < w1.heap.size := by
    obtain ⟨cs, fo, _, h2, _⟩ := hM.out.rows; exact bf h2
   obtain ⟨bo, hbo⟩ : ∃ bo, bo = W.heap.size := ⟨_, rfl⟩; rw [← hbo] at bL hsz hlt1 ⊢; obtain ⟨W0, hW0⟩ : ∃ W0, W0 = (W.alloc (.cells #[.slice pE fK.length pz, .int .i64 gM, .int .i64 gQ, .int .i64 jh, .slice nS dA.length nV] 25)) := ⟨_, rfl⟩; rw [← hW0] at HRL bL hsz hB0 ⊢; clear hW0 hz0 hz1 hz2 hz3 hz4 hbo HR HM; (go_wp2_with (fail)); refine (wpIn_wide (n := 10)).1 ?_
   refine wpIn_rangeFunc_ownH (n := 10) rfl (by omega) (gf := 73) (lb := #[.pointer (some ⟨bo, 0, none⟩)]) rfl trivial (enters_of Try.func73 (by kernel_rfl) rfl)
    (pK 9 (by omega) bo w1.heap.size pE pz fK gM gQ jh nS nV dA HV.out.2.2.2.1 HS.out w W0 (by omega) HR0.out HR4.out hB0 (by omega) bL) I8 (Je (by omega)) (Below.refl _ _) (fun _ => rfl)
    (fun pre W => kV w1 i (jU dU aH gM gQ jh fK dA i pre) (8 * pre.length) W ∧ bo < W.heap.size)
    (fun _ _ _ => False)
    (fun pre A B row hs hg hr => ⟨hs.1.kept hg (fun r e => by have := (hr r e).1; omega), Nat.lt_of_lt_of_le hs.2 hg.size⟩)
    (fun _ _ _ _ _ hs _ _ => hs)
    ⟨HRL.out, by omega⟩
    (fun x a' W => ∃ Bx, bo < Bx ∧ kC W Bx (bP gM gQ fK dA x.1) ∧ a' = { tmps := #[.agg #[.int .i64 dU, .int .u8 aH], .agg #[.slice pE fK.length pz, .int .i64 gM, .int .i64 gQ, .int .i64 jh, .slice nS dA.length nV], .pointer (some ⟨w.heap.size, 0, none⟩), .pointer (some ⟨w.heap.size + 1, 0, none⟩), .slice none 0 0, .slice (some ⟨w.heap.size + 1 + 1, 0, none⟩) dA.length dA.length, .pointer (some ⟨w1.heap.size, 0, none⟩), .pointer (some ⟨w1.heap.size + 1 + 1, 0, none⟩), .int .i64 (x.1 : Int), .pointer (some ⟨Bx, 0, none⟩), u10, u11, u12, u13, u14, u15, .pointer (some ⟨w.heap.size + 1, 4, none⟩), .slice nS dA.length nV, .int .i64 dA.length, .slice (some ⟨w.heap.size + 1 + 1, 0, none⟩) dA.length dA.length, .pointer (some ⟨w.heap.size + 1, 4, none⟩), .slice nS dA.length nV, .int .i64 dA.length, .int .i64 i, .bool true, .int .i64 i, .map (some (w1.heap.size + 1)), .agg #[.slice pE fK.length pz, .int .i64 gM, .int .i64 gQ, .int .i64 jh, .slice nS dA.length nV], .func (.func 73) #[] #[.pointer (some ⟨bo, 0, none⟩)], .int .i64 (x.1 : Int), .agg (nums .i64 (bP gM gQ fK dA x.1)).toArray, u31, u32, u33, u34, u35, u36, u37, u38, u39, u40, u41, u42, u43, u44, u45, u46, u47, u48, u49, u50, u51, u52, u53, u54, u55, u56, u57, u58, u59, u60, u61, u62, u63, u64, u65, u66, u67, u68, u69, u70, u71, u72, u73, u74, u75, u76, u77, u78, u79, u80, u81, u82, u83, u84, u85, u86, u87, u88, u89, u90, u91, u92, u93, u94, u95, u96, u97, u98, u99, NC, Pw, Oj, P5, NH, NT, PK, PO, OM], defers := [] })
    (fun x a' _ X Y row hs hg hr => by obtain ⟨Bx, h1, h2, h3⟩ := hs; exact ⟨Bx, h1, ⟨h2.1, oK (β := Unit) Bx _ 97 () X Y row h2.2 hg (fun r e => (hr r e).2)⟩, h3⟩)
    ?assign ?body ?done ?stop
   case assign =>
    rintro l pre x W K ⟨hI, hbW⟩ hK; dsimp only [Fy]; have hlen := fD gM gQ dA (aX fK (x.1 : Int)).f1 dA.length; (have hin : (Try.prog.info? 97).map (·.size) = some 64 := by kernel_rfl); have H64 := aa.mk (show (nums .i64 (bP gM gQ fK dA x.1)).toArray.size = 64 by simp [nums, bP, hlen]); have HIN := aa.mk hin; have HA := aa.mk (ow (bP gM gQ fK dA x.1)); have HI := aa.mk hI; have hK2 := aa.mk hK; clear hlen hin hK hI
    gi_wp2_with (refine eZ rfl 97 (.tmp 9) (.tmp 30) rfl W.heap.size _ rfl rfl 97 _ (heap_alloc_new W _) (by rw [H64.out]; exact HIN.out) (by rw [H64.out]; rfl) HA.out ?_)
    rw [jm]; have hW1 := HI.out.below.size; refine hK2.out _ _ ((KeepsOthers.alloc _ _).from _) ⟨(Below.refl _ W).alloc hW1 _, fun o ho hc => bu ho _⟩ ⟨HI.out.step (ah (Below.refl _ _) _), by simp; omega⟩ ⟨W.heap.size, hbW, ⟨fD _ _ _ _ _, heap_alloc_new W _⟩, rfl⟩
   case body =>
    rintro l pre x a' W hl ⟨r, hr⟩ ⟨hI, hbW⟩ ⟨Bx, hBx, bN, rfl⟩ hlt; (have hin : (Try.prog.info? 97).map (·.size) = some 64 := by kernel_rfl); (have hin5 : (Try.prog.info? 95).map (·.size) = some 8 := by kernel_rfl); have H64 := aa.mk (show (nums .i64 (bP gM gQ fK dA x.1)).toArray.size = 64 by simp [nums, bN.1]); have HIN := aa.mk hin; have HIN5 := aa.mk hin5; have HI := aa.mk hI; have HN := aa.mk bN; have HM := aa.mk (hM.out.step hI.below); have HPL := aa.mk hlt; clear hin hin5 hI bN hlt; have hz0 : W.cell? ⟨w.heap.size + 1, 0, none⟩ = some (.slice pE fK.length pz) := (av HM.out.line 0).trans rfl; have hz1 : W.cell? ⟨w.heap.size + 1, 1, none⟩ = some (.int .i64 gM) := (av HM.out.line 1).trans rfl; have hz2 : W.cell? ⟨w.heap.size + 1, 2, none⟩ = some (.int .i64 gQ) := (av HM.out.line 2).trans rfl; have hz3 : W.cell? ⟨w.heap.size + 1, 3, none⟩ = some (.int .i64 jh) := (av HM.out.line 3).trans rfl; have hz4 : W.cell? ⟨w.heap.size + 1, 4, none⟩ = some (.slice nS dA.length nV) := (av HM.out.line 4).trans rfl; have hg0 : W.cell? ⟨w.heap.size, 0, none⟩ = some (.int .i64 dU) := (av HM.out.given 0).trans rfl; have hg1 : W.cell? ⟨w.heap.size, 1, none⟩ = some (.int .u8 aH) := (av HM.out.given 1).trans rfl
    gi_wp2_with (refine kM rfl 97 (.tmp 9) rfl Bx rfl 97 _ (0, 0) _ HN.out.2 Try.underlying97 rfl (by rw [H64.out]; exact HIN.out) ?_)
    refine ⟨trivial, (CallsIn.inRound l (callsIn_wide.2 (sums.calls dU aH pE pz fK gM gQ jh nS dA.length nV x.1 (bP gM gQ fK dA x.1) W (Kd.cu HR0.out HM.out.below) x.2 HN.out.1 HV.out.2.2.2.1 (HS.out x.1 x.2)))).mono ?_⟩; rintro e w2 ⟨rfl, hb⟩; obtain ⟨es, hes⟩ : ∃ es, es = (dZ dU aH (bP gM gQ fK dA x.1) (aX fK (x.1 : Int)).f1 dA.length).1 := ⟨_, rfl⟩; obtain ⟨tot, htot⟩ : ∃ tot, tot = (dZ dU aH (bP gM gQ fK dA x.1) (aX fK (x.1 : Int)).f1 dA.length).2 := ⟨_, rfl⟩; rw [← hes, ← htot]; (have hel : es.length = 8 := by rw [hes]; exact gT _ _ _ _ _); have HE := aa.mk (show (nums .i64 es).toArray.size = 8 by simp [nums, hel]); have HEL := aa.mk hel; have HA := aa.mk (ow es); have HES := aa.mk (And.intro hes htot); have HB2 := aa.mk hb; have HI2 := aa.mk (HI.out.step hb); have HN2 := aa.mk (HN.out.below hb); have HM2 := aa.mk (hM.out.step HI2.out.below); clear hes htot hel hb hz0 hz1 hz2 hz3 hz4 hg0 hg1
    gi_upto_region 10 with (refine eZ rfl 95 (.tmp 10) (.tmp 37) rfl w2.heap.size _ rfl rfl 95 _ (heap_alloc_new w2 _) (by rw [HE.out]; exact HIN5.out) (by rw [HE.out]; rfl) HA.out ?_; rw [jm])
    refine wT (fun W3 => jg w1 i (jU dU aH gM gQ jh fK dA i pre) (8 * pre.length) bo W0.heap.size Bx w2.heap.size (bP gM gQ fK dA x.1) es W W3) ?_ ?_
    ·exact ⟨HI2.out.step (ah (Below.refl _ _) _), HN2.out.below (ah (Below.refl _ _) _), ⟨HEL.out, heap_alloc_new w2 _⟩, ((iF HB2.out).trans (KeepsOthers.alloc _ _)).from _,
      ⟨(HB2.out.mono HI.out.below.size).alloc (Nat.le_trans HI.out.below.size HB2.out.size) _, fun o ho _ => bu ((HB2.out.block _ (bf ho)).trans ho) _⟩⟩
    intro W3 hM3; have HM3 := aa.mk hM3; have HL3 := aa.mk (hM.out.step hM3.rnd.below); obtain ⟨By, hBy⟩ : ∃ By, By = w2.heap.size := ⟨_, rfl⟩; (have hByb : w1.heap.size + 1 + 1 < By := by rw [hBy]; exact bf HI2.out.mp); rw [← hBy] at HM3 ⊢; clear hM3 HM2 HN2 HI2 HB2 hBy; have hz0 : W3.cell? ⟨w.heap.size + 1, 0, none⟩ = some (.slice pE fK.length pz) := (av HL3.out.line 0).trans rfl; obtain ⟨ad, A2, c2, e, hx0, hx1, hx2, hl2, hi2⟩ := oF HR0.out x.1 (by omega) (by have := x.2; omega); cases e; rw [Int.toNat_natCast] at hx0 hx1 hx2; obtain ⟨sh, hsh⟩ : ∃ sh, sh = (aX fK (x.1 : Int)).f1 := ⟨_, rfl⟩; rw [← hsh] at hx2 hl2 hi2; have hx2' := (HL3.out.below.cell (World.block_lt_of_cell? w _ hx2)).trans hx2; have HI := aa.mk hi2; have HSL := aa.mk (show sh.length ≤ 8 by rw [hsh]; exact HS.out x.1 x.2); have HSHX := aa.mk hsh; have hxlt := x.2; clear hx0 hx1 hx2 hi2 hsh
    gi_wp2_with (fail)
    gi_loopg [46] sh.length (fun g v46 wr => ∃ k : Nat, k + g = sh.length ∧ v46 = .int .i64 k ∧ aa (jg w1 i (fun c => jU dU aH gM gQ jh fK dA i pre c || jX dU aH gM gQ jh fK dA i x.1 k c) (8 * pre.length + k) bo W0.heap.size Bx By (bP gM gQ fK dA x.1) es W wr))
    case atStart => exact ⟨0, by omega, rfl, ⟨{ HM3.out with rnd := { HM3.out.rnd with set := HM3.out.rnd.set.congr (fun c => by simp [jX]) } }⟩⟩
    case round =>
     clear hz0 hx2' HM3 HL3; obtain ⟨k, hkg, rfl, HB⟩ := hrel
     cases gk with
     | zero =>
      obtain rfl : k = sh.length := by omega
      gi_wp2_with (fail)
      refine ⟨HB.out.keeps, HB.out.kp, ⟨HB.out.rnd.sq, HB.out.rnd.mp, (HB.out.rnd.set.more ?_).congr ?_, HB.out.rnd.below⟩, Nat.lt_of_lt_of_le hbW HB.out.kp.1.size⟩
      ·have := HSL.out; simp; omega
      ·intro c; rw [Ad, ← HSHX.out]
     | succ g2 =>
      (have ck : decide (k < sh.length) = true := by simp; omega); obtain ⟨bd, e, hx0, hx1⟩ := lS HI.out k (by omega) (by omega); cases e; rw [Int.toNat_natCast] at hx0 hx1; have HL := aa.mk (hM.out.step HB.out.rnd.below); replace hx0 := (HL.out.below.cell (World.block_lt_of_cell? w _ hx0)).trans hx0; replace hx1 := (HL.out.below.cell (World.block_lt_of_cell? w _ hx1)).trans hx1; obtain ⟨sk, hsk⟩ : ∃ sk, sk = bn sh (k : Int) := ⟨_, rfl⟩; rw [← hsk] at hx0 hx1; have HSK := aa.mk hsk; clear hsk; have HN' := aa.mk hkg
      gi_upto_region 13 with (fail)
      obtain ⟨bs, hbs⟩ : ∃ bs, bs = wr.heap.size := ⟨_, rfl⟩; refine wT (fun W4 => jg w1 i (fun c => jU dU aH gM gQ jh fK dA i pre c || jX dU aH gM gQ jh fK dA i x.1 k c) (8 * pre.length + k) bo W0.heap.size Bx By (bP gM gQ fK dA x.1) es W W4 ∧ W4.heap[bs]? = some (.cells #[.int .u8 sk.f0, .int .i64 sk.f1] 86 (0, 0))) ⟨HB.out.step (ah (Below.refl _ _) _), by rw [hbs]; exact heap_alloc_new wr _⟩ ?_; intro W4 hM4; have HM4 := aa.mk hM4.1; have HS4 := aa.mk hM4.2; have HL4 := aa.mk (hM.out.step hM4.1.rnd.below); rw [← hbs]; clear hM4 HL HB hx0 hx1 hbs hkg; have hg0 := cell_regrown ((av HL4.out.given 0).trans rfl : W4.cell? ⟨w.heap.size, 0, none⟩ = some (.int .i64 dU)); have hg1 := cell_regrown ((av HL4.out.given 1).trans rfl : W4.cell? ⟨w.heap.size, 1, none⟩ = some (.int .u8 aH)); have hz3 := cell_regrown ((av HL4.out.line 3).trans rfl : W4.cell? ⟨w.heap.size + 1, 3, none⟩ = some (.int .i64 jh)); have hsq := cell_regrown ((av HM4.out.rnd.sq 0).trans rfl : W4.cell? ⟨w1.heap.size, 0, none⟩ = some (.int .i64 (i : Int))); have hs0 := cell_regrown ((av HS4.out 0).trans rfl : W4.cell? ⟨bs, 0, none⟩ = some (.int .u8 sk.f0)); have hs1 := cell_regrown ((av HS4.out 1).trans rfl : W4.cell? ⟨bs, 1, none⟩ = some (.int .i64 sk.f1)); (have hk8 : k < 8 := by have := HSL.out; have := HN'.out; omega); (have hi8 : i < 8 := by have := HV.out.2.2.2.1; omega); obtain ⟨nv, hnv⟩ : ∃ nv, nv = (bP gM gQ fK dA x.1).getD (i * 8 + k) 0 := ⟨_, rfl⟩; obtain ⟨ev, hev⟩ : ∃ ev, ev = es.getD i 0 := ⟨_, rfl⟩; have hn0 := HM4.out.arr.cell (i * 8 + k) (by omega); have he0 := HM4.out.eac.cell i hi8; rw [← hnv] at hn0; rw [← hev] at he0; have hn := cell_regrown hn0; have he := cell_regrown he0; (have bi : (i : Int) < 8 := by omega); (have bk : (k : Int) < 8 := by omega); have HNV := aa.mk hnv; have HEV := aa.mk hev; clear hn0 he0 hnv hev
      have HH := aa.mk (show yG dU aH gM gQ jh fK dA i x.1 k = (ug dU aH (i : Int) sk && decide (nv < 1048576) && decide (IntKind.i64.wrap (IntKind.i64.wrap (tot - ev) + nv) ≤ jh)) by
       rw [HSK.out, HNV.out, HEV.out, HES.out.1, HES.out.2, HSHX.out, ← w64, ← w64]; rfl)
      cases hmay : ug dU aH (i : Int) sk with
      | false =>
       refine ji (by kernel_rfl) (by kernel_rfl) (by kernel_rfl) ?_
       repeat
        (refine wpQuietIn_step (fun _ _ _ _ => trivial) (fun K hK => ?_)
         go_simp
         first
          | (refine hK _ ?_; clear hK K)
          | (apply Exists.intro
             refine ⟨fun _ => ?_, hK _ ?_⟩; (refine CallsIn.regrown_of (CallsIn.inRound l (callsIn_wide.2 (ol dU aH i sk _))))
             clear hK K))
       refine wpQuietIn_nil ?_; rintro _ ⟨p, rfl⟩; obtain ⟨W5, hW5⟩ : ∃ W5, W5 = Go.Sort.grow (redrawn W4 p.d) p.os := ⟨_, rfl⟩; have hb5 := below_regrown W4 p.d p.os; rw [← hW5] at hb5 ⊢; have HM5 := aa.mk (HM4.out.step hb5); have HS5 := aa.mk ((hb5.block _ (bf HS4.out)).trans HS4.out); clear hg0 hg1 hz3 hsq hs0 hs1 hn he hb5 hW5; have HF := aa.mk (show yG dU aH gM gQ jh fK dA i x.1 k = false from HH.out.trans (by simp [hmay]))
       gi_wp2_with (fail)
       gi_roundg g2
       (case measure => omega); case rel => exact ⟨k + 1, by have := HN'.out; omega, by go_num, ⟨(HM5.out.more (by omega)).congr (fun c => by rw [jX, HF.out]; simp)⟩⟩
      | true =>
       cases hc1 : decide (nv < 1048576) with
       | false =>
        refine ji (by kernel_rfl) (by kernel_rfl) (by kernel_rfl) ?_
        repeat
         (refine wpQuietIn_step (fun _ _ _ _ => trivial) (fun K hK => ?_)
          go_simp
          first
           | (refine hK _ ?_; clear hK K)
           | (apply Exists.intro
              refine ⟨fun _ => ?_, hK _ ?_⟩; (refine CallsIn.regrown_of (CallsIn.inRound l (callsIn_wide.2 (ol dU aH i sk _))))
              clear hK K))
        refine wpQuietIn_nil ?_; rintro _ ⟨p, rfl⟩; obtain ⟨W5, hW5⟩ : ∃ W5, W5 = Go.Sort.grow (redrawn W4 p.d) p.os := ⟨_, rfl⟩; have hb5 := below_regrown W4 p.d p.os; rw [← hW5] at hb5 ⊢; have HM5 := aa.mk (HM4.out.step hb5); have HS5 := aa.mk ((hb5.block _ (bf HS4.out)).trans HS4.out); clear hg0 hg1 hz3 hsq hs0 hs1 hn he hb5 hW5; have HF := aa.mk (show yG dU aH gM gQ jh fK dA i x.1 k = false from HH.out.trans (by simp [hmay, hc1]))
        gi_wp2_with (fail)
        gi_roundg g2
        (case measure => omega); case rel => exact ⟨k + 1, by have := HN'.out; omega, by go_num, ⟨(HM5.out.more (by omega)).congr (fun c => by rw [jX, HF.out]; simp)⟩⟩
       | true =>
        cases hc2 : decide (IntKind.i64.wrap (IntKind.i64.wrap (tot - ev) + nv) ≤ jh) with
        | false =>
         refine ji (by kernel_rfl) (by kernel_rfl) (by kernel_rfl) ?_
         repeat
          (refine wpQuietIn_step (fun _ _ _ _ => trivial) (fun K hK => ?_)
           go_simp
           first
            | (refine hK _ ?_; clear hK K)
            | (apply Exists.intro
               refine ⟨fun _ => ?_, hK _ ?_⟩; (refine CallsIn.regrown_of (CallsIn.inRound l (callsIn_wide.2 (ol dU aH i sk _))))
               clear hK K))
         refine wpQuietIn_nil ?_; rintro _ ⟨p, rfl⟩; obtain ⟨W5, hW5⟩ : ∃ W5, W5 = Go.Sort.grow (redrawn W4 p.d) p.os := ⟨_, rfl⟩; have hb5 := below_regrown W4 p.d p.os; rw [← hW5] at hb5 ⊢; have HM5 := aa.mk (HM4.out.step hb5); have HS5 := aa.mk ((hb5.block _ (bf HS4.out)).trans HS4.out); clear hg0 hg1 hz3 hsq hs0 hs1 hn he hb5 hW5; have HF := aa.mk (show yG dU aH gM gQ jh fK dA i x.1 k = false from HH.out.trans (by simp [hmay, hc1, hc2]))
         gi_wp2_with (fail)
         gi_roundg g2
         (case measure => omega); case rel => exact ⟨k + 1, by have := HN'.out; omega, by go_num, ⟨(HM5.out.more (by omega)).congr (fun c => by rw [jX, HF.out]; simp)⟩⟩
        | true =>
         refine ji (by kernel_rfl) (by kernel_rfl) (by kernel_rfl) ?_
         repeat
          (refine wpQuietIn_step (fun _ _ _ _ => trivial) (fun K hK => ?_)
           go_simp
           first
            | (refine hK _ ?_; clear hK K)
            | (apply Exists.intro
               refine ⟨fun _ => ?_, hK _ ?_⟩; (refine CallsIn.regrown_of (CallsIn.inRound l (callsIn_wide.2 (ol dU aH i sk _))))
               clear hK K))
         refine wpQuietIn_nil ?_; rintro _ ⟨p, rfl⟩; obtain ⟨W5, hW5⟩ : ∃ W5, W5 = Go.Sort.grow (redrawn W4 p.d) p.os := ⟨_, rfl⟩; have hb5 := below_regrown W4 p.d p.os; rw [← hW5] at hb5 ⊢; have HM5 := aa.mk (HM4.out.step hb5); have HS5 := aa.mk ((hb5.block _ (bf HS4.out)).trans HS4.out); clear hg0 hg1 hz3 hsq hs0 hs1 hn he hb5 hW5; have HF := aa.mk (show yG dU aH gM gQ jh fK dA i x.1 k = true from HH.out.trans (by simp [hmay, hc1, hc2])); obtain ⟨D, nn, hown, hnn, hhas⟩ := HM5.out.rnd.set; have hlet := zM HV.out.2.2.2.2.1 x.1 k hxlt (by rw [← HSHX.out]; have := HN'.out; omega); rw [← HSHX.out, ← HSK.out] at hlet
         have hkey : keyOf Try.prog 5 (.int .u8 sk.f0) = some (.int .u8 sk.f0) := by
          have hwf : (Lit.int .u8 sk.f0).wf = true := by
           have e1 : IntKind.u8.min = 0 := rfl; have e2 : IntKind.u8.max = 255 := rfl; simp only [Lit.wf, e1, e2]; simp; omega
          simp [keyOf, mapKey, Try.underlying5, hwf]
         have hmx : nn < maxLen := by
          have := HPL.out; have := HV.out.2.1; have := HSL.out; unfold maxLen; omega
         have HOWN := aa.mk hown; have HHAS := aa.mk hhas; have hq := (av HM5.out.rnd.mp 0).trans rfl; have hs0 : W5.cell? ⟨bs, 0, none⟩ = some (.int .u8 sk.f0) := (av HS5.out 0).trans rfl; have hmp : W5.cell? ⟨w1.heap.size + 1 + 1, 0, none⟩ = some (.map (some (w1.heap.size + 1))) := hq; clear hown hhas hq
         gi_wp2_with (refine wpListIn_mapUpdate_own W5 rfl (.tmp 79) (.tmp 81) (.const (.bool true)) 128 rfl 5 4 (Maps.int_keyed Try.underlying5) Try.underlying128 (plainElem Try.prog 4) (w1.heap.size + 1) nn D rfl HOWN.out hmx (.int .u8 sk.f0) (.bool true) (.int .u8 sk.f0) rfl rfl hkey (.lit (.bool true)) [] (plainElem_bool Try.underlying4 true) ?_; intro w6 r1 r2; have R1 := aa.mk r1; have R2 := aa.mk r2; clear r1 r2)
         gi_roundg g2
         case measure => omega
         case rel =>
          refine ⟨k + 1, by have := HN'.out; omega, by go_num, ⟨(HM5.out.turn R2.out (kP.put R1.out HOWN.out.isMap (show nn + 1 ≤ 8 * pre.length + (k + 1) by omega) HHAS.out) (by omega) (by omega) (by omega) (by omega)).congr (fun c => ?_)⟩⟩; rw [jX, HF.out, ← HSHX.out, ← HSK.out]; simp [Bool.or_assoc]
   case done =>
    rintro D ys W hD rfl ⟨hR, hbW⟩ hKD; obtain ⟨DD, nn, hown, hnn, hhas⟩ := hR.set; have HOWN := aa.mk hown; have HHAS := aa.mk hhas; have HNN := aa.mk (show nn ≤ 8 * fK.length by simpa using hnn); have HR := aa.mk hR; have HKD := aa.mk hKD; have hmp : W.cell? ⟨w1.heap.size + 1 + 1, 0, none⟩ = some (.map (some (w1.heap.size + 1))) := (av hR.mp 0).trans rfl; have HDS := aa.mk (show w1.heap.size ≤ D by omega); clear hown hhas hnn hR hKD HRL bL hB0 hsz hD; go_wp2_with (at_range; refine wpList_range_own _ rfl (.tmp 83) 128 rfl 5 4 (Maps.int_keyed Try.underlying5) Try.underlying128 _ (w1.heap.size + 1) nn DD rfl HOWN.out ?_; intro w3 hrg hg3 hs3)
    go_frame
    (go_loopg [14] (Maps.size DD) (fun g v14 wr => ∃ (left : Lit → Bool) (ss : List Int), aa (wr.ranges Try.prog 5 (plainElem (H := Unit) Try.prog 4) (w1.heap.size + 1) W.heap.size nn DD left g) ∧ aa (ss.length + g ≤ Maps.size DD) ∧ aa (Kd.R (Kd.int .u8) 5 wr W.heap.size (fun k => k ≠ W.heap.size) v14 ss) ∧ aa (sS (jU dU aH gM gQ jh fK dA i (List.finRange fK.length)) left ss) ∧ aa (Below W.heap.size W wr) ∧ aa (W.heap.size < wr.heap.size))); case atStart => exact ⟨_, [], ⟨hrg⟩, ⟨by simp⟩, ⟨Kd.qP _ _ _ _ _⟩, ⟨sS.start HHAS.out⟩, ⟨(Below.refl _ _).grown hg3 (Nat.le_refl _) (fun j hj => by cases hj)⟩, ⟨by omega⟩⟩
    case round =>
     clear hrg hg3 hs3 hmp; obtain ⟨left, ss, hrg, hcs, hrow, hC, hB, hlt⟩ := hrel
     have hss : ss.length + gk ≤ 32 := by
      have h1 := hcs.out; have h2 := HOWN.out.size_le; have h3 := HNN.out; have h4 := HV.out.2.1; omega
     go_wp2_with (at_next; refine wpList_next_ranges _ rfl (.tmp 84) rfl 5 (Maps.int_keyed Try.underlying5) (plainElem Try.prog 4) (Value.int .u8) (fun v : Value => v) (fun key kl hk => by obtain ⟨x, e, _⟩ := H6 hk; exact ⟨x, e⟩) (fun v y hv => ⟨v, rfl⟩) (w1.heap.size + 1) W.heap.size nn DD left gk rfl hrg.out ?_ ?_)
     ·intro hc0 hl0; obtain ⟨T, hT⟩ : ∃ T, T = dN dU aH gM gQ jh fK dA i := ⟨_, rfl⟩; have hTm : T.length ≤ 256 := HSH.out T (by rw [hT]; exact List.mem_map.2 ⟨i, by simp; omega, rfl⟩); (have hp : T.Perm ss := by rw [hT]; exact hC.out.perm hl0); (have hsl : ss.length ≤ 256 := by rw [← hp.length_eq]; exact hTm); (have hts : T.Pairwise (· ≤ ·) := by rw [hT]; exact xB _ _ _ _ _ _ _ _); have HSORT := aa.mk (Ja (fun k => k ≠ W.heap.size) u14 ss T W wr hB.out hrow.out (Nat.le_trans hsl (by decide)) hts hp); have HTT := aa.mk hT; (have hms : ∀ X : World, (Instr.makeSlice 88 (.int .i64 (T.length : Int)) (.int .i64 (T.length : Int))).run Try.prog X = .ok (.slice (some ⟨X.heap.size, 0, none⟩) T.length T.length) (X.alloc (.cells (madeCells #[.int .u8 0] T.length) 5)) := fun X => GX X _ (by omega)); clear hp hts hsl hT hc0 hl0 hss; (go_upto_region 22 with (go_at_call 79; refine HSORT.out.mono ?_; rintro e w6 ⟨rfl, q1, q2, q3⟩; have Q1 := aa.mk q1; have Q2 := aa.mk q2; clear q1 q2 q3)); obtain ⟨A14, c14, rfl⟩ := Kd.dB Q1.out; have HR6 := aa.mk (HR.out.step Q2.out); have HM6 := aa.mk (hM.out.step HR6.out.below); obtain ⟨cs, fo, h1, h2, h3, h4⟩ := HM6.out.rows; have HC6 := aa.mk h2; have hsq : w6.cell? ⟨w1.heap.size, 0, none⟩ = some (.int .i64 (i : Int)) := (av HR6.out.sq 0).trans rfl; obtain ⟨uo, hco⟩ : ∃ uo, w6.cell? ⟨w.heap.size + 1 + 1, i, none⟩ = some uo := ⟨_, (av h2 i).trans (Array.getElem?_eq_getElem (by omega))⟩; have hfo : w6.frozen? ⟨w.heap.size + 1 + 1, i, none⟩ = false := aK h2 i; have hlt6 : w.heap.size + 1 + 1 < w6.heap.size := bf h2; have hlt7 : w1.heap.size < w6.heap.size := bf HR6.out.sq; (have hi4 : i < dA.length := by omega); (have hi5 : (i : Int) < (dA.length : Int) := by omega); clear h1 h2 h3 h4; refine Dt ?_; go_region_with (fail)
      all_goals
       have hV : (w6.setCell ⟨w.heap.size + 1 + 1, i, none⟩ (.slice (some ⟨w6.heap.size, 0, none⟩) T.length T.length)).heap.size = w6.heap.size := by simp
       have hmade := OE (w6.setCell ⟨w.heap.size + 1 + 1, i, none⟩ (.slice (some ⟨w6.heap.size, 0, none⟩) T.length T.length)) T.length w6.heap.size (by omega) (by rw [hV]; exact Nat.le_refl _)
       rw [hV] at hmade
       have hxo : (((w6.setCell ⟨w.heap.size + 1 + 1, i, none⟩ (.slice (some ⟨w6.heap.size, 0, none⟩) T.length T.length)).alloc (.cells (madeCells #[.int .u8 0] T.length) 5)).drew).heap[w.heap.size + 1 + 1]? = some (.cells (cs.setIfInBounds i (.slice (some ⟨w6.heap.size, 0, none⟩) T.length T.length)) 88 (0, 0)) :=
        bH (bu (heap_setCell_same w6 _ i _ _ _ HC6.out) _)
       have hxb : ∀ k, k < w6.heap.size → k ≠ w.heap.size + 1 + 1 → (((w6.setCell ⟨w.heap.size + 1 + 1, i, none⟩ (.slice (some ⟨w6.heap.size, 0, none⟩) T.length T.length)).alloc (.cells (madeCells #[.int .u8 0] T.length) 5)).drew).heap[k]? = w6.heap[k]? := fun k hk hne => by
        have e1 := Below.heap_setCell w6 ⟨w.heap.size + 1 + 1, i, none⟩ (.slice (some ⟨w6.heap.size, 0, none⟩) T.length T.length) k hne; have e2 := (ah (Below.refl _ (w6.setCell ⟨w.heap.size + 1 + 1, i, none⟩ (.slice (some ⟨w6.heap.size, 0, none⟩) T.length T.length))) (.cells (madeCells #[.int .u8 0] T.length) 5)).block k (by rw [hV]; exact hk); exact e2.trans e1
       have hxw : Below w.heap.size w (((w6.setCell ⟨w.heap.size + 1 + 1, i, none⟩ (.slice (some ⟨w6.heap.size, 0, none⟩) T.length T.length)).alloc (.cells (madeCells #[.int .u8 0] T.length) 5)).drew) :=
        bQ (ah (bK HM6.out.below (by omega)) _)
       have hxR := Kd.mG hmade
       have hxs : w6.heap.size < (((w6.setCell ⟨w.heap.size + 1 + 1, i, none⟩ (.slice (some ⟨w6.heap.size, 0, none⟩) T.length T.length)).alloc (.cells (madeCells #[.int .u8 0] T.length) 5)).drew).heap.size := by
        simp [World.drew]
       obtain ⟨X, hX⟩ : ∃ X, X = (((w6.setCell ⟨w.heap.size + 1 + 1, i, none⟩ (.slice (some ⟨w6.heap.size, 0, none⟩) T.length T.length)).alloc (.cells (madeCells #[.int .u8 0] T.length) 5)).drew) := ⟨_, rfl⟩
       rw [← hX] at hxo hxb hxw hxR hxs ⊢
       have hWw := HR.out.below.size
       have hlt0' : w.heap.size + 1 + 1 < w1.heap.size := hlt0
       have hxT : Kd.R (Kd.int .u8) 5 X W.heap.size (fun _ => True) (.slice A14 T.length c14) T := Kd.dV (Kd.pV (Kd.ib Q1.out) (fun k hk => hxb k hk.2.2.1 (by have := hk.2.1; omega))) (fun _ _ => trivial)
       have HXC := aa.mk (Kd.bF hxT).2.2
       have HXR := aa.mk hxR
       have HXB := aa.mk hxb
       have HXO := aa.mk hxo
       have HXW := aa.mk hxw
       have hsq' : X.cell? ⟨w1.heap.size, 0, none⟩ = some (.int .i64 (i : Int)) := (av ((hxb _ hlt7 (by omega)).trans HR6.out.sq) 0).trans rfl
       have hxv : X.cell? ⟨w.heap.size + 1 + 1, i, none⟩ = some (.slice (some ⟨w6.heap.size, 0, none⟩) T.length T.length) := by
        obtain ⟨cs', fo', g1, g2, _⟩ := HM6.out.rows; rw [HC6.out] at g2; injection g2 with g2; injection g2 with g2; subst g2; rw [av hxo i]; simp [g1, hi4]
       have hWD : W.heap[D]? = some (.deferred (some [])) := HKD.out
       have HDL := aa.mk (show D < w6.heap.size by have := bf hWD; have := Q2.out.size; omega)
       have HXD := aa.mk ((hxb D HDL.out (by have := HDS.out; omega)).trans ((Q2.out.block D (bf hWD)).trans hWD))
       clear hV hmade hxo hxb hxw hxR hX hsq hco hfo hxT hWD hms
       refine Fs ?_
       go_wp2_with (refine Kd.P7 (enc := Value.int .u8) 0 (w0 := X) w6.heap.size rfl (.tmp 104) (.tmp 105) 88 88 5 rfl Try.underlying88 (by kernel_rfl) (.slice (some ⟨w6.heap.size, 0, none⟩) T.length T.length) (List.replicate T.length 0) T A14 T.length c14 (fun k => k = w6.heap.size) rfl rfl HXR.out HXC.out (Below.refl _ _) (Nat.le_of_lt hxs) ?_; intro w8 r8 b8 g8; have R8 := aa.mk r8; have B8 := aa.mk b8; have G8 := aa.mk g8; clear r8 b8 g8)
       have hT8 : List.take (min T.length (List.replicate T.length (0 : Int)).length) T ++ List.drop (min T.length (List.replicate T.length (0 : Int)).length) (List.replicate T.length (0 : Int)) = T := by simp
       have r8 := R8.out
       rw [hT8, HTT.out] at r8
       have hx6 : w1.heap.size ≤ w6.heap.size := Nat.le_of_lt hlt7
       rw [rR i dA.length hi4 (by have := HV.out.2.2.2.1; omega)]
       refine Handed.intro g0 (by omega) (hJ _ _ _ ⟨_, _, _, _, _, _, _, _, _, _, _, _, _, _, _, _, _, _, _, _, _, _, _, _, _, _, _, _, _, _, _, _, _, _, _, _, _, _, _, _, _, _, _, _, _, _, _, _, _, _, _, _, _, _, _, _, _, _, _, _, _, _, _, _, _, _, _, _, _, _, _, _, _, _, _, _, _, _, _, _, _, _, _, _, _, _, _, _, _, _, _, _, _, _, _, i + 1, { target := .collected D, args := #[] } :: ds, by omega, rfl, ⟨mQ.next hM.out hi4 (HXW.out.trans (B8.out.mono (by omega))) (fun k hk hne => (B8.out.block k (by omega)).trans ((HXB.out k (by omega) hne).trans (HR6.out.below.block k hk))) (fun cs' h' => ?_) rfl (by omega) (Kd.eU (Kd.dV r8 (fun _ _ => trivial)) hx6) ((B8.out.block D HDL.out).trans HXD.out) HDS.out⟩⟩)
       have e6 := (HR6.out.below.block _ hlt0').trans h'
       rw [HC6.out] at e6
       injection e6 with e6
       injection e6 with e6
       subst e6
       have hx9 := HXO.out
       rw [HTT.out] at hx9
       exact (B8.out.block _ hlt6).trans hx9
     ·intro x c kl yd yp w4 cnt2 hkey hlk hv hat hrg2 hlt2 hg2 hs2 hen; obtain ⟨x', ex, rfl, hwf⟩ := H6 hkey; (obtain rfl : x = x' := by simpa using ex); have HX := aa.mk (hC.out.step hlk ((HHAS.out x).symm.trans (Maps.has_true_of_atKey hat)) (wf_u8.1 hwf)); have hbw := hrow.out; (have hnr : ∀ k, u14.ownBlock = some k → k ≠ W.heap.size ∧ W.heap.size ≤ k := fun k e => ⟨((Kd.ib hrow.out).1 k e).1, ((Kd.ib hrow.out).1 k e).2.1⟩); have HO := aa.mk (Kd.DN hrow.out hg2 (fun k hk e => hk (by injection e))); have HB4 := aa.mk (hB.out.grown hg2 (Nat.le_of_lt hlt.out) (fun j hj => by cases hj; exact Nat.le_refl _)); have HL4 := aa.mk (show W.heap.size < w4.heap.size by rw [hs2]; exact hlt.out); have HRG := aa.mk hrg2; have HNR := aa.mk hnr; have HLT := aa.mk hlt2; clear hkey hlk hv hat hrg2 hg2 hs2 hwf hbw hnr hlt2; (go_wp2_with (refine Kd.zW (Value.int .u8) 0 (w0 := W) W.heap.size rfl (.tmp 89) (.tmp 91) 88 5 (.int .u8 0) 1 rfl Try.underlying88 (by kernel_rfl) rfl (by decide) u14 ss [x] (some ⟨w4.heap.size, 0, none⟩) 1 1 (fun k => k ≠ W.heap.size) rfl rfl (fun k hk => by have := HL4.out; simp at hk; omega) (Kd.bZ HO.out (ah (Below.refl _ _) _)) (Ov ((World.cell?_alloc_at _ _ _ _ rfl).trans rfl)) (ah HB4.out _) (by have := HL4.out; simp; omega) (by omega) ?_; intro v1 w5 hr5 hb5 hg5 hat5)); have HRG5 := aa.mk ((HRG.out.alloc _).kept hg5 (fun e => by have := (HNR.out _ e.symm).2; omega) (fun e => (HNR.out _ e.symm).1 rfl)); have hs5 := hg5.size; go_roundg cnt2; (case measure => exact HLT.out); case rel => exact ⟨_, ss ++ [x], HRG5, ⟨by have := hcs.out; have := HLT.out; simp; omega⟩, ⟨hr5⟩, HX, ⟨hb5⟩, ⟨by have := HL4.out; simp at hs5; omega⟩⟩
   case stop =>
    rintro D c pre W _ _ h _; exact h.elim
end Go.Proofs.Ytihedeofkhapiaa.Pr
end
section
namespace Go.Proofs.Ytihedeofkhapiaa.Pr
open Go.RowKit Go.Proofs.YtihedeofkhapiaaW.PrintWords Go.Proofs.YtihedeofkhapiaaW.PrintLast Go.Proofs.YtihedeofkhapiaaW.PrintMore
attribute [local go_sem] kW kK mg lY lm lg mH mW
def aQ.l0 : Nat → List ByteArray → List (List Int) → Int → Int → Option (List ByteArray × Int)
 | 0, _, _, _, _ => none
 | k + 1, x6, x19, x20, x21 => if x21 < x20 then (if 0 ≤ x21 then (if x21 < (x19.length : Int) then (if x6.length < 8796093022208 then (aQ.l0 k (x6 ++ [strOfNums (pQ x19 x21)]) x19 x20 (wrap64 (x21 + 1))) else (none)) else (none)) else (none)) else (some (x6, 0))
def aQ.f (k : Nat) (aG : List (S66)) (aH : Int) (aW : Int) (bg : Int) (aA : List (List (S27))) : Option (List ByteArray × Int) := (dJ.f aG aH aW bg aA).bind fun Br => (if Br.2 = 0 then ((eu.f (-1) 0 aG aH aW bg aA).bind fun mD => (aQ.l0 k ([] : List ByteArray) mD (mD.length : Int) 0)) else (some (([] : List ByteArray), Br.2)))
theorem aQ.dF : ∀ k, (∀ y0 y1 y2 y3, LeO (aQ.l0 k y0 y1 y2 y3) (aQ.l0 (k + 1) y0 y1 y2 y3))
 | 0 => fun _ _ _ _ r h => by simp [aQ.l0] at h
 | k + 1 => by
  have ih0 := aQ.dF k
  ·intro y0 y1 y2 y3; unfold aQ.l0
   repeat' first | (with_reducible exact ih0 _ _ _ _) | (with_reducible exact LeO.refl _) | (with_reducible refine LeO.ite ?_ ?_)
theorem aQ.mono : ∀ a0 a1 a2 a3 a4 k, LeO (aQ.f k a0 a1 a2 a3 a4) (aQ.f (k + 1) a0 a1 a2 a3 a4) := by
 intro a0 a1 a2 a3 a4 k; have ih0 := aQ.dF k; unfold aQ.f
 repeat' first | (with_reducible exact ih0 _ _ _ _) | (with_reducible exact LeO.refl _) | (with_reducible refine LeO.ite ?_ ?_) | (with_reducible refine LeO.bind ?_ (fun _ => ?_))
set_option maxHeartbeats 8000000 in
set_option maxRecDepth 100000 in
theorem aQ.calls (k : Nat) (df : Option Addr) (bW : Nat) (aG : List (S66)) (aH : Int) (aW : Int) (bg : Int) (cZ : Option Addr) (bY : Nat) (aA : List (List (S27))) (r1 : List ByteArray) (r2 : Int) (w : World) (jB : Kd.C k66 w df aG.length aG) (kD : aG.length ≤ bW) (jC : Kd.C (Kd.slice 27 k27) w cZ aA.length aA) (kF : aA.length ≤ bY) (h : aQ.f k aG aH aW bg aA = some (r1, r2)) :
 Calls Try.prog 24 #[.agg #[.slice df aG.length bW, .int .i64 aH, .int .i64 aW, .int .i64 bg, .slice cZ aA.length bY]] w fun e w' => ∃ v0_ : Value, e = .returned (.tuple #[v0_, .int .i64 r2]) ∧ Kd.R Kd.string 9 w' w.heap.size (fun _ => True) v0_ r1 ∧ Below w.heap.size w w' := by
 have hu25 := Try.underlying25; have hu100 := Try.underlying100; have pg := aa.mk jB; have qV := aa.mk kD; clear jB kD; have kv := aa.mk jC; have qW := aa.mk kF; clear jC kF; have HB := aa.mk (Below.refl w.heap.size w); have H : ((dJ.f aG aH aW bg aA).bind fun Br => (if Br.2 = 0 then ((eu.f (-1) 0 aG aH aW bg aA).bind fun mD => (aQ.l0 k ([] : List ByteArray) mD (mD.length : Int) 0)) else (some (([] : List ByteArray), Br.2)))) = some (r1, r2) := h; clear h; replace H := Option.bind_eq_some_iff.mp H; obtain ⟨⟨RZ, Cm⟩, A20, H⟩ := H; dsimp only at H; have A2 := aa.mk A20; clear A20; by_cases c3 : Cm = 0
 ·rw [if_pos c3] at H; have pq : (Cm == 0) = true := beq_iff_eq.mpr c3; have CF : (Cm != 0) = false := bne_eq_false_iff_eq.mpr c3; clear c3; replace H := Option.bind_eq_some_iff.mp H; obtain ⟨mD, A40, H⟩ := H; have A4 := aa.mk A40; clear A40; have H' := aa.mk H; clear H; go_enter Try.func24, Try.ntmps24; (go_wp2_with (first | ((with_reducible refine bS (N := 1) rfl ?_); refine bV ?hg (N := 1) ?hd (cs := #[.slice df aG.length bW, .int .i64 aH, .int .i64 aW, .int .i64 bg, .slice cZ aA.length bY]) (t := 25) ?hr ?_; (case hd => rfl); (case hg => rfl); (case hr => (go_simp; done)); intro yM hg w5 hbox hb; have lV := aa.mk (hbox); have SF := aa.mk ((by rw [hg]; exact (ay (by exact HB.out)) : w.heap.size ≤ yM)); have Ro := aa.mk ((by rw [hg]; exact (ay (by exact HB.out)) : w.heap.size ≤ yM)); replace HB := aa.mk (az (by exact HB.out) hb); clear hb hbox hg; obtain ⟨zG, zw, OQ, PG, Pt, zU, zT, Pg, NV, OV⟩ := cells5 lV.out) | ((with_reducible refine bC (f := 58) rfl ?_); refine ed (some 11) rfl rfl Try.func58 (by kernel_rfl) rfl #[.agg #[.slice df aG.length bW, .int .i64 aH, .int .i64 aW, .int .i64 bg, .slice cZ aA.length bY]] rfl (by (simp only [List.map_toArray, List.map_cons, List.map_nil]); rfl) ?_; (with_reducible refine (dJ.calls _ _ aG aH aW bg _ _ aA RZ Cm _ ?side1 ?side2 ?side3 ?side4 A2.out).mono ?_); (case side1 => repeat (exact (Kd.cu pg.out HB.out))); (case side2 => exact qV.out); (case side3 => repeat (exact (Kd.cu kv.out HB.out))); (case side4 => exact qW.out); rintro e w7 ⟨WO, rfl, ho0, hb⟩; refine ⟨_, rfl, ?_⟩; have I6 := aa.mk (Kd.eU ho0 (ay (by exact HB.out))); replace lV := aa.mk (ak (bU lV.out) hb); replace HB := aa.mk (az (by exact HB.out) hb); clear hb; clear ho0; obtain ⟨CO, BU, Gm, PD, Qj, Cb, Dn, Io, PE, Pj⟩ := cells5 lV.out) | ((with_reducible refine bC (f := 59) rfl ?_); refine ed (some 19) rfl rfl Try.func59 (by kernel_rfl) rfl #[.agg #[.int .i64 (-1), .int .u8 0], .agg #[.slice df aG.length bW, .int .i64 aH, .int .i64 aW, .int .i64 bg, .slice cZ aA.length bY]] rfl (by (simp only [List.map_toArray, List.map_cons, List.map_nil]); rfl) ?_; (with_reducible refine (eu.calls (-1) 0 _ _ aG aH aW bg _ _ aA mD _ ?side1 ?side2 ?side3 ?side4 A4.out).mono ?_); (case side1 => repeat (exact (Kd.cu pg.out HB.out))); (case side2 => exact qV.out); (case side3 => repeat (exact (Kd.cu kv.out HB.out))); (case side4 => exact qW.out); rintro e w9 ⟨YE, rfl, ho0, hb⟩; refine ⟨_, rfl, ?_⟩; replace I6 := aa.mk (Kd.bZ (rU I6.out) hb); have MO := aa.mk (Kd.zn ho0 (ay (by exact HB.out))); replace lV := aa.mk (ak (bU lV.out) hb); replace HB := aa.mk (az (by exact HB.out) hb); clear hb; clear ho0; obtain ⟨kR, kH, GU⟩ := Kd.vV MO.out; subst GU))); (go_loopg [6, 21] k (fun kq v6 v21 w' => ∃ (dC : List ByteArray) (kz : Int), v21 = .int .i64 kz ∧ aa (aQ.l0 kq dC mD (mD.length : Int) kz = some (r1, r2)) ∧ aa (kq ≤ k) ∧ aa (Kd.R Kd.string 9 w' w.heap.size (fun _ => True) v6 dC) ∧ aa (Kd.S (Kd.slice 5 (Kd.int .u8)) 88 w' w.heap.size (fun _ => True) (.slice kR mD.length kH) mD) ∧ aa (w'.heap[yM]? = some (.cells #[(.slice df aG.length bW), .int .i64 aH, .int .i64 aW, .int .i64 bg, (.slice cZ aA.length bY)] 25 (0, 0))) ∧ aa (Below w.heap.size w w'))); case atStart => exact ⟨(([] : List ByteArray)), (0), (by rfl), H', ⟨Nat.le_refl _⟩, ⟨by exact Kd.qP _ _ _ _ _⟩, ⟨by (with_reducible skip); exact MO.out⟩, ⟨by (with_reducible skip); exact lV.out⟩, ⟨by exact HB.out⟩⟩
  case round =>
   clear H' pq CF zG zw OQ PG Pt CO BU Gm PD Qj zU zT Pg NV OV Cb Dn Io PE Pj; obtain ⟨dC, kz, rfl, HA, HK1, Fb, AJ, lV, HB⟩ := hrel
   cases gk with
   | zero => exact absurd HA.out (by simp [aQ.l0])
   | succ k1 =>
    have H := HA.out; clear HA; simp only [aQ.l0] at H; by_cases c11 : kz < (mD.length : Int)
    ·rw [if_pos c11] at H; have Ib : decide (kz < (mD.length : Int)) = true := decide_eq_true c11; clear c11; by_cases c12 : 0 ≤ kz
     ·rw [if_pos c12] at H; have uN : decide (0 ≤ kz) = true := decide_eq_true c12; clear c12; by_cases c13 : kz < (mD.length : Int)
      ·rw [if_pos c13] at H; have X0 : decide (kz < (mD.length : Int)) = true := decide_eq_true c13; clear c13; by_cases c14 : dC.length < 8796093022208
       ·rw [if_pos c14] at H; have QK := aa.mk c14; clear c14; obtain ⟨SS, IK⟩ : ∃ y_ : List ByteArray, y_ = (dC ++ [strOfNums (pQ mD kz)]) := ⟨_, rfl⟩; (replace H : (aQ.l0 k1 SS mD (mD.length : Int) (wrap64 (kz + 1))) = some (r1, r2) := by (rw [IK]; with_reducible exact H)); have R7 := aa.mk IK; clear IK; have H' := aa.mk H; clear H; have ME : 0 ≤ (kz : Int) := of_decide_eq_true (by with_reducible assumption); have Kg : kz < (mD.length : Int) := of_decide_eq_true (by with_reducible assumption); obtain ⟨Xj, A254_0, c254_0, e254, Kt, Eu, Es⟩ := Sc (Kd.jL AJ.out).2.2 kz ME Kg; cases e254; obtain ⟨ce254, Qo, Om, IW⟩ := Kd.QZ AJ.out [] kz ME (by exact Kg); obtain ⟨ve254_0, rfl, zi⟩ := Om; have sI := IW 0 _ rfl; rw [Nat.add_zero, show ((Kd.slice 5 (Kd.int .u8))).sz = 1 from rfl, Nat.mul_one] at sI; replace sI := Option.some.inj (sI.symm.trans Kt); rw [sI] at zi; have Ez := aa.mk (show Kd.R (Kd.int .u8) 5 _ _ _ _ (pQ mD kz) from zi); clear sI zi IW Qo; have LD := aa.mk Es; have Vf := aa.mk Eu; clear Es Eu; replace ME := eq_true ME; replace Kg := eq_true Kg; have hcv15 := Kd.Gn (P := Try.prog) (A := A254_0) (c := c254_0) Try.underlying88 Try.underlying5 Try.underlying9 (by exact LD.out); (go_wp2_with (((with_reducible refine zA (b := .append) (xs := #[.tmp 25, .tmp 28]) rfl ?_); at_builtin; refine Kd.tC Kd.string (w0 := w) w.heap.size rfl (.tmp 25) (.tmp 28) 48 9 (.string ⟨#[]⟩) 16 rfl Try.underlying48 QR rfl (by decide) (by omega) u6 dC (strOfNums (pQ mD kz)) [.string (strOfNums (pQ mD kz))] (fun _ => True) (fun _ => False) rfl rfl ?aP (fun _ hk => hk.elim) ?aF ?aO ?aB ?aS ?aL ?_; (case aP => exact rfl); (case aB => exact (by exact HB.out)); (case aF => exact (fun _ _ => trivial)); (case aO => exact (rU Fb.out)); (case aS => exact (ay (by exact HB.out))); (case aL => have := QK.out; omega); intro YB w16 ho hb hg hat; rw [← R7.out] at ho; replace AJ := aa.mk (Kd.Jm (by (with_reducible skip); exact AJ.out) (Kd.dw (rU Fb.out)) (by decide) hg); replace lV := aa.mk (aU (bU lV.out) hg (Kd.gI Fb.out lV.out (by decide))); replace Ez := aa.mk (Kd.zZ (rU Ez.out) (Kd.dw (rU Fb.out)) (by decide) hg); replace HB := aa.mk (hb); have SN := aa.mk (ho); clear Fb ho hb hg hat))); go_roundg k1; (case measure => have := HK1.out; omega); case rel => exact ⟨(SS), (wrap64 (kz + 1)), (by rfl), H', ⟨by have := HK1.out; omega⟩, ⟨by (with_reducible skip); exact SN.out⟩, ⟨by (with_reducible skip); exact AJ.out⟩, ⟨by (with_reducible skip); exact lV.out⟩, ⟨by exact HB.out⟩⟩
       ·rw [if_neg c14] at H; exact absurd H (by simp)
      ·rw [if_neg c13] at H; exact absurd H (by simp)
     ·rw [if_neg c12] at H; exact absurd H (by simp)
    ·rw [if_neg c11] at H; have Ib : decide (kz < (mD.length : Int)) = false := decide_eq_false c11; clear c11; simp only [Option.some.injEq, Prod.mk.injEq] at H; obtain ⟨rfl, rfl⟩ := H; go_wp2
     go_ret2
     exact ⟨_, by rfl, by (with_reducible skip); exact Fb.out, by exact HB.out⟩
 ·rw [if_neg c3] at H; have pq : (Cm == 0) = false := beq_eq_false_iff_ne.mpr c3; have CF : (Cm != 0) = true := bne_iff_ne.mpr c3; simp only [Option.some.injEq, Prod.mk.injEq] at H; obtain ⟨rfl, rfl⟩ := H; go_enter Try.func24, Try.ntmps24; go_wp2_with (first | ((with_reducible refine bS (N := 1) rfl ?_); refine bV ?hg (N := 1) ?hd (cs := #[.slice df aG.length bW, .int .i64 aH, .int .i64 aW, .int .i64 bg, .slice cZ aA.length bY]) (t := 25) ?hr ?_; (case hd => rfl); (case hg => rfl); (case hr => (go_simp; done)); intro yM hg w17 hbox hb; have lV := aa.mk (hbox); have SF := aa.mk ((by rw [hg]; exact (ay (by exact HB.out)) : w.heap.size ≤ yM)); have Ro := aa.mk ((by rw [hg]; exact (ay (by exact HB.out)) : w.heap.size ≤ yM)); replace HB := aa.mk (az (by exact HB.out) hb); clear hb hbox hg; obtain ⟨D7, Eh, D6, Em, Ex, EN, Eb, El, Eg, DY⟩ := cells5 lV.out) | ((with_reducible refine bC (f := 58) rfl ?_); refine ed (some 11) rfl rfl Try.func58 (by kernel_rfl) rfl #[.agg #[.slice df aG.length bW, .int .i64 aH, .int .i64 aW, .int .i64 bg, .slice cZ aA.length bY]] rfl (by (simp only [List.map_toArray, List.map_cons, List.map_nil]); rfl) ?_; (with_reducible refine (dJ.calls _ _ aG aH aW bg _ _ aA RZ Cm _ ?side1 ?side2 ?side3 ?side4 A2.out).mono ?_); (case side1 => repeat (exact (Kd.cu pg.out HB.out))); (case side2 => exact qV.out); (case side3 => repeat (exact (Kd.cu kv.out HB.out))); (case side4 => exact qW.out); rintro e w19 ⟨WO, rfl, ho0, hb⟩; refine ⟨_, rfl, ?_⟩; have I6 := aa.mk (Kd.eU ho0 (ay (by exact HB.out))); replace lV := aa.mk (ak (bU lV.out) hb); replace HB := aa.mk (az (by exact HB.out) hb); clear hb; (clear ho0)))
  go_ret2
  exact ⟨_, by rfl, by exact Kd.qP _ _ _ _ _, by exact HB.out⟩
end Go.Proofs.Ytihedeofkhapiaa.Pr
end
section
namespace Go.Proofs.Ytihedeofkhapiaa.Pr
open Go.RowKit Go.Proofs.YtihedeofkhapiaaW.PrintWords Go.Proofs.YtihedeofkhapiaaW.PrintLast Go.Proofs.YtihedeofkhapiaaW.PrintMore
theorem Ev.call {α β : Type} {o : Option α} {f : Nat → α → Option β} {a : α} {r : β} (h : o = some a) (k : Ev (fun n => f n a) r) : Ev (fun n => o.bind (f n)) r := by
 subst h; exact k
theorem Ev.pos {α : Type} {c : Prop} [Decidable c] {g f : Nat → Option α} {r : α} (h : c) (k : Ev f r) : Ev (fun n => if c then f n else g n) r :=
 Ev.congr (fun n => if_pos h) k
theorem Ev.neg {α : Type} {c : Prop} [Decidable c] {g f : Nat → Option α} {r : α} (h : ¬ c) (k : Ev g r) : Ev (fun n => if c then f n else g n) r :=
 Ev.congr (fun n => if_neg h) k
theorem rdO (T : List ByteArray) (i : Nat) (h : i < T.length) : fM ByteArray.empty T (i : Int) = T[i] := by
 simp [fM, List.getD_eq_getElem?_getD, h]
theorem CG (L : List (List Int)) (hL : L.length ≤ 100) : ∀ (d i : Nat) (o : List ByteArray), i + d = L.length → o.length = i →
 Ev (fun k => aQ.l0 k o L (L.length : Int) (i : Int)) (o ++ (L.drop i).map strOfNums, 0) := by
 intro d
 induction d with
 | zero =>
  intro i o hi ho; refine Ev.step (f := fun _ => some (o, 0)) (fun k => by rw [aQ.l0, if_neg (by omega)]) ?_; rw [List.drop_eq_nil_of_le (by omega), List.map_nil, List.append_nil]; exact Ev.now _
 | succ d ih =>
  intro i o hi ho; (have e : pQ L (i : Int) = L[i] := by simp [pQ, List.getD_eq_getElem?_getD, show i < L.length by omega]); (have hw : wrap64 ((i : Int) + 1) = ((i + 1 : Nat) : Int) := by rw [bJ (by omega) (by omega)]; omega); have q := ih (i + 1) (o ++ [strOfNums L[i]]) (by omega) (by simp; omega); rw [List.append_assoc] at q; rw [List.drop_eq_getElem_cons (show i < L.length by omega), List.map_cons]; refine Ev.step (fun k => ?_) q; rw [aQ.l0, if_pos (by omega), if_pos (by omega), if_pos (by omega), if_pos (by omega), e, hw]
theorem RS (l : List Int) (n : Int) (hl : l.length ≤ 1000) (h : n ∈ l) : Ev (fun k => bz.f k l n) true := by
 have key : ∀ (d i : Nat), i + d = l.length → n ∈ l.drop i → Ev (fun k => bz.l0 k l n (i : Int)) true := by
  intro d
  induction d with
  | zero =>
   intro i hi hm; rw [List.drop_eq_nil_of_le (by omega)] at hm; exact absurd hm List.not_mem_nil
  | succ d ih =>
   intro i hi hm; (have hil : i < l.length := by omega); (have e : rd l (i : Int) = l[i] := by simp [rd, List.getD_eq_getElem?_getD, hil]); (have hw : wrap64 ((i : Int) + 1) = ((i + 1 : Nat) : Int) := by rw [bJ (by omega) (by omega)]; omega); by_cases he : l[i] = n
   ·refine Ev.step (f := fun _ => some true) (fun k => ?_) (Ev.now _); rw [bz.l0, if_pos (by omega), if_pos (by omega), e, if_pos he]
   ·rw [List.drop_eq_getElem_cons hil] at hm; have hm' := (List.mem_cons.1 hm).resolve_left (fun q => he q.symm); refine Ev.step (fun k => ?_) (ih (i + 1) (by omega) hm'); rw [bz.l0, if_pos (by omega), if_pos (by omega), e, if_neg he, hw]
 exact Ev.congr (fun k => by rw [bz.f]; rfl) (key l.length 0 (by omega) (by simpa using h))
theorem gZ (l : List Int) : (strOfNums l).size = l.length := by simp [strOfNums, ByteArray.size]
theorem Ur {a1 a2 a3 : Int} {r : nZ} (hg : iI a1 a2 a3 r) (ht : xJ r) (h2 : a2 ≤ 8) (h3 : a3 ≤ 8) : (∀ h ∈ r.1, iL h.f1) ∧ jW r.2.2.2.2.1 := by
 refine ⟨fun h hm => ?_, ?_, fun q hq => ?_⟩
 ·have := hg.1.2.2 h hm; exact ⟨this.2.2.2.1, by have := this.2.2.2.2.2; omega⟩
 ·have := hg.2.2.2.2.2.1; omega
 ·obtain ⟨_, _, ms, cs, ⟨_, _, hA⟩, _⟩ := ht; obtain ⟨i, hi, rfl⟩ := List.getElem_of_mem hq; obtain ⟨k, v, _, _, hx, _⟩ := hA i hi; exact uK.sm hx
theorem Cz {hs : List S66} {w c t : Int} {sq : List (List S27)} (hck : jl hs w c t sq = 0) (hl : sq.length ≤ 100) {F : List Int} (hfit : dJ.f hs w c t sq = some (F, 0)) :
 Ev (fun k => aQ.f k hs w c t sq) ((dW (-1) 0 w c t hs sq).map strOfNums, 0) := by
 (have hLl : (dW (-1) 0 w c t hs sq).length = sq.length := by simp [dW]); refine Ev.congr (f := fun k => aQ.l0 k [] (dW (-1) 0 w c t hs sq) ((dW (-1) 0 w c t hs sq).length : Int) ((0 : Nat) : Int)) (fun k => ?_) (by simpa using CG (dW (-1) 0 w c t hs sq) (by omega) (dW (-1) 0 w c t hs sq).length 0 [] (by omega) rfl); rw [aQ.f, hfit, Option.bind_some, if_pos rfl, eu.f, if_pos hck, Option.bind_some]; rfl
theorem Cv {hs : List S66} {w c t : Int} {sq : List (List S27)} (hck : jl hs w c t sq = 0) (hne : je hs w c t sq (List.finRange hs.length) ≠ []) :
 dJ.f hs w c t sq = some (je hs w c t sq (List.finRange hs.length), 0) := by
 rw [dJ.f, tV, if_pos hck, if_neg hne]
def iw (W S : Int) (q : List S27) (s : S86) : Int := cellP W S (eX q) s
def fQ (W S : Int) (q : List S27) (s : S86) : Int := if iw W S q s < 99 then iw W S q s else 99
theorem xy {W S : Int} {q : List S27} {s : S86} : fQ W S q s < 99 ↔ iw W S q s < 99 := by unfold fQ; split <;> omega
theorem wZ {W S : Int} {q : List S27} {s : S86} (h : iw W S q s < 99) : fQ W S q s = iw W S q s := if_pos h
def jR (W S : Int) (sh : List S86) : List (List S27) → List Int → Int → List (List Int × Int)
 | [], cs, m => [(cs, m)]
 | q :: r, cs, m => sh.flatMap fun s => if fQ W S q s < 99 then jR W S sh r (cs ++ [s.f0]) (m + fQ W S q s) else []
def ql (W S : Int) (sh : List S86) : List (List S27) → List S86 → Prop
 | [], [] => True
 | q :: r, s :: ss => (s ∈ sh ∧ iw W S q s < 99) ∧ ql W S sh r ss
 | _, _ => False
def costs (W S : Int) : List (List S27) → List S86 → Int
 | q :: r, s :: ss => iw W S q s + costs W S r ss
 | _, _ => 0
theorem jN (W S : Int) (sh : List S86) : ∀ (sq : List (List S27)) (cs : List Int) (m : Int) (x : List Int × Int), x ∈ jR W S sh sq cs m ↔ ∃ ss, ql W S sh sq ss ∧ x = (cs ++ ss.map (·.f0), m + costs W S sq ss)
 | [], cs, m, x => by
  simp only [jR, List.mem_singleton]; constructor
  ·rintro rfl; exact ⟨[], trivial, by simp [costs]⟩
  ·rintro ⟨ss, hp, rfl⟩
   cases ss with
   | nil => simp [costs]
   | cons s ss => exact hp.elim
 | q :: r, cs, m, x => by
  simp only [jR, List.mem_flatMap]; constructor
  ·rintro ⟨s, hs, hx⟩; by_cases hc : fQ W S q s < 99
   ·rw [if_pos hc] at hx; obtain ⟨ss, hp, rfl⟩ := (jN W S sh r _ _ _).1 hx; have hc' := xy.1 hc; refine ⟨s :: ss, ⟨⟨hs, hc'⟩, hp⟩, ?_⟩; rw [wZ hc']; simp only [costs, List.map_cons, List.append_assoc, List.singleton_append, Int.add_assoc]
   ·rw [if_neg hc] at hx; cases hx
  ·rintro ⟨ss, hp, rfl⟩
   cases ss with
   | nil => exact hp.elim
   | cons s ss =>
    obtain ⟨⟨hs, hc⟩, hp⟩ := hp; refine ⟨s, hs, ?_⟩; rw [if_pos (xy.2 hc), wZ hc]; refine (jN W S sh r _ _ _).2 ⟨ss, hp, ?_⟩; simp only [costs, List.map_cons, List.append_assoc, List.singleton_append, Int.add_assoc]
theorem ql.length {W S : Int} {sh : List S86} : ∀ {sq : List (List S27)} {ss : List S86}, ql W S sh sq ss → ss.length = sq.length
 | [], [], _ => rfl
 | q :: r, s :: ss, h => by simp [ql.length h.2]
theorem Ed (W S : Int) {sh : List S86} (q : List S27) {s : S86} (hs : s ∈ sh) : ig W S sh q ≤ iw W S q s := by
 obtain ⟨k, hk, rfl⟩ := List.getElem_of_mem hs; have := DJ W S (eX q) sh sh.length k hk; rw [og sh k hk] at this; exact this
theorem Ar (W S : Int) {sh : List S86} (q : List S27) (h : ig W S sh q < 99) : ∃ s ∈ sh, ig W S sh q = iw W S q s := by
 rcases xN W S (eX q) sh sh.length with h1 | ⟨k, hk, h1⟩
 ·unfold ig at h; omega
 ·rw [og sh k hk] at h1; exact ⟨_, List.getElem_mem hk, h1⟩
section
variable {W S : Int} {sh : List S86} (hsh : iL sh)
include hsh
theorem mZ : ∀ {sq : List (List S27)}, (∀ q ∈ sq, Sm5 q) → 0 ≤ fO W S sq sh := fun {sq} h => (rP (ig W S sh) sq (fun q hm => iH W S hsh (h q hm))).1
theorem Ag : ∀ {sq : List (List S27)} {ss : List S86}, ql W S sh sq ss → fO W S sq sh ≤ costs W S sq ss
 | [], [], _ => by simp [fO, costs]
 | q :: r, s :: ss, h => by
  have h1 := Ag h.2; have h2 := Ed W S q h.1.1; simp only [fO, costs, List.map_cons, List.sum_cons] at h1 ⊢; omega
theorem zK : ∀ {sq : List (List S27)}, (∀ q ∈ sq, Sm5 q) → fO W S sq sh < 99 → ∃ ss, ql W S sh sq ss ∧ costs W S sq ss = fO W S sq sh
 | [], _, _ => ⟨[], trivial, by simp [fO, costs]⟩
 | q :: r, hq, h => by
  have h1 := (iH W S hsh (hq q List.mem_cons_self)).1; have h2 := mZ (W := W) (S := S) hsh (fun x hx => hq x (List.mem_cons_of_mem _ hx)); (have e : fO W S (q :: r) sh = ig W S sh q + fO W S r sh := by simp [fO]); rw [e] at h; obtain ⟨s, hs, h3⟩ := Ar W S q (sh := sh) (by omega); obtain ⟨ss, h4, h5⟩ := zK (sq := r) (fun x hx => hq x (List.mem_cons_of_mem _ hx)) (by omega); refine ⟨s :: ss, ⟨⟨hs, by omega⟩, h4⟩, ?_⟩; rw [e, costs, h5, h3]
theorem MX : ∀ {sq : List (List S27)} {ss : List S86} (k : Nat) (hk : k < sq.length) (hk' : k < ss.length), ql W S sh sq ss → fO W S sq sh - ig W S sh sq[k] + iw W S sq[k] ss[k] ≤ costs W S sq ss
 | q :: r, s :: ss, 0, _, _, h => by
  have h1 := Ag hsh h.2; (have e : fO W S (q :: r) sh = ig W S sh q + fO W S r sh := by simp [fO]); rw [e, costs]; simp only [List.getElem_cons_zero]; omega
 | q :: r, s :: ss, k + 1, hk, hk', h => by
  have h1 := MX k (by simpa using hk) (by simpa using hk') h.2; have h2 := Ed W S q h.1.1; (have e : fO W S (q :: r) sh = ig W S sh q + fO W S r sh := by simp [fO]); rw [e, costs]; simp only [List.getElem_cons_succ]; omega
theorem GK : ∀ {sq : List (List S27)} (k : Nat) (hk : k < sq.length) (s : S86), (∀ q ∈ sq, Sm5 q) → s ∈ sh → iw W S sq[k] s < 99 → fO W S sq sh - ig W S sh sq[k] + iw W S sq[k] s < 99 → ∃ ss, ql W S sh sq ss ∧ (∃ h : k < ss.length, ss[k] = s) ∧ costs W S sq ss = fO W S sq sh - ig W S sh sq[k] + iw W S sq[k] s
 | q :: r, 0, _, s, hq, hs, hc, ht => by
  (have e : fO W S (q :: r) sh = ig W S sh q + fO W S r sh := by simp [fO]); have hn := (rA W S (hq q List.mem_cons_self) (s := s) (by have := hsh.1.1 s hs; omega) (by have := hsh.1.1 s hs; omega)).1; simp only [List.getElem_cons_zero] at hc ht ⊢; have hn' : 0 ≤ iw W S q s := hn; rw [e] at ht ⊢; obtain ⟨ss, h4, h5⟩ := zK (W := W) (S := S) hsh (sq := r) (fun x hx => hq x (List.mem_cons_of_mem _ hx)) (by omega); refine ⟨s :: ss, ⟨⟨hs, hc⟩, h4⟩, ⟨by simp, rfl⟩, ?_⟩; rw [costs, h5]; omega
 | q :: r, k + 1, hk, s, hq, hs, hc, ht => by
  (have e : fO W S (q :: r) sh = ig W S sh q + fO W S r sh := by simp [fO]); (have hk' : k < r.length := by simpa using hk); (have hr : ∀ x ∈ r, Sm5 x := fun x hx => hq x (List.mem_cons_of_mem _ hx)); simp only [List.getElem_cons_succ] at hc ht ⊢; rw [e] at ht ⊢; have h1 := (iH W S hsh (hq q List.mem_cons_self)).1
  have h2 : ig W S sh r[k] ≤ fO W S r sh := by
   have key : ∀ (l : List (List S27)) (j : Nat) (hj : j < l.length), (∀ x ∈ l, Sm5 x) → ig W S sh l[j] ≤ fO W S l sh := by
    intro l
    induction l with
    | nil => intro j hj; cases hj
    | cons x l ih =>
     intro j hj hx; (have e2 : fO W S (x :: l) sh = ig W S sh x + fO W S l sh := by simp [fO]); have h3 := (iH W S hsh (hx x List.mem_cons_self)).1; have h4 := mZ (W := W) (S := S) hsh (fun y hy => hx y (List.mem_cons_of_mem _ hy)); rw [e2]
     cases j with
     | zero => simp only [List.getElem_cons_zero]; omega
     | succ j =>
      have := ih j (by simpa using hj) (fun y hy => hx y (List.mem_cons_of_mem _ hy)); simp only [List.getElem_cons_succ]; omega
   exact key r k hk' hr
  have hn := (rA W S (hr _ (List.getElem_mem hk')) (s := s) (by have := hsh.1.1 s hs; omega) (by have := hsh.1.1 s hs; omega)).1; have hn' : 0 ≤ iw W S r[k] s := hn; obtain ⟨s', hs', h3⟩ := Ar W S q (sh := sh) (by omega); obtain ⟨ss, h4, ⟨h6, h7⟩, h5⟩ := GK (sq := r) k hk' s hr hs hc (by omega); refine ⟨s' :: ss, ⟨⟨hs', by omega⟩, h4⟩, ⟨by simpa using h6, by simpa using h7⟩, ?_⟩; rw [costs, h5]; omega
end
structure Fnd where
 letters : List (List Int)
 hands : List Int
 marks : Int
def gu (l : List Int) (c : Int) : List Int := if c ∈ l then l else l ++ [c]
theorem qI {l : List Int} {c x : Int} : x ∈ gu l c ↔ x ∈ l ∨ x = c := by
 unfold gu; split
 ·rename_i h; exact ⟨.inl, fun h' => h'.elim id (fun e => e ▸ h)⟩
 ·simp
theorem qj {l : List Int} {c : Int} (h : l.Nodup) : (gu l c).Nodup := by
 unfold gu; split
 ·exact h
 ·rename_i hc; exact List.nodup_append.2 ⟨h, by simp, fun a ha b hb e => hc (by rw [List.mem_singleton] at hb; rw [← hb, ← e]; exact ha)⟩
def kY (t hd : Int) (f : Fnd) (x : List Int × Int) : Fnd := if t < x.2 then ⟨f.letters, f.hands, mn f.marks x.2⟩ else ⟨List.zipWith gu f.letters x.1, gu f.hands hd, mn f.marks x.2⟩
structure vO (t : Int) (n : Nat) (P : Int → List Int × Int → Prop) (f : Fnd) : Prop where
 marks : ∀ T, f.marks ≤ T ↔ 999 ≤ T ∨ ∃ hd x, P hd x ∧ x.2 ≤ T
 asc : f.hands.Pairwise (· < ·)
 hands : ∀ h, h ∈ f.hands ↔ ∃ x, P h x ∧ x.2 ≤ t
 len : f.letters.length = n
 nodup : ∀ k, k < n → (f.letters.getD k []).Nodup
 letters : ∀ k, k < n → ∀ c, c ∈ f.letters.getD k [] ↔ ∃ hd x, P hd x ∧ x.2 ≤ t ∧ x.1.getD k 0 = c
theorem Na {a b T : Int} : mn a b ≤ T ↔ a ≤ T ∨ b ≤ T := by unfold mn; split <;> omega
theorem vO.congr {t : Int} {n : Nat} {P P' : Int → List Int × Int → Prop} {f : Fnd} (h : vO t n P f) (hP : ∀ hd x, P hd x ↔ P' hd x) : vO t n P' f := by
 (have e : P = P' := funext fun a => funext fun b => propext (hP a b)); exact e ▸ h
theorem vO.step {t : Int} {n : Nat} {P : Int → List Int × Int → Prop} {f : Fnd} (h : vO t n P f) {hd : Int} {x : List Int × Int} (hx : x.1.length = n) (hP : ∀ h' y, P h' y → h' ≤ hd) :
 vO t n (fun h' y => P h' y ∨ (h' = hd ∧ y = x)) (kY t hd f x) := by
 have hm : ∀ T, mn f.marks x.2 ≤ T ↔ 999 ≤ T ∨ ∃ h' y, (P h' y ∨ (h' = hd ∧ y = x)) ∧ y.2 ≤ T := fun T => by
  rw [Na, h.marks T]; constructor
  ·rintro ((h1 | ⟨h', y, h1, h2⟩) | h1)
   ·exact .inl h1
   ·exact .inr ⟨h', y, .inl h1, h2⟩
   ·exact .inr ⟨hd, x, .inr ⟨rfl, rfl⟩, h1⟩
  ·rintro (h1 | ⟨h', y, h1 | ⟨rfl, rfl⟩, h2⟩)
   ·exact .inl (.inl h1)
   ·exact .inl (.inr ⟨h', y, h1, h2⟩)
   ·exact .inr h2
 unfold kY; by_cases ht : t < x.2
 ·rw [if_pos ht]; refine ⟨hm, h.asc, fun h' => ?_, h.len, h.nodup, fun k hk c => ?_⟩
  ·refine (h.hands h').trans ⟨fun ⟨y, h1, h2⟩ => ⟨y, .inl h1, h2⟩, fun ⟨y, h1, h2⟩ => ?_⟩; rcases h1 with h1 | ⟨_, rfl⟩
   ·exact ⟨y, h1, h2⟩
   ·omega
  ·refine (h.letters k hk c).trans ⟨fun ⟨h', y, h1, h2⟩ => ⟨h', y, .inl h1, h2⟩, fun ⟨h', y, h1, h2⟩ => ?_⟩; rcases h1 with h1 | ⟨_, rfl⟩
   ·exact ⟨h', y, h1, h2⟩
   ·omega
 ·rw [if_neg ht]
  have hg : ∀ k, k < n → (List.zipWith gu f.letters x.1).getD k [] = gu (f.letters.getD k []) (x.1.getD k 0) := fun k hk => by
   (have h1 : k < f.letters.length := by rw [h.len]; exact hk); (have h2 : k < x.1.length := by rw [hx]; exact hk); simp [List.getD_eq_getElem?_getD, List.getElem?_zipWith, List.getElem?_eq_getElem h1, List.getElem?_eq_getElem h2]
  refine ⟨hm, ?_, fun h' => ?_, by simp [h.len, hx], fun k hk => ?_, fun k hk c => ?_⟩
  ·show (gu f.hands hd).Pairwise (· < ·); unfold gu; split
   ·exact h.asc
   ·rename_i hnot; refine List.pairwise_append.2 ⟨h.asc, by simp, fun a ha b hb => ?_⟩; obtain rfl := List.mem_singleton.1 hb; obtain ⟨y, h1, _⟩ := (h.hands a).1 ha; have := hP _ _ h1; rcases Int.lt_or_eq_of_le this with h2 | h2
    ·exact h2
    ·exact absurd (h2 ▸ ha) hnot
  ·show h' ∈ gu f.hands hd ↔ _; rw [qI, h.hands h']; constructor
   ·rintro (⟨y, h1, h2⟩ | rfl)
    ·exact ⟨y, .inl h1, h2⟩
    ·exact ⟨x, .inr ⟨rfl, rfl⟩, by omega⟩
   ·rintro ⟨y, h1 | ⟨rfl, rfl⟩, h2⟩
    ·exact .inl ⟨y, h1, h2⟩
    ·exact .inr rfl
  ·show ((List.zipWith gu f.letters x.1).getD k []).Nodup; rw [hg k hk]; exact qj (h.nodup k hk)
  ·show c ∈ (List.zipWith gu f.letters x.1).getD k [] ↔ _; rw [hg k hk, qI, h.letters k hk c]; constructor
   ·rintro (⟨h', y, h1, h2⟩ | rfl)
    ·exact ⟨h', y, .inl h1, h2⟩
    ·exact ⟨hd, x, .inr ⟨rfl, rfl⟩, by omega, rfl⟩
   ·rintro ⟨h', y, h1 | ⟨rfl, rfl⟩, h2, h3⟩
    ·exact .inl ⟨h', y, h1, h2, h3⟩
    ·exact .inr h3.symm
theorem vO.steps {t : Int} {n : Nat} {hd : Int} : ∀ (l : List (List Int × Int)) {P : Int → List Int × Int → Prop} {f : Fnd}, vO t n P f → (∀ x ∈ l, x.1.length = n) → (∀ h' y, P h' y → h' ≤ hd) →
 vO t n (fun h' y => P h' y ∨ (h' = hd ∧ y ∈ l)) (l.foldl (kY t hd) f)
 | [], P, f, h, _, _ => h.congr (fun _ _ => by simp)
 | x :: l, P, f, h, hx, hP => by
  rw [List.foldl_cons]; refine (vO.steps l (h.step (hx x List.mem_cons_self) hP) (fun y hy => hx y (List.mem_cons_of_mem _ hy)) (fun h' y h1 => h1.elim (hP h' y) (fun e => Int.le_of_eq e.1))).congr (fun a b => ?_); simp only [List.mem_cons, or_assoc]; constructor
  ·rintro (h1 | ⟨rfl, rfl⟩ | ⟨rfl, h1⟩)
   ·exact .inl h1
   ·exact .inr ⟨rfl, .inl rfl⟩
   ·exact .inr ⟨rfl, .inr h1⟩
  ·rintro (h1 | ⟨rfl, rfl | h1⟩)
   ·exact .inl h1
   ·exact .inr (.inl ⟨rfl, rfl⟩)
   ·exact .inr (.inr ⟨rfl, h1⟩)
def iJ (W S t : Int) (hs : List S66) (sq : List (List S27)) : Nat → Fnd
 | 0 => ⟨List.replicate sq.length [], [], 999⟩
 | i + 1 => (jR W S (aX hs (i : Int)).f1 sq [] 0).foldl (kY t (i : Int)) (iJ W S t hs sq i)
theorem FF {W S : Int} {sh : List S86} {sq : List (List S27)} {x : List Int × Int} (h : x ∈ jR W S sh sq [] 0) : x.1.length = sq.length := by
 obtain ⟨ss, h1, rfl⟩ := (jN W S sh sq [] 0 x).1 h; simp [h1.length]
theorem lh (W S t : Int) (hs : List S66) (sq : List (List S27)) : ∀ i, i ≤ hs.length → vO t sq.length (fun h x => ∃ j : Nat, j < i ∧ h = (j : Int) ∧ x ∈ jR W S (aX hs (j : Int)).f1 sq [] 0) (iJ W S t hs sq i)
 | 0, _ => by
  refine ⟨fun T => ?_, List.Pairwise.nil, fun h => ?_, by simp [iJ], fun k hk => ?_, fun k hk c => ?_⟩
  ·simp [iJ]
  ·simp [iJ]
  ·simp [iJ, List.getD_eq_getElem?_getD, List.getElem?_replicate, hk]
  ·simp [iJ, List.getD_eq_getElem?_getD, List.getElem?_replicate, hk]
 | i + 1, hi => by
  have ih := lh W S t hs sq i (by omega); refine (vO.steps (hd := (i : Int)) (jR W S (aX hs (i : Int)).f1 sq [] 0) ih (fun x hx => FF hx) (fun h' y ⟨j, h1, h2, _⟩ => by omega)).congr (fun a b => ?_); constructor
  ·rintro (⟨j, h1, h2, h3⟩ | ⟨h1, h2⟩)
   ·exact ⟨j, by omega, h2, h3⟩
   ·exact ⟨i, by omega, h1, h2⟩
  ·rintro ⟨j, h1, h2, h3⟩; rcases Nat.lt_or_eq_of_le (Nat.le_of_lt_succ h1) with h4 | rfl
   ·exact .inl ⟨j, h4, h2, h3⟩
   ·exact .inr ⟨h2, h3⟩
def iK (W S t : Int) (hs : List S66) (sq : List (List S27)) : Fnd := iJ W S t hs sq hs.length
section
variable {W S t : Int} {hs : List S66} {sq : List (List S27)} (hh : ∀ h ∈ hs, iL h.f1) (hq : jW sq)
include hh hq
theorem qC {i : Nat} (hi : i < hs.length) {T : Int} (hT : T < 99) : (∃ x ∈ jR W S (hs[i]).f1 sq [] 0, x.2 ≤ T) ↔ fO W S sq (hs[i]).f1 ≤ T := by
 have hf := hh _ (List.getElem_mem hi); constructor
 ·rintro ⟨x, hx, h1⟩; obtain ⟨ss, h2, rfl⟩ := (jN _ _ _ _ _ _ _).1 hx; have := Ag hf h2; simp only [Int.zero_add] at h1; omega
 ·intro h1; obtain ⟨ss, h2, h3⟩ := zK (W := W) (S := S) hf hq.2 (by omega); exact ⟨_, (jN _ _ _ _ _ _ _).2 ⟨ss, h2, rfl⟩, by simp only [Int.zero_add]; omega⟩
theorem pO : (∀ T, T < 99 → ((iK W S t hs sq).marks ≤ T ↔ ∃ h ∈ hs, fO W S sq h.f1 ≤ T)) := fun T hT => by
 rw [iK, (lh W S t hs sq hs.length (Nat.le_refl _)).marks T]; constructor
 ·rintro (h1 | ⟨hd, x, ⟨j, h1, _, h3⟩, h4⟩)
  ·omega
  ·rw [iP hs j h1] at h3; exact ⟨_, List.getElem_mem h1, (qC hh hq h1 hT).1 ⟨x, h3, h4⟩⟩
 ·rintro ⟨h, hm, h1⟩; obtain ⟨j, hj, rfl⟩ := List.getElem_of_mem hm; obtain ⟨x, h2, h3⟩ := (qC hh hq hj hT).2 h1; exact .inr ⟨_, x, ⟨j, hj, rfl, by rw [iP hs j hj]; exact h2⟩, h3⟩
theorem vz (ht : t < 99) : (iK W S t hs sq).hands = je hs W S t sq (List.finRange hs.length) := by
 have inv := lh W S t hs sq hs.length (Nat.le_refl _)
 have mem : ∀ n, n ∈ (iK W S t hs sq).hands ↔ n ∈ je hs W S t sq (List.finRange hs.length) := fun n => by
  rw [iK, inv.hands n, BV W S t hh hq n]; constructor
  ·rintro ⟨x, ⟨j, h1, h2, h3⟩, h4⟩; rw [iP hs j h1] at h3; exact ⟨j, h1, h2, (qC hh hq h1 ht).1 ⟨x, h3, h4⟩⟩
  ·rintro ⟨j, h1, h2, h3⟩; obtain ⟨x, h4, h5⟩ := (qC hh hq h1 ht).2 h3; exact ⟨x, ⟨j, h1, h2, by rw [iP hs j h1]; exact h4⟩, h5⟩
 have asc : (je hs W S t sq (List.finRange hs.length)).Pairwise (· < ·) := by
  unfold je; rw [List.pairwise_map]; have h1 : (List.finRange hs.length).Pairwise (· < ·) := List.pairwise_lt_finRange _; refine (h1.filter _).imp (fun {a b} h => ?_); have : a.1 < b.1 := h; omega
 have key : ∀ (l m : List Int), l.Pairwise (· < ·) → m.Pairwise (· < ·) → (∀ n, n ∈ l ↔ n ∈ m) → l = m := by
  intro l
  induction l with
  | nil =>
   intro m _ _ h
   cases m with
   | nil => rfl
   | cons y m => exact absurd ((h y).2 List.mem_cons_self) List.not_mem_nil
  | cons x l ih =>
   intro m hl hm h
   cases m with
   | nil => exact absurd ((h x).1 List.mem_cons_self) List.not_mem_nil
   | cons y m =>
    obtain ⟨l1, l2⟩ := List.pairwise_cons.1 hl; obtain ⟨m1, m2⟩ := List.pairwise_cons.1 hm
    have e : x = y := by
     rcases List.mem_cons.1 ((h x).1 List.mem_cons_self) with h1 | h1
     ·exact h1
     ·rcases List.mem_cons.1 ((h y).2 List.mem_cons_self) with h2 | h2
      ·exact h2.symm
      ·have := m1 x h1; have := l1 y h2; omega
    subst e; refine congrArg _ (ih m l2 m2 (fun n => ?_)); constructor
    ·intro hn; rcases List.mem_cons.1 ((h n).1 (List.mem_cons_of_mem _ hn)) with h1 | h1
     ·have := l1 n hn; omega
     ·exact h1
    ·intro hn; rcases List.mem_cons.1 ((h n).2 (List.mem_cons_of_mem _ hn)) with h1 | h1
     ·have := m1 n hn; omega
     ·exact h1
 exact key _ _ inv.asc asc mem
theorem nT (ht : t < 99) (k : Nat) (hk : k < sq.length) (c : Int) : c ∈ (iK W S t hs sq).letters.getD k [] ↔ c ∈ dN (-1) 0 W S t hs sq k := by
 have inv := lh W S t hs sq hs.length (Nat.le_refl _); rw [iK, inv.letters k hk c, xq W S t hh hq k hk c]; constructor
 ·rintro ⟨hd, x, ⟨j, h1, _, h3⟩, h4, h5⟩; rw [iP hs j h1] at h3; have hf := hh _ (List.getElem_mem h1); obtain ⟨ss, h6, rfl⟩ := (jN _ _ _ _ _ _ _).1 h3; have hl := h6.length; (have hks : k < ss.length := by omega); have h7 := MX hf k hk hks h6
  have hin : ∀ (sq : List (List S27)) (ss : List S86) (k : Nat) (hk : k < sq.length) (hks : k < ss.length), ql W S (hs[j]).f1 sq ss → ss[k] ∈ (hs[j]).f1 ∧ iw W S sq[k] ss[k] < 99 := by
   intro sq
   induction sq with
   | nil => intro ss k hk; cases hk
   | cons q r ih =>
    intro ss k hk hks hp
    cases ss with
    | nil => cases hks
    | cons s ss =>
     cases k with
     | zero => exact hp.1
     | succ k => exact ih ss k (by simpa using hk) (by simpa using hks) hp.2
  obtain ⟨h8, h9⟩ := hin sq ss k hk hks h6; refine ⟨_, List.getElem_mem h1, ss[k], h8, ?_, ?_, ?_⟩
  ·rw [← h5]; simp [List.getD_eq_getElem?_getD, List.getElem?_eq_getElem hks]
  ·unfold iw at h9; omega
  ·simp only [Int.zero_add] at h4; unfold iw at h7; omega
 ·rintro ⟨h, hm, s, hs', h1, h2, h3⟩; obtain ⟨j, hj, rfl⟩ := List.getElem_of_mem hm; have hf := hh _ (List.getElem_mem hj); have h4 := mZ (W := W) (S := S) hf hq.2; have b1 := iH W S hf (hq.2 _ (List.getElem_mem hk))
  have hle : ig W S (hs[j]).f1 sq[k] ≤ fO W S sq (hs[j]).f1 := by
   have key : ∀ (l : List (List S27)) (j' : Nat) (hj' : j' < l.length), (∀ x ∈ l, Sm5 x) → ig W S (hs[j]).f1 l[j'] ≤ fO W S l (hs[j]).f1 := by
    intro l
    induction l with
    | nil => intro j' hj'; cases hj'
    | cons x l ih =>
     intro j' hj' hx; (have e2 : fO W S (x :: l) (hs[j]).f1 = ig W S (hs[j]).f1 x + fO W S l (hs[j]).f1 := by simp [fO]); have h3 := (iH W S hf (hx x List.mem_cons_self)).1; have h4 := mZ (W := W) (S := S) hf (fun y hy => hx y (List.mem_cons_of_mem _ hy)); rw [e2]
     cases j' with
     | zero => simp only [List.getElem_cons_zero]; omega
     | succ j' =>
      have := ih j' (by simpa using hj') (fun y hy => hx y (List.mem_cons_of_mem _ hy)); simp only [List.getElem_cons_succ]; omega
   exact key sq k hk hq.2
  (have hc99 : iw W S sq[k] s < 99 := by unfold iw; omega); obtain ⟨ss, h5, ⟨h6, h7⟩, h8⟩ := GK (W := W) (S := S) hf k hk s hq.2 hs' hc99 (by unfold iw; omega); refine ⟨_, _, ⟨j, hj, rfl, by rw [iP hs j hj]; exact (jN _ _ _ _ _ _ _).2 ⟨ss, h5, rfl⟩⟩, ?_, ?_⟩
  ·simp only [Int.zero_add]; rw [h8]; unfold iw; omega
  ·simp only [List.nil_append]; rw [List.getD_eq_getElem?_getD, List.getElem?_map, List.getElem?_eq_getElem h6, h7]; exact h1
end
def Sm4 (q : List S27) : Prop := ∀ x ∈ q, ∃ a b : Nat, a < 16 ∧ b < 16 ∧ x = ⟨(a : Int), (b : Int)⟩
theorem Sm4.sm {q : List S27} (h : Sm4 q) : Sm5 q := fun x hx => by
 obtain ⟨a, b, ha, hb, e⟩ := h x hx; exact ⟨a, b, by omega, by omega, e⟩
def FB (q : List S27) (u : Nat) : Prop := ∀ x ∈ q, Go.bits .and .i64 (u : Int) x.f0 = x.f1
theorem xF : ∀ (r : List S27) (A B : Nat), A < 16 → B < 16 → Sm4 r → ∃ g v : Nat, g < 16 ∧ v < 16 ∧ r.foldl seenStep ((A : Int), (B : Int)) = ((g : Int), (v : Int)) ∧ A &&& g = A ∧ B &&& v = B ∧
 (∀ x ∈ r, ∃ a b : Nat, x = ⟨(a : Int), (b : Int)⟩ ∧ a < 16 ∧ b < 16 ∧ a &&& g = a ∧ b &&& v = b) ∧ (∀ u : Nat, u &&& A = B → (∀ x ∈ r, ∃ a b : Nat, x = ⟨(a : Int), (b : Int)⟩ ∧ u &&& a = b) → u &&& g = v)
 | [], A, B, hA, hB, _ => ⟨A, B, hA, hB, rfl, Nat.and_self A, Nat.and_self B, (fun x hx => absurd hx List.not_mem_nil), (fun u h _ => h)⟩
 | y :: r, A, B, hA, hB, h => by
  obtain ⟨a, b, ha, hb, rfl⟩ := h y List.mem_cons_self
  have e : seenStep ((A : Int), (B : Int)) ⟨(a : Int), (b : Int)⟩ = (((A ||| a : Nat) : Int), ((B ||| b : Nat) : Int)) := by
   simp only [seenStep]; rw [La ⟨A, by omega⟩ ⟨a, by omega⟩, La ⟨B, by omega⟩ ⟨b, by omega⟩]
  obtain ⟨g, v, hg, hv, h1, h2, h3, h4, h5⟩ := xF r (A ||| a) (B ||| b) (Nat.or_lt_two_pow (n := 4) hA ha) (Nat.or_lt_two_pow (n := 4) hB hb) (fun x hx => h x (List.mem_cons_of_mem _ hx))
  have sub : ∀ x y z : Nat, (x ||| y) &&& z = x ||| y → x &&& z = x ∧ y &&& z = y := fun x y z he => by
   constructor
   ·(refine Nat.eq_of_testBit_eq fun i => ?_); have := congrArg (fun n => n.testBit i) he; simp only [Nat.testBit_and, Nat.testBit_or] at this ⊢
    revert this
    cases x.testBit i <;> cases y.testBit i <;> cases z.testBit i <;> simp
   ·(refine Nat.eq_of_testBit_eq fun i => ?_); have := congrArg (fun n => n.testBit i) he; simp only [Nat.testBit_and, Nat.testBit_or] at this ⊢
    revert this
    cases x.testBit i <;> cases y.testBit i <;> cases z.testBit i <;> simp
  refine ⟨g, v, hg, hv, (by rw [List.foldl_cons, e]; exact h1), (sub _ _ _ h2).1, (sub _ _ _ h3).1, fun x hx => ?_, fun u hu hx => ?_⟩
  ·rcases List.mem_cons.1 hx with rfl | hx
   ·exact ⟨a, b, rfl, ha, hb, (sub _ _ _ h2).2, (sub _ _ _ h3).2⟩
   ·exact h4 x hx
  ·refine h5 u ?_ (fun x hx' => hx x (List.mem_cons_of_mem _ hx')); obtain ⟨a', b', e', he⟩ := hx _ List.mem_cons_self; injection e' with e1 e2; (have e1' : a = a' := by omega); (have e2' : b = b' := by omega); subst e1' e2'; rw [Nat.and_or_distrib_left, hu, he]
theorem Iy (v : Int) : ∀ (r : List S27) (b : Bool), r.foldl (qx v) b = true ↔ b = true ∧ ∀ x ∈ r, Go.bits .and .i64 v x.f0 = x.f1
 | [], b => by simp
 | y :: r, b => by
  rw [List.foldl_cons, Iy v r]; cases b <;> simp [qx]
theorem FV {q : List S27} (h : Sm4 q) : ∃ g v : Nat, g < 16 ∧ v < 16 ∧ uV q = ((g : Int), (v : Int)) ∧ ((eX q).2.2 = true → v &&& g = v) ∧ ∀ u : Nat, u < 16 → (FB q u ↔ (eX q).2.2 = true ∧ u &&& g = v) := by
 obtain ⟨g, v, hg, hv, h1, _, _, h4, h5⟩ := xF q 0 0 (by omega) (by omega) h; have hA : uV q = ((g : Int), (v : Int)) := h1
 have hok : (eX q).2.2 = true ↔ ∀ x ∈ q, Go.bits .and .i64 (v : Int) x.f0 = x.f1 := by
  have : (eX q).2.2 = q.foldl (qx (uV q).2) true := rfl; rw [this, hA, Iy]; simp
 have nat : ∀ u : Nat, u < 16 → ∀ x ∈ q, ∃ a b : Nat, x = ⟨(a : Int), (b : Int)⟩ ∧ a &&& g = a ∧ (Go.bits .and .i64 (u : Int) x.f0 = x.f1 ↔ u &&& a = b) := fun u hu x hx => by
  obtain ⟨a, b, rfl, ha, hb, hag, _⟩ := h4 x hx; refine ⟨a, b, rfl, hag, ?_⟩; show Go.bits .and .i64 (u : Int) (a : Int) = (b : Int) ↔ _; rw [sV ⟨u, by omega⟩ ⟨a, by omega⟩]; exact Int.ofNat_inj
 refine ⟨g, v, hg, hv, hA, fun hk => ?_, fun u hu => ?_⟩
 ·refine h5 v (by simp) (fun x hx => ?_); obtain ⟨a, b, e, _, hi⟩ := nat v hv x hx; exact ⟨a, b, e, hi.1 (hok.1 hk x hx)⟩
 ·rw [hok]; constructor
  ·intro hf
   have hug : u &&& g = v := h5 u (by simp) (fun x hx => by
    obtain ⟨a, b, e, _, hi⟩ := nat u hu x hx
    exact ⟨a, b, e, hi.1 (hf x hx)⟩)
   refine ⟨fun x hx => ?_, hug⟩; obtain ⟨a, b, e, hag, hi⟩ := nat u hu x hx; obtain ⟨a', b', e', _, hi'⟩ := nat v hv x hx; rw [e] at e'; injection e' with e1 e2; (have e1' : a = a' := by omega); (have e2' : b = b' := by omega); subst e1' e2'; refine hi'.2 ?_; rw [← hug, Nat.and_assoc, Nat.and_comm g a, hag]; exact hi.1 (hf x hx)
  ·rintro ⟨hk, hug⟩ x hx; obtain ⟨a, b, e, hag, hi⟩ := nat u hu x hx; obtain ⟨a', b', e', _, hi'⟩ := nat v hv x hx; rw [e] at e'; injection e' with e1 e2; (have e1' : a = a' := by omega); (have e2' : b = b' := by omega); subst e1' e2'; refine hi.2 ?_; rw [← hag, Nat.and_comm a g, ← Nat.and_assoc, hug]; exact hi'.1 (hk x hx)
theorem PN : ∀ z g v : Fin 16, v.1 &&& g.1 = v.1 → (v.1 ||| (z.1 &&& (15 ^^^ g.1))) < 16 ∧ (v.1 ||| (z.1 &&& (15 ^^^ g.1))) &&& g.1 = v.1 ∧ lost z.1 (v.1 ||| (z.1 &&& (15 ^^^ g.1))) = pop ((z.1 &&& g.1) &&& (31 ^^^ v.1)) ∧ made z.1 (v.1 ||| (z.1 &&& (15 ^^^ g.1))) = pop (v.1 &&& (31 ^^^ z.1)) := by decide +kernel
open Classical in
noncomputable def bestTo (W S : Int) (q : List S27) (z : Nat) : Nat → Int
 | 0 => 99
 | n + 1 => if FB q n ∧ (lost z n : Int) ≤ W ∧ (made z n : Int) ≤ S then mn (bestTo W S q z n) ((lost z n : Int) + (made z n : Int)) else bestTo W S q z n
theorem yR (W S : Int) (q : List S27) (z : Nat) (T : Int) : ∀ n, bestTo W S q z n ≤ T ↔ 99 ≤ T ∨ ∃ u, u < n ∧ FB q u ∧ (lost z u : Int) ≤ W ∧ (made z u : Int) ≤ S ∧ (lost z u : Int) + (made z u : Int) ≤ T
 | 0 => by simp [bestTo]
 | n + 1 => by
  have ih := yR W S q z T n; rw [bestTo]; split
  ·rename_i hc; rw [Na, ih]; constructor
   ·rintro ((h | ⟨u, h1, h2⟩) | h)
    ·exact .inl h
    ·exact .inr ⟨u, by omega, h2⟩
    ·exact .inr ⟨n, by omega, hc.1, hc.2.1, hc.2.2, h⟩
   ·rintro (h | ⟨u, h1, h2⟩)
    ·exact .inl (.inl h)
    ·rcases Nat.lt_or_eq_of_le (Nat.le_of_lt_succ h1) with h3 | rfl
     ·exact .inl (.inr ⟨u, h3, h2⟩)
     ·exact .inr h2.2.2.2
  ·rename_i hc; rw [ih]; constructor
   ·rintro (h | ⟨u, h1, h2⟩)
    ·exact .inl h
    ·exact .inr ⟨u, by omega, h2⟩
   ·rintro (h | ⟨u, h1, h2⟩)
    ·exact .inl h
    ·rcases Nat.lt_or_eq_of_le (Nat.le_of_lt_succ h1) with h3 | rfl
     ·exact .inr ⟨u, h3, h2⟩
     ·exact absurd ⟨h2.1, h2.2.1, h2.2.2.1⟩ hc
theorem Cw (W S T : Int) {ok : Bool} {A B : Nat} (p1 : A ≤ 5) (p2 : B ≤ 5) (c : Int) (hc : c = if ok = true ∧ (A : Int) ≤ W ∧ (B : Int) ≤ S then wrap64 ((A : Int) + (B : Int)) else fV) :
 (if c < 99 then c else 99) ≤ T ↔ 99 ≤ T ∨ (ok = true ∧ (A : Int) ≤ W ∧ (B : Int) ≤ S ∧ (A : Int) + (B : Int) ≤ T) := by
 rw [hc]; by_cases hcc : ok = true ∧ (A : Int) ≤ W ∧ (B : Int) ≤ S
 ·rw [if_pos hcc, bJ (by omega) (by omega), if_pos (by omega)]; constructor
  ·exact fun h => .inr ⟨hcc.1, hcc.2.1, hcc.2.2, h⟩
  ·rintro (h | h)
   ·omega
   ·exact h.2.2.2
 ·rw [if_neg hcc, if_neg (by decide)]; constructor
  ·exact .inl
  ·rintro (h | h)
   ·exact h
   ·exact absurd ⟨h.1, h.2.1, h.2.2.1⟩ hcc
theorem yZ {a b : Nat} {W : Int} (h : a ≤ b) (hb : (b : Int) ≤ W) : (a : Int) ≤ W := Int.le_trans (Int.ofNat_le.2 h) hb
theorem De {a b a' b' : Nat} {W : Int} (h : a ≤ a') (h' : b ≤ b') (hb : (a' : Int) + (b' : Int) ≤ W) : (a : Int) + (b : Int) ≤ W := Int.le_trans (Int.add_le_add (Int.ofNat_le.2 h) (Int.ofNat_le.2 h')) hb
theorem uX (W S : Int) {q : List S27} (hq : Sm4 q) {s : S86} {z : Nat} (hz : z < 16) (hs : s.f1 = (z : Int)) : bestTo W S q z 16 = fQ W S q s := by
 obtain ⟨g, v, hg, hv, hA, hvg, hfit⟩ := FV hq; have hz32 : z < 32 := Nat.lt_trans hz (by decide); have hg32 : g < 32 := Nat.lt_trans hg (by decide); have hv32 : v < 32 := Nat.lt_trans hv (by decide); have b1 : z &&& g < 32 := Nat.lt_of_le_of_lt Nat.and_le_left hz32; have b3 : (z &&& g) &&& (31 ^^^ v) < 32 := Nat.lt_of_le_of_lt Nat.and_le_left b1; have b4 : v &&& (31 ^^^ z) < 32 := Nat.lt_of_le_of_lt Nat.and_le_left hv32; have p1 : pop ((z &&& g) &&& (31 ^^^ v)) ≤ 5 := ut ⟨_, b3⟩; have p2 : pop (v &&& (31 ^^^ z)) ≤ 5 := ut ⟨_, b4⟩
 have e1 : jD (dM (Go.bits .and .i64 s.f1 (g : Int)) (v : Int)) = (pop ((z &&& g) &&& (31 ^^^ v)) : Int) := by
  rw [hs, sV ⟨z, hz32⟩ ⟨g, hg32⟩, yQ ⟨z &&& g, b1⟩ ⟨v, hv32⟩, uk ⟨_, b3⟩]
 have e2 : jD (dM (v : Int) s.f1) = (pop (v &&& (31 ^^^ z)) : Int) := by
  rw [hs, yQ ⟨v, hv32⟩ ⟨z, hz32⟩, uk ⟨_, b4⟩]
 have hc : iw W S q s = if (eX q).2.2 = true ∧ (pop ((z &&& g) &&& (31 ^^^ v)) : Int) ≤ W ∧ (pop (v &&& (31 ^^^ z)) : Int) ≤ S then wrap64 ((pop ((z &&& g) &&& (31 ^^^ v)) : Int) + (pop (v &&& (31 ^^^ z)) : Int)) else fV := by
  (have h1 : (eX q).1 = (g : Int) := by rw [eX, hA]); (have h2 : (eX q).2.1 = (v : Int) := by rw [eX, hA]); rw [iw, cellP, h1, h2, e1, e2]
 have key : ∀ T, bestTo W S q z 16 ≤ T ↔ fQ W S q s ≤ T := fun T => by
  have hsq : fQ W S q s ≤ T ↔ _ := Cw W S T p1 p2 _ hc; rw [yR, hsq]; refine or_congr Iff.rfl ⟨?_, ?_⟩
  ·rintro ⟨u, hu, h1, h2, h3, h4⟩; obtain ⟨h5, h6⟩ := (hfit u hu).1 h1; have h7 := E9 ⟨z, hz32⟩ ⟨u, Nat.lt_trans hu (by decide)⟩ ⟨g, hg32⟩; replace h7 : pop ((z &&& g) &&& (31 ^^^ (u &&& g))) ≤ lost z u ∧ pop ((u &&& g) &&& (31 ^^^ z)) ≤ made z u := h7; rw [h6] at h7; exact ⟨h5, yZ h7.1 h2, yZ h7.2 h3, De h7.1 h7.2 h4⟩
  ·rintro ⟨h1, h2, h3, h4⟩; have hb := PN ⟨z, hz⟩ ⟨g, hg⟩ ⟨v, hv⟩ (hvg h1); obtain ⟨k1, k2, k3, k4⟩ : (v ||| (z &&& (15 ^^^ g))) < 16 ∧ (v ||| (z &&& (15 ^^^ g))) &&& g = v ∧ lost z (v ||| (z &&& (15 ^^^ g))) = pop ((z &&& g) &&& (31 ^^^ v)) ∧ made z (v ||| (z &&& (15 ^^^ g))) = pop (v &&& (31 ^^^ z)) := hb; exact ⟨_, k1, (hfit _ k1).2 ⟨h1, k2⟩, by rw [k3]; exact h2, by rw [k4]; exact h3, by rw [k3, k4]; exact h4⟩
 exact Int.le_antisymm ((key (fQ W S q s)).2 (Int.le_refl _)) ((key (bestTo W S q z 16)).1 (Int.le_refl _))
def nI (s : S86) : S86 := ⟨s.f0, mx 1 (Go.bits .and .i64 s.f1 15)⟩
def iY (x : S27) : S27 := ⟨Go.bits .and .i64 x.f0 15, Go.bits .and .i64 x.f1 15⟩
def kL (h : S66) : S66 := ⟨h.f0, h.f1.map nI⟩
theorem sH {s : S86} (h0 : 1 ≤ s.f1) (h1 : s.f1 ≤ 31) : ∃ z : Nat, 1 ≤ z ∧ z < 16 ∧ (nI s).f1 = (z : Int) := by
 obtain ⟨z, hz⟩ := Int.eq_ofNat_of_zero_le (show 0 ≤ s.f1 by omega); (have hz32 : z < 32 := by omega); have hb : z &&& 15 < 16 := Nat.lt_of_le_of_lt Nat.and_le_right (by omega)
 have e : (nI s).f1 = mx 1 ((z &&& 15 : Nat) : Int) := by
  show mx 1 (Go.bits .and .i64 s.f1 15) = _; rw [hz]; exact congrArg (mx 1) (sV ⟨z, hz32⟩ ⟨15, by omega⟩)
 rw [e]; unfold mx; split
 ·exact ⟨z &&& 15, by omega, hb, rfl⟩
 ·exact ⟨1, by omega, by omega, rfl⟩
theorem I5 {sh : List S86} (h : Asc sh) : Asc (sh.map nI) := by
 refine ⟨fun s hs => ?_, ?_⟩
 ·obtain ⟨s', h', rfl⟩ := List.mem_map.1 hs; have h1 := h.1 s' h'; obtain ⟨z, h2, h3, h4⟩ := sH (s := s') (by omega) (by omega); rw [h4]; exact ⟨h1.1, h1.2.1, by omega, by omega⟩
 ·rw [List.pairwise_map]; exact h.2
theorem EZ {m : Int} {h : S66} (hg : jI m h) : jI m (kL h) := by
 obtain ⟨h1, h2, h3, h4, h5, h6⟩ := hg; exact ⟨h1, h2, h3, I5 h4, by simpa [kL] using h5, by simpa [kL] using h6⟩
theorem wJ {v : Nat} (hv : v < 32) {x : S27} (h : uK v x) : uK v (iY x) ∧ ∃ a b : Nat, a < 16 ∧ b < 16 ∧ iY x = ⟨(a : Int), (b : Int)⟩ := by
 obtain ⟨a, ha, rfl⟩ := h; have hva : v &&& a < 32 := Nat.lt_of_le_of_lt Nat.and_le_left hv; have e1 : Go.bits .and .i64 (a : Int) 15 = ((a &&& 15 : Nat) : Int) := sV ⟨a, ha⟩ ⟨15, by omega⟩; have e2 : Go.bits .and .i64 ((v &&& a : Nat) : Int) 15 = (((v &&& a) &&& 15 : Nat) : Int) := sV ⟨v &&& a, hva⟩ ⟨15, by omega⟩
 have e : iY ⟨(a : Int), ((v &&& a : Nat) : Int)⟩ = ⟨((a &&& 15 : Nat) : Int), ((v &&& (a &&& 15) : Nat) : Int)⟩ := by
  simp only [iY]; rw [e1, e2, Nat.and_assoc]
 rw [e]; have h15 : a &&& 15 < 16 := Nat.lt_of_le_of_lt Nat.and_le_right (by omega); exact ⟨⟨a &&& 15, by omega, rfl⟩, a &&& 15, v &&& (a &&& 15), h15, Nat.lt_of_le_of_lt Nat.and_le_right h15, rfl⟩
def nQ (r : nZ) : nZ := (r.1.map kL, r.2.1, r.2.2.1, r.2.2.2.1, r.2.2.2.2.1.map (·.map iY), r.2.2.2.2.2)
theorem uz {a1 a2 a3 : Int} {r : nZ} (hg : iI a1 a2 a3 r) (ht : xJ r) (h3 : a3 ≤ 8) : iI a1 a2 a3 (nQ r) ∧ (∀ h ∈ (nQ r).1, ∀ s ∈ h.f1, ∃ z : Nat, z < 16 ∧ s.f1 = (z : Int)) ∧ ∀ q ∈ (nQ r).2.2.2.2.1, Sm4 q := by
 have hlit : ∀ q ∈ r.2.2.2.2.1, ∃ v : Nat, v < 32 ∧ ∀ x ∈ q, uK v x := fun q hq => by
  obtain ⟨_, _, ms, cs, _, _, _, _, hv⟩ := ht; obtain ⟨i, hi, rfl⟩ := List.getElem_of_mem hq; obtain ⟨v, hv1, _, hv2⟩ := hv i hi; exact ⟨v, hv1, hv2⟩
 obtain ⟨⟨g1, g2, g3⟩, g4, g5, g6, g7, g8, g9⟩ := hg; refine ⟨⟨⟨by simpa [nQ] using g1, by simpa [nQ] using g2, fun h hh => ?_⟩, g4, g5, g6, by simpa [nQ] using g7, by simpa [nQ] using g8, fun q hq => ?_⟩, fun h hh s hs => ?_, fun q hq => ?_⟩
 ·obtain ⟨h', hm, rfl⟩ := List.mem_map.1 hh; exact EZ (g3 h' hm)
 ·obtain ⟨q', hm, rfl⟩ := List.mem_map.1 hq; obtain ⟨v, hv, hx⟩ := hlit q' hm; refine ⟨by simpa using (g9 q' hm).1, fun x hxm => ?_⟩; obtain ⟨x', hx', rfl⟩ := List.mem_map.1 hxm; exact (wJ hv (hx x' hx')).1.ok hv
 ·obtain ⟨h', hm, rfl⟩ := List.mem_map.1 hh; obtain ⟨s', hs', rfl⟩ := List.mem_map.1 hs; have h1 := (g3 h' hm).2.2.2.1.1 s' hs'; obtain ⟨z, _, h4, h5⟩ := sH (s := s') (by omega) (by omega); exact ⟨z, h4, h5⟩
 ·obtain ⟨q', hm, rfl⟩ := List.mem_map.1 hq; obtain ⟨v, hv, hx⟩ := hlit q' hm; intro x hxm; obtain ⟨x', hx', rfl⟩ := List.mem_map.1 hxm; exact (wJ hv (hx x' hx')).2
theorem FT {a1 a2 a3 : Int} {r : nZ} (hg : iI a1 a2 a3 r) (ht : xJ r) (h2 : a2 ≤ 8) (h3 : a3 ≤ 8) : (∀ h ∈ (nQ r).1, iL h.f1) ∧ jW (nQ r).2.2.2.2.1 := by
 obtain ⟨h4, h5, h6⟩ := uz hg ht h3; refine ⟨fun h hm => ⟨(h4.1.2.2 h hm).2.2.2.1, ?_⟩, ?_, fun q hq => (h6 q hq).sm⟩
 ·have := (h4.1.2.2 h hm).2.2.2.2.2; omega
 ·have := h4.2.2.2.2.2.1; omega
theorem CP {a1 a2 a3 : Int} {r : nZ} (hg : iI a1 a2 a3 r) (ht : xJ r) (h1 : a1 ≤ 4) (h2 : a2 ≤ 8) (h3 : a3 ≤ 8) {t : Int} (h4 : 0 ≤ t) (h5 : t ≤ 40) : jl (nQ r).1 (nQ r).2.1 (nQ r).2.2.1 t (nQ r).2.2.2.2.1 = 0 := by
 have hs := (uz hg ht h3).1; exact iI.check hs h1 h2 h3 h4 h5 rfl hs.2.2.2.2.2.2
theorem M4 {W : World} {base gs n cap : Nat} {ok : Nat → Prop} {xs : List S86} (h : k86.R 86 W base ok (.slice (some ⟨gs, 0, none⟩) n cap) xs) (k : Nat) (hk : k < xs.length) (z : Int) :
 k86.R 86 (W.setCell ⟨gs, k * 2 + 1, none⟩ (.int .i64 z)) base ok (.slice (some ⟨gs, 0, none⟩) n cap) (xs.set k ⟨(xs[k]).f0, z⟩) ∧ W.grownBy (W.setCell ⟨gs, k * 2 + 1, none⟩ (.int .i64 z)) (some gs) ∧ W.cell? ⟨gs, k * 2 + 1, none⟩ = some (.int .i64 (xs[k]).f1) ∧ W.frozen? ⟨gs, k * 2 + 1, none⟩ = false := by
 have hn := (Kd.bF h).1; obtain ⟨c, hcl, hM, hcc, hfr⟩ := Kd.zk h z86 (k : Int) (by omega) (by omega); rw [Int.toNat_natCast] at hM hcc hfr; (have e : xs.getD k z86 = xs[k] := by rw [List.getD_eq_getElem?_getD, List.getElem?_eq_getElem hk]; rfl); rw [e] at hM; obtain rfl := FZ hM; have h2 := Kd.Gq h (k : Int) (by omega) (by omega) (c := [.int .u8 (xs[k]).f0, .int .i64 (xs[k]).f1]) (seg := [.int .i64 z]) (j := 1) (x' := ⟨(xs[k]).f0, z⟩) (okp := fun _ => False) rfl (fun j u hu => by rw [Int.toNat_natCast]; exact hcc j u hu) (by show 1 + 1 ≤ 2; omega) (nN _ _ _ (⟨(xs[k]).f0, z⟩ : S86)) (fun _ h => h.elim); rw [Int.toNat_natCast] at h2; exact ⟨h2.1, h2.2, hcc 1 _ rfl, hfr 1⟩
theorem Nl {W : World} {base gs n cap : Nat} {ok : Nat → Prop} {xs : List S27} (h : k27.R 27 W base ok (.slice (some ⟨gs, 0, none⟩) n cap) xs) (k : Nat) (hk : k < xs.length) (y z : Int) :
 k27.R 27 ((W.setCell ⟨gs, k * 2, none⟩ (.int .i64 y)).setCell ⟨gs, k * 2 + 1, none⟩ (.int .i64 z)) base ok (.slice (some ⟨gs, 0, none⟩) n cap) (xs.set k ⟨y, z⟩) ∧ W.grownBy ((W.setCell ⟨gs, k * 2, none⟩ (.int .i64 y)).setCell ⟨gs, k * 2 + 1, none⟩ (.int .i64 z)) (some gs) ∧ W.cell? ⟨gs, k * 2, none⟩ = some (.int .i64 (xs[k]).f0) ∧ W.cell? ⟨gs, k * 2 + 1, none⟩ = some (.int .i64 (xs[k]).f1) ∧ W.frozen? ⟨gs, k * 2, none⟩ = false ∧ W.frozen? ⟨gs, k * 2 + 1, none⟩ = false := by
 have hn := (Kd.bF h).1; obtain ⟨c, hcl, hM, hcc, hfr⟩ := Kd.zk h z27 (k : Int) (by omega) (by omega); rw [Int.toNat_natCast] at hM hcc hfr; (have e : xs.getD k z27 = xs[k] := by rw [List.getD_eq_getElem?_getD, List.getElem?_eq_getElem hk]; rfl); rw [e] at hM; obtain rfl := Fg hM; have h2 := Kd.Gq h (k : Int) (by omega) (by omega) (c := [.int .i64 (xs[k]).f0, .int .i64 (xs[k]).f1]) (seg := [.int .i64 y, .int .i64 z]) (j := 0) (x' := ⟨y, z⟩) (okp := fun _ => False) rfl (fun j u hu => by rw [Int.toNat_natCast]; exact hcc j u hu) (by show 0 + 2 ≤ 2; omega) (qD _ _ _ (⟨y, z⟩ : S27)) (fun _ h => h.elim); rw [Int.toNat_natCast] at h2; exact ⟨h2.1, h2.2, hcc 0 _ rfl, hcc 1 _ rfl, hfr 0, hfr 1⟩
theorem AU {W : World} {base g cap : Nat} {ok : Nat → Prop} {hs : List S66} {n : Nat} (h : Kd.S k66 66 W base ok (.slice (some ⟨g, 0, none⟩) n cap) hs) (i k : Nat) (x : S66) (s : S86) (hi : hs[i]? = some x) (hk : x.f1[k]? = some s) :
 ∃ gs c, W.cell? ⟨g, i * 3 + 2, none⟩ = some (.slice (some ⟨gs, 0, none⟩) x.f1.length c) ∧ W.cell? ⟨gs, k * 2 + 1, none⟩ = some (.int .i64 s.f1) ∧ W.frozen? ⟨gs, k * 2 + 1, none⟩ = false ∧ base ≤ gs ∧ (∃ cells, W.heap[gs]? = some (.cells cells 86 (0, 0))) ∧
  ∀ z, Kd.S k66 66 (W.setCell ⟨gs, k * 2 + 1, none⟩ (.int .i64 z)) base ok (.slice (some ⟨g, 0, none⟩) n cap) (hs.set i ⟨x.f0, x.f1.set k ⟨s.f0, z⟩⟩) := by
 have hn := (Kd.jL h).1; obtain ⟨hi0, hi1⟩ := List.getElem?_eq_some_iff.1 hi; obtain ⟨hk0, hk1⟩ := List.getElem?_eq_some_iff.1 hk; obtain ⟨oki, c, hcl, hM, hcc, hoki, hback⟩ := Kd.sF h z66 (i : Int) (by omega) (by omega); rw [Int.toNat_natCast] at hM hcc hback; (have e : hs.getD i z66 = x := by rw [List.getD_eq_getElem?_getD, hi]; rfl); rw [e] at hM; obtain ⟨v2, rfl, hR⟩ := yN hM; obtain ⟨gs, cs, rfl, hb, hlt, hty⟩ := Kd.wN hR (by omega); obtain ⟨_, _, hc, hf⟩ := M4 hR k hk0 0; rw [hk1] at hc; refine ⟨gs, cs, ?_, hc, hf, hb, hty, fun z => ?_⟩
 ·have := hcc 2 _ rfl; rw [add_plain] at this; (try rw [Nat.zero_add] at this); exact this
 ·obtain ⟨h1, h2, _, _⟩ := M4 hR k hk0 z; rw [hk1] at h1; exact hback h2 (fun j hj => by injection hj with hj; subst hj; exact hR.1 gs (by simp [Value.ownBlock])) (Et _ _ _ (⟨x.f0, x.f1.set k ⟨s.f0, z⟩⟩ : S66) (by simpa using h1))
theorem Cy {W : World} {base g cap : Nat} {ok : Nat → Prop} {hs : List S66} {n : Nat} (h : Kd.S k66 66 W base ok (.slice (some ⟨g, 0, none⟩) n cap) hs) (i : Nat) (x : S66) (hi : hs[i]? = some x) : ∃ A c, W.cell? ⟨g, i * 3 + 2, none⟩ = some (.slice A x.f1.length c) := by
 have hn := (Kd.jL h).1; obtain ⟨hi0, hi1⟩ := List.getElem?_eq_some_iff.1 hi; obtain ⟨oki, c, hcl, hM, hcc, hoki, hback⟩ := Kd.sF h z66 (i : Int) (by omega) (by omega); rw [Int.toNat_natCast] at hM hcc hback; (have e : hs.getD i z66 = x := by rw [List.getD_eq_getElem?_getD, hi]; rfl); rw [e] at hM; obtain ⟨v2, rfl, hR⟩ := yN hM; obtain ⟨A, c, rfl⟩ := Kd.dB hR; refine ⟨A, c, ?_⟩; have := hcc 2 _ rfl; rw [add_plain] at this; (try rw [Nat.zero_add] at this); exact this
theorem uW {W : World} {base g cap : Nat} {ok : Nat → Prop} {sq : List (List S27)} {n : Nat} (h : Kd.S (Kd.slice 27 k27) 39 W base ok (.slice (some ⟨g, 0, none⟩) n cap) sq) (i k : Nat) (q : List S27) (x : S27) (hi : sq[i]? = some q) (hk : q[k]? = some x) :
 ∃ gs c, W.cell? ⟨g, i, none⟩ = some (.slice (some ⟨gs, 0, none⟩) q.length c) ∧ W.cell? ⟨gs, k * 2, none⟩ = some (.int .i64 x.f0) ∧ W.cell? ⟨gs, k * 2 + 1, none⟩ = some (.int .i64 x.f1) ∧ W.frozen? ⟨gs, k * 2, none⟩ = false ∧ W.frozen? ⟨gs, k * 2 + 1, none⟩ = false ∧ base ≤ gs ∧ (∃ cells, W.heap[gs]? = some (.cells cells 27 (0, 0))) ∧
  ∀ y z, Kd.S (Kd.slice 27 k27) 39 ((W.setCell ⟨gs, k * 2, none⟩ (.int .i64 y)).setCell ⟨gs, k * 2 + 1, none⟩ (.int .i64 z)) base ok (.slice (some ⟨g, 0, none⟩) n cap) (sq.set i (q.set k ⟨y, z⟩)) := by
 have hn := (Kd.jL h).1; obtain ⟨hi0, hi1⟩ := List.getElem?_eq_some_iff.1 hi; obtain ⟨hk0, hk1⟩ := List.getElem?_eq_some_iff.1 hk; obtain ⟨oki, c, hcl, hM, hcc, hoki, hback⟩ := Kd.sF h ([] : List S27) (i : Int) (by omega) (by omega); rw [Int.toNat_natCast] at hM hcc hback; (have e : sq.getD i [] = q := by rw [List.getD_eq_getElem?_getD, hi]; rfl); rw [e] at hM; obtain ⟨v, rfl, hR⟩ := hM; obtain ⟨gs, cs, rfl, hb, hlt, hty⟩ := Kd.wN hR (by omega); obtain ⟨_, _, hc, hc2, hf, hf2⟩ := Nl hR k hk0 0 0; rw [hk1] at hc hc2; refine ⟨gs, cs, ?_, hc, hc2, hf, hf2, hb, hty, fun y z => ?_⟩
 ·have := hcc 0 _ rfl; rw [add_plain] at this; (try rw [Nat.zero_add] at this); (have e1 : i * (Kd.slice 27 k27).sz + 0 = i := by show i * 1 + 0 = i; omega); rw [e1] at this; exact this
 ·obtain ⟨h1, h2, _, _, _, _⟩ := Nl hR k hk0 y z; exact hback h2 (fun j hj => by injection hj with hj; subst hj; exact hR.1 gs (by simp [Value.ownBlock])) ⟨_, rfl, by simpa using h1⟩
theorem xm {W : World} {base g cap : Nat} {ok : Nat → Prop} {sq : List (List S27)} {n : Nat} (h : Kd.S (Kd.slice 27 k27) 39 W base ok (.slice (some ⟨g, 0, none⟩) n cap) sq) (i k : Nat) (q : List S27) (x : S27) (hi : sq[i]? = some q) (hk : q[k]? = some x) {gs l c : Nat} (c1 : W.cell? ⟨g, i, none⟩ = some (.slice (some ⟨gs, 0, none⟩) l c)) :
 W.cell? ⟨gs, k * 2, none⟩ = some (.int .i64 x.f0) ∧ W.cell? ⟨gs, k * 2 + 1, none⟩ = some (.int .i64 x.f1) ∧ W.frozen? ⟨gs, k * 2, none⟩ = false ∧ W.frozen? ⟨gs, k * 2 + 1, none⟩ = false ∧ base ≤ gs ∧ (∃ cells, W.heap[gs]? = some (.cells cells 27 (0, 0))) ∧
  ∀ y z, Kd.S (Kd.slice 27 k27) 39 ((W.setCell ⟨gs, k * 2, none⟩ (.int .i64 y)).setCell ⟨gs, k * 2 + 1, none⟩ (.int .i64 z)) base ok (.slice (some ⟨g, 0, none⟩) n cap) (sq.set i (q.set k ⟨y, z⟩)) := by
 obtain ⟨gs', c', d1, d2, d3, d4, d5, d6, d7, d8⟩ := uW h i k q x hi hk; rw [d1] at c1; (have e : (⟨gs', 0, none⟩ : Addr) = ⟨gs, 0, none⟩ := by injection c1 with c1; injection c1 with c1; injection c1); injection e with e; subst e; exact ⟨d2, d3, d4, d5, d6, d7, d8⟩
theorem Dr {W : World} {base g cap : Nat} {ok : Nat → Prop} {sq : List (List S27)} {n : Nat} (h : Kd.S (Kd.slice 27 k27) 39 W base ok (.slice (some ⟨g, 0, none⟩) n cap) sq) (i : Nat) (q : List S27) (hi : sq[i]? = some q) : ∃ A c, W.cell? ⟨g, i, none⟩ = some (.slice A q.length c) := by
 have hn := (Kd.jL h).1; obtain ⟨hi0, hi1⟩ := List.getElem?_eq_some_iff.1 hi; obtain ⟨oki, c, hcl, hM, hcc, hoki, hback⟩ := Kd.sF h ([] : List S27) (i : Int) (by omega) (by omega); rw [Int.toNat_natCast] at hM hcc hback; (have e : sq.getD i [] = q := by rw [List.getD_eq_getElem?_getD, hi]; rfl); rw [e] at hM; obtain ⟨v, rfl, hR⟩ := hM; obtain ⟨A, c, rfl⟩ := Kd.dB hR; refine ⟨A, c, ?_⟩; have := hcc 0 _ rfl; rw [add_plain] at this; (try rw [Nat.zero_add] at this); (have e1 : i * (Kd.slice 27 k27).sz + 0 = i := by show i * 1 + 0 = i; omega); rw [e1] at this; exact this
def upTo {α : Type} (f : α → α) (l : List α) (k : Nat) : List α := (l.take k).map f ++ l.drop k
theorem kw {α : Type} (f : α → α) (l : List α) (k : Nat) (hk : k ≤ l.length) : (upTo f l k).length = l.length := by simp [upTo]; omega
theorem qL {α : Type} (f : α → α) (l : List α) : upTo f l 0 = l := by simp [upTo]
theorem tH {α : Type} (f : α → α) (l : List α) : upTo f l l.length = l.map f := by simp [upTo]
theorem tF {α : Type} (f : α → α) (l : List α) (k : Nat) (hk : k < l.length) (h' : k < (upTo f l k).length) : (upTo f l k)[k] = l[k] := by
 have h1 : (upTo f l k)[k]? = l[k]? := by
  unfold upTo; rw [List.getElem?_append_right (by simp; omega), List.getElem?_drop]; congr 1; simp; try omega
 rw [List.getElem?_eq_getElem h', List.getElem?_eq_getElem hk] at h1; exact Option.some.inj h1
theorem sw {α : Type} (f : α → α) (l : List α) (k : Nat) (hk : k < l.length) : (upTo f l k).set k (f l[k]) = upTo f l (k + 1) := by
 unfold upTo; rw [List.drop_eq_getElem_cons hk, List.set_append_right _ _ (by simp; omega), List.take_succ_eq_append_getElem hk, List.map_append, List.append_assoc]; congr 1; (have : k - (List.map f (List.take k l)).length = 0 := by simp; omega); rw [this]; rfl
theorem tF? {α : Type} (f : α → α) (l : List α) (k : Nat) (hk : k < l.length) : (upTo f l k)[k]? = some l[k] := by
 (have h' : k < (upTo f l k).length := by rw [kw f l k (by omega)]; exact hk); rw [List.getElem?_eq_getElem h', tF f l k hk h']
theorem yS {α : Type} (f : α → α) (l : List α) (k : Nat) (hk : k < l.length) : (upTo f l k).set k l[k] = upTo f l k := by
 (have h' : k < (upTo f l k).length := by rw [kw f l k (by omega)]; exact hk); (refine List.ext_getElem? fun j => ?_); by_cases hj : j = k
 ·subst hj; rw [List.getElem?_set_self h', tF? f l j hk]
 ·rw [List.getElem?_set_ne (Ne.symm hj)]
end Go.Proofs.Ytihedeofkhapiaa.Pr
end
section
namespace Go.Proofs.Ytihedeofkhapiaa.Pr
open Go.RowKit Go.Proofs.YtihedeofkhapiaaW.PrintWords Go.Proofs.YtihedeofkhapiaaW.PrintLast Go.Proofs.YtihedeofkhapiaaW.PrintMore
attribute [local go_sem] kW kK mg lY
def lD.T18 : Bool × List (List Nat × List Nat) := (true, [([], []), ([], []), ([1], [1]), ([], []), ([3], [3]), ([2, 4], [2, 4]), ([0, 5, 4], [0, 5]), ([0, 1, 2, 3, 4, 5, 6], []), ([7, 6, 6, 0, 1, 2, 3, 4, 5, 6], [6, 7])])
def lD.B18 : List Nat := [0, 0, 2, 0, 8, 30, 63, 127, 255]
theorem lD.QD : jE .any (opsOf Try.f25 18) = lD.T18 := by kernel_rfl
theorem lD.Od : jA lD.T18.2 lD.B18 = true := by kernel_rfl
def lD.T17 : Bool × List (List Nat × List Nat) := (true, [([], []), ([], []), ([], []), ([2], [2]), ([3], [3]), ([4], [4]), ([5], [5]), ([], []), ([7], [7]), ([8], [8]), ([9], [9]), ([10], [10]), ([0, 0, 2, 3, 4, 5, 6, 10], [0]), ([12, 0, 2, 3, 4, 5, 6, 10], [12]), ([13, 6, 0, 2, 3, 4, 5, 6, 10], [6, 13]), ([1, 0, 1, 2, 3, 4, 5, 6, 7, 8, 9, 10, 11, 12, 13, 14], [1]), ([15, 0, 1, 2, 3, 4, 5, 6, 7, 8, 9, 10, 11, 12, 13, 14], [15]), ([16, 11, 14, 0, 1, 2, 3, 4, 5, 6, 7, 8, 9, 10, 11, 12, 13, 14], [11, 16])])
def lD.B17 : List Nat := [0, 0, 0, 4, 12, 28, 60, 0, 128, 384, 896, 1920, 2045, 6141, 14333, 32767, 65535, 131071]
theorem lD.Qv : jE .any (opsOf Try.f25 17) = lD.T17 := by kernel_rfl
theorem lD.N7 : jA lD.T17.2 lD.B17 = true := by kernel_rfl
set_option maxRecDepth 100000 in
set_option maxHeartbeats 8000000 in
theorem BR (k : Nat) (g : Nat) (s0 s1 : Int) (hs : List S66) (wn sc tt : Int) (sq : List (List S27)) (cut : Int) (txt : ByteArray) (vis : List Int) (y0 y1 u ya yb t2 za zb : Int) (w0 w : World) (hI : aI w0 w g s0 s1) (hB : Below w0.heap.size w0 w)
 (h1 : ae.f k s0 s1 2 3 3 = some (hs, wn, sc, tt, sq, cut, txt, vis, y0, y1)) (h2 : aJ.f y0 y1 4 = some (u, ya, yb)) (h3 : cK.f ya yb [tt, u] = some (t2, za, zb))
 (hp0 : 0 < hs.length) (hp1 : 0 < sq.length) (hl : hs.length ≤ 100) (hl2 : ∀ h ∈ hs, h.f1.length ≤ 100) (hq : sq.length ≤ 100) (hq2 : ∀ q ∈ sq, q.length ≤ 100) :
 Calls Try.prog 25 #[.pointer (some ⟨g, 0, none⟩)] w fun e w' => ∃ A c B d, e = .returned (.agg #[.slice A hs.length c, .int .i64 wn, .int .i64 sc, .int .i64 t2, .slice B sq.length d]) ∧ Kd.S k66 66 w' w.heap.size (fun _ => True) (.slice A hs.length c) (hs.map kL) ∧ Kd.S (Kd.slice 27 k27) 39 w' w.heap.size (fun _ => True) (.slice B sq.length d) (sq.map (·.map iY)) ∧ aI w0 w' g za zb ∧ Below w0.heap.size w0 w' ∧ ax w w' g none := by
 have HI := aa.mk hI; have HB := aa.mk hB; have HG := aa.mk hI.lt; have HW := aa.mk hB.size; have F1 := aa.mk h1; have F2 := aa.mk h2; have F3 := aa.mk h3; have HL := aa.mk hl; have HL2 := aa.mk hl2; have HQ := aa.mk hq; have HQ2 := aa.mk hq2; clear hI hB h1 h2 h3 hl hl2 hq hq2; go_enter Try.func25, Try.ntmps25; (go_wp2_with (fail)); obtain ⟨W1, hW1⟩ : ∃ W1, W1 = w.alloc (.cells #[.slice none 0 0, .int .i64 0, .int .i64 0, .int .i64 0, .slice none 0 0] 25) := ⟨_, rfl⟩; (have hb : Below w.heap.size w W1 := by rw [hW1]; exact ah (Below.refl _ _) _); have B2 := aa.mk (show W1.heap[w.heap.size]? = some (.cells #[.slice none 0 0, .int .i64 0, .int .i64 0, .int .i64 0, .slice none 0 0] 25 (0, 0)) by rw [hW1]; exact heap_alloc_new w _); have LE := aa.mk (show w.heap.size ≤ W1.heap.size from hb.size); rw [← hW1]; replace HI := aa.mk (aI.below HI.out hb); replace HB := aa.mk (az HB.out hb); have HK := aa.mk (ax.of_below hb g none); clear hW1 hb; refine (Di k g s0 s1 2 3 3 hs wn sc tt sq cut txt vis y0 y1 w0 _ HI.out HB.out F1.out).mono ?_; rintro e w2 ⟨v0, v4, v7, rfl, ho0, ho1, ho2, hI, hB, hk⟩; obtain ⟨gh, c, rfl, _⟩ := Kd.Ci ho0 hp0; obtain ⟨gq, d, rfl, _⟩ := Kd.Ci ho1 hp1; obtain ⟨V, e, rfl⟩ := Kd.dB ho2; have SH := aa.mk (Kd.zn ho0 LE.out); have SQ := aa.mk (Kd.zn ho1 LE.out); replace B2 := aa.mk (aY B2.out HI.out (by decide) hk); replace HK := aa.mk (ax.trans HK.out hk (.inl rfl)); replace HI := aa.mk hI; replace HB := aa.mk hB; clear ho0 ho1 ho2 hI hB hk F1 LE; (go_upto_region 2 with (fail)); obtain ⟨W3, hW3⟩ : ∃ W3, W3 = ((w2.alloc (.cells #[.slice (some ⟨gh, 0, none⟩) hs.length c, .int .i64 wn, .int .i64 sc, .int .i64 tt, .slice (some ⟨gq, 0, none⟩) sq.length d] 25)).alloc (.cells #[.int .i64 cut, .string txt, .slice V vis.length e] 32)) := ⟨_, rfl⟩; (have hb : Below w2.heap.size w2 W3 := by rw [hW3]; exact ah (ah (Below.refl _ _) _) _); have BL := aa.mk (show W3.heap[w2.heap.size]? = some (.cells #[.slice (some ⟨gh, 0, none⟩) hs.length c, .int .i64 wn, .int .i64 sc, .int .i64 tt, .slice (some ⟨gq, 0, none⟩) sq.length d] 25 (0, 0)) by rw [hW3]; exact bu (heap_alloc_new w2 _) _); have GL := aa.mk (show w.heap.size ≤ w2.heap.size from dh HK.out); have N2L := aa.mk (show w.heap.size ≠ w2.heap.size from Nat.ne_of_lt (bf B2.out)); rw [← hW3]; clear hW3; replace SH := aa.mk (Kd.eB SH.out hb); replace SQ := aa.mk (Kd.eB SQ.out hb); replace B2 := aa.mk (ak B2.out hb); replace HI := aa.mk (aI.below HI.out hb); replace HB := aa.mk (az HB.out hb); replace HK := aa.mk (ax.trans HK.out (ax.of_below hb g none) (.inl rfl)); clear hb; obtain ⟨gl, hgl⟩ : ∃ gl, gl = w2.heap.size := ⟨_, rfl⟩; rw [← hgl] at BL GL N2L ⊢; clear hgl; go_wp2
 go_loopw [5, 6, 7] (fun v5 v6 v7 wr => ∃ j : Nat, j ≤ hs.length ∧ v5 = .int .i64 j ∧ aa (Kd.S k66 66 wr w.heap.size (fun _ => True) (.slice (some ⟨gh, 0, none⟩) hs.length c) (upTo kL hs j)) ∧ aa (Kd.S (Kd.slice 27 k27) 39 wr w.heap.size (fun _ => True) (.slice (some ⟨gq, 0, none⟩) sq.length d) (sq)) ∧ aa (wr.heap[w.heap.size]? = some (.cells #[.slice none 0 0, .int .i64 0, .int .i64 0, .int .i64 0, .slice none 0 0] 25 (0, 0))) ∧ aa (wr.heap[gl]? = some (.cells #[.slice (some ⟨gh, 0, none⟩) hs.length c, .int .i64 wn, .int .i64 sc, .int .i64 tt, .slice (some ⟨gq, 0, none⟩) sq.length d] 25 (0, 0))) ∧ aa (aI w0 wr g y0 y1) ∧ aa (ax w wr g none) ∧ aa (Below w0.heap.size w0 wr)) (fun v5 _ _ _ => hs.length - (intOf v5).toNat)
 case atStart => exact ⟨0, by omega, rfl, by rw [qL]; exact SH, SQ, B2, BL, HI, HK, HB⟩
 case round =>
  clear SH SQ B2 BL HI HK HB; obtain ⟨j, hj, rfl, SH, SQ, B2, BL, HI, HK, HB⟩ := hrel; obtain ⟨p0, p1, p2, p3, p4, q0, q1, q2, q3, q4⟩ := cells5 BL.out; by_cases hjl : j < hs.length
  ·have hj1 : decide ((j : Int) < (hs.length : Int)) = true := decide_eq_true (by omega); (have hjlt : (j : Int) < (hs.length : Int) := by omega); (have hjw : wrap64 ((j : Int) + 1) = ((j + 1 : Nat) : Int) := by have := HL.out; rw [bJ (by omega) (by omega)]; omega); obtain ⟨hd, hhd⟩ : ∃ x, x = hs[j] := ⟨_, rfl⟩; have HD := aa.mk hhd; have HDL := aa.mk (show (hd.f1).length ≤ 100 by rw [hhd]; exact HL2.out _ (List.getElem_mem hjl)); clear hhd; go_wp2_with (fail)
   go_loopw [6, 7] (fun v6 v7 wr => ∃ m : Nat, m ≤ (hd.f1).length ∧ v6 = .int .i64 m ∧ aa (Kd.S k66 66 wr w.heap.size (fun _ => True) (.slice (some ⟨gh, 0, none⟩) hs.length c) ((upTo kL hs j).set j ⟨hd.f0, upTo nI hd.f1 m⟩)) ∧ aa (Kd.S (Kd.slice 27 k27) 39 wr w.heap.size (fun _ => True) (.slice (some ⟨gq, 0, none⟩) sq.length d) (sq)) ∧ aa (wr.heap[w.heap.size]? = some (.cells #[.slice none 0 0, .int .i64 0, .int .i64 0, .int .i64 0, .slice none 0 0] 25 (0, 0))) ∧ aa (wr.heap[gl]? = some (.cells #[.slice (some ⟨gh, 0, none⟩) hs.length c, .int .i64 wn, .int .i64 sc, .int .i64 tt, .slice (some ⟨gq, 0, none⟩) sq.length d] 25 (0, 0))) ∧ aa (aI w0 wr g y0 y1) ∧ aa (ax w wr g none) ∧ aa (Below w0.heap.size w0 wr)) (fun v6 _ _ => (hd.f1).length - (intOf v6).toNat)
   case atStart => exact ⟨0, by omega, rfl, by rw [qL]; rw [show (⟨hd.f0, hd.f1⟩ : S66) = hs[j] from HD.out, yS _ _ _ hjl]; exact SH, SQ, B2, BL, HI, HK, HB⟩
   case round =>
    clear SH SQ B2 BL HI HK HB p0 p1 p2 p3 p4 q0 q1 q2 q3 q4; obtain ⟨m, hm, rfl, SH, SQ, B2, BL, HI, HK, HB⟩ := hrel; obtain ⟨p0, p1, p2, p3, p4, q0, q1, q2, q3, q4⟩ := cells5 BL.out; have hat : ((upTo kL hs j).set j (⟨hd.f0, upTo nI hd.f1 m⟩ : S66))[j]? = some (⟨hd.f0, upTo nI hd.f1 m⟩ : S66) := List.getElem?_set_self (by rw [kw _ _ _ (by omega)]; exact hjl); have hlen : ((⟨hd.f0, upTo nI hd.f1 m⟩ : S66).f1).length = (hd.f1).length := kw nI (hd.f1) m hm; by_cases hml : m < (hd.f1).length
    ·have hm1 : decide ((m : Int) < ((hd.f1).length : Int)) = true := decide_eq_true (by omega); (have hmlt : (m : Int) < ((hd.f1).length : Int) := by omega); (have hmw : wrap64 ((m : Int) + 1) = ((m + 1 : Nat) : Int) := by have := HDL.out; rw [bJ (by omega) (by omega)]; omega); obtain ⟨sm, hsm⟩ : ∃ x, x = hd.f1[m] := ⟨_, rfl⟩; (have hat2 : ((⟨hd.f0, upTo nI hd.f1 m⟩ : S66).f1)[m]? = some sm := by rw [hsm]; exact tF? nI (hd.f1) m hml); obtain ⟨gs, cs, c1, c2, c3, hge, ⟨cells, hty⟩, hS⟩ := AU SH.out j m _ _ hat hat2; rw [hlen] at c1; have HS := aa.mk hS; have HTY := aa.mk hty; have HGE := aa.mk hge; have HSM := aa.mk hsm; clear hS hty hge hat hat2 hsm; (go_upto_region 7 with (fail)); obtain ⟨W5, hW_⟩ : ∃ x, x = wr.setCell ⟨gs, m * 2 + 1, none⟩ (.int .i64 (mx 1 (Go.bits .and .i64 sm.f1 15))) := ⟨_, rfl⟩; rw [show (if 1 < Go.bits .and .i64 sm.f1 15 then Go.bits .and .i64 sm.f1 15 else 1) = mx 1 (Go.bits .and .i64 sm.f1 15) from rfl, ← hW_]; replace SH := aa.mk (HS.out (mx 1 (Go.bits .and .i64 sm.f1 15))); rw [List.set_set, show (⟨sm.f0, mx 1 (Go.bits .and .i64 sm.f1 15)⟩ : S86) = nI hd.f1[m] by rw [HSM.out]; rfl, sw nI hd.f1 m hml] at SH; replace SQ := aa.mk (Kd.fu SQ.out HTY.out (by decide) (m * 2 + 1) (.int .i64 (mx 1 (Go.bits .and .i64 sm.f1 15)))); replace B2 := aa.mk (aM (p := ⟨gs, m * 2 + 1, none⟩) B2.out (jK B2.out HTY.out (by decide)) (.int .i64 (mx 1 (Go.bits .and .i64 sm.f1 15)))); replace BL := aa.mk (aM (p := ⟨gs, m * 2 + 1, none⟩) BL.out (jK BL.out HTY.out (by decide)) (.int .i64 (mx 1 (Go.bits .and .i64 sm.f1 15)))); replace HI := aa.mk (aI.far (p := ⟨gs, m * 2 + 1, none⟩) HI.out (by have := HG.out; have := HGE.out; show g ≠ gs; omega) (.int .i64 (mx 1 (Go.bits .and .i64 sm.f1 15)))); replace HK := aa.mk (dQ (p := ⟨gs, m * 2 + 1, none⟩) HK.out HGE.out (.int .i64 (mx 1 (Go.bits .and .i64 sm.f1 15)))); replace HB := aa.mk (HB.out.setCell (p := ⟨gs, m * 2 + 1, none⟩) (Nat.le_trans HW.out HGE.out) (.int .i64 (mx 1 (Go.bits .and .i64 sm.f1 15)))); replace HTY := aa.mk (bD HTY.out (m * 2 + 1) (.int .i64 (mx 1 (Go.bits .and .i64 sm.f1 15))) rfl); rw [← hW_] at SH SQ B2 BL HI HK HB; clear hW_ HTY HS HSM HGE p0 p1 p2 p3 p4 q0 q1 q2 q3 q4; go_wp2
     go_roundw
     (case rel => exact ⟨m + 1, hml, by rw [hmw], SH, SQ, B2, BL, HI, HK, HB⟩); case measure => rw [hmw]; exact Nat.sub_lt_sub_left hml (Nat.lt_succ_self m)
    ·(obtain rfl : m = (hd.f1).length := by omega); (have hm1 : decide (((hd.f1).length : Int) < ((hd.f1).length : Int)) = false := by simp); obtain ⟨As, cs, c1⟩ := Cy SH.out j _ hat; rw [hlen] at c1; rw [tH, show (⟨hd.f0, hd.f1.map nI⟩ : S66) = kL hd from rfl, HD.out, sw kL hs j hjl] at SH; go_wp2
     go_roundw
     (case rel => exact ⟨j + 1, hjl, by rw [hjw], SH, SQ, B2, BL, HI, HK, HB⟩); case measure => rw [hjw]; exact Nat.sub_lt_sub_left hjl (Nat.lt_succ_self j)
  ·(obtain rfl : j = hs.length := by omega); (have hj1 : decide ((hs.length : Int) < (hs.length : Int)) = false := by simp); rw [tH] at SH; go_wp2; clear p0 p1 p2 p3 p4 q0 q1 q2 q3 q4
   go_loopw [8, 9, 10] (fun v5 v6 v7 wr => ∃ j : Nat, j ≤ sq.length ∧ v5 = .int .i64 j ∧ aa (Kd.S k66 66 wr w.heap.size (fun _ => True) (.slice (some ⟨gh, 0, none⟩) hs.length c) (hs.map kL)) ∧ aa (Kd.S (Kd.slice 27 k27) 39 wr w.heap.size (fun _ => True) (.slice (some ⟨gq, 0, none⟩) sq.length d) (upTo (List.map iY) sq j)) ∧ aa (wr.heap[w.heap.size]? = some (.cells #[.slice none 0 0, .int .i64 0, .int .i64 0, .int .i64 0, .slice none 0 0] 25 (0, 0))) ∧ aa (wr.heap[gl]? = some (.cells #[.slice (some ⟨gh, 0, none⟩) hs.length c, .int .i64 wn, .int .i64 sc, .int .i64 tt, .slice (some ⟨gq, 0, none⟩) sq.length d] 25 (0, 0))) ∧ aa (aI w0 wr g y0 y1) ∧ aa (ax w wr g none) ∧ aa (Below w0.heap.size w0 wr)) (fun v5 _ _ _ => sq.length - (intOf v5).toNat)
   case atStart => exact ⟨0, by omega, rfl, SH, by rw [qL]; exact SQ, B2, BL, HI, HK, HB⟩
   case round =>
    clear SH SQ B2 BL HI HK HB; obtain ⟨j, hj, rfl, SH, SQ, B2, BL, HI, HK, HB⟩ := hrel; obtain ⟨p0, p1, p2, p3, p4, q0, q1, q2, q3, q4⟩ := cells5 BL.out; by_cases hjl : j < sq.length
    ·have hj1 : decide ((j : Int) < (sq.length : Int)) = true := decide_eq_true (by omega); (have hjlt : (j : Int) < (sq.length : Int) := by omega); (have hjw : wrap64 ((j : Int) + 1) = ((j + 1 : Nat) : Int) := by have := HQ.out; rw [bJ (by omega) (by omega)]; omega); obtain ⟨hd, hhd⟩ : ∃ x, x = sq[j] := ⟨_, rfl⟩; have HD := aa.mk hhd; have HDL := aa.mk (show (hd).length ≤ 100 by rw [hhd]; exact HQ2.out _ (List.getElem_mem hjl)); clear hhd; go_wp2_with (fail)
     go_loopw [9, 10] (fun v6 v7 wr => ∃ m : Nat, m ≤ (hd).length ∧ v6 = .int .i64 m ∧ aa (Kd.S k66 66 wr w.heap.size (fun _ => True) (.slice (some ⟨gh, 0, none⟩) hs.length c) (hs.map kL)) ∧ aa (Kd.S (Kd.slice 27 k27) 39 wr w.heap.size (fun _ => True) (.slice (some ⟨gq, 0, none⟩) sq.length d) ((upTo (List.map iY) sq j).set j (upTo iY hd m))) ∧ aa (wr.heap[w.heap.size]? = some (.cells #[.slice none 0 0, .int .i64 0, .int .i64 0, .int .i64 0, .slice none 0 0] 25 (0, 0))) ∧ aa (wr.heap[gl]? = some (.cells #[.slice (some ⟨gh, 0, none⟩) hs.length c, .int .i64 wn, .int .i64 sc, .int .i64 tt, .slice (some ⟨gq, 0, none⟩) sq.length d] 25 (0, 0))) ∧ aa (aI w0 wr g y0 y1) ∧ aa (ax w wr g none) ∧ aa (Below w0.heap.size w0 wr)) (fun v6 _ _ => (hd).length - (intOf v6).toNat)
     case atStart => exact ⟨0, by omega, rfl, SH, by rw [qL, HD.out, yS _ _ _ hjl]; exact SQ, B2, BL, HI, HK, HB⟩
     case round =>
      clear SH SQ B2 BL HI HK HB p0 p1 p2 p3 p4 q0 q1 q2 q3 q4; obtain ⟨m, hm, rfl, SH, SQ, B2, BL, HI, HK, HB⟩ := hrel; obtain ⟨p0, p1, p2, p3, p4, q0, q1, q2, q3, q4⟩ := cells5 BL.out; have hat : ((upTo (List.map iY) sq j).set j (upTo iY hd m))[j]? = some (upTo iY hd m) := List.getElem?_set_self (by rw [kw _ _ _ (by omega)]; exact hjl); have hlen : ((upTo iY hd m)).length = (hd).length := kw iY (hd) m hm; by_cases hml : m < (hd).length
      ·have hm1 : decide ((m : Int) < ((hd).length : Int)) = true := decide_eq_true (by omega); (have hmlt : (m : Int) < ((hd).length : Int) := by omega); (have hmw : wrap64 ((m : Int) + 1) = ((m + 1 : Nat) : Int) := by have := HDL.out; rw [bJ (by omega) (by omega)]; omega); obtain ⟨sm, hsm⟩ : ∃ x, x = hd[m] := ⟨_, rfl⟩; (have hat2 : ((upTo iY hd m))[m]? = some sm := by rw [hsm]; exact tF? iY (hd) m hml); obtain ⟨gs, cs, c1, c2, c2', c3, c3', hge, ⟨cells, hty⟩, hS⟩ := uW SQ.out j m _ _ hat hat2; rw [hlen] at c1; clear hS hge hty c2 c2' c3 c3'; (go_upto_region 17 with (fail)); replace SH := aa.mk (Kd.mJ SH.out); replace SQ := aa.mk (Kd.mJ SQ.out); replace B2 := aa.mk (bH B2.out); replace BL := aa.mk (bH BL.out); replace HI := aa.mk (aI.drew HI.out); replace HK := aa.mk (lq HK.out); replace HB := aa.mk (bQ HB.out); have c1d : wr.drew.cell? ⟨gq, j, none⟩ = some (.slice (some ⟨gs, 0, none⟩) (hd.length) cs) := c1; obtain ⟨d2, d2', d3, d3', hge, ⟨cells, hty⟩, hS⟩ := xm SQ.out j m _ _ hat hat2 c1d; have HS := aa.mk hS; have HTY := aa.mk hty; have HGE := aa.mk hge; have HSM := aa.mk hsm; clear hS hty hge hat hat2 hsm c1d c1; refine mP (n := 18) (S := fun w' => w'.cell? ⟨gs, m * 2, none⟩ = some (.int .i64 sm.f0) ∧ w'.cell? ⟨gs, m * 2 + 1, none⟩ = some (.int .i64 sm.f1)) (ds := [14, 17]) (ba 18 0) (by kernel_rfl) rfl rfl ⟨d2, d2'⟩ (fun bI => ?_); refine iT lD.Qv lD.N7 (fun HT_ HW_ => ?_); obtain ⟨wd, hwd⟩ : ∃ x, x = wr.drew := ⟨_, rfl⟩; rw [← hwd] at SH SQ B2 BL HI HK HB HS HTY bI d2 d2' d3 d3' ⊢; clear hwd; refine cz 0 75 (ba 18 1) HT_.out ?_; refine cz 1 76 (ba 18 3) HT_.out ?_; refine cz 2 77 (ba 18 7) HT_.out ?_; refine cz 3 78 (ba 18 15) HT_.out ?_; refine cz 4 79 (ba 18 31) HT_.out ?_; refine mI 5 80 (ba 18 63) HT_.out HW_.out bI ?_; refine cz 6 81 (ba 18 127) HT_.out ?_; refine cz 7 82 (ba 18 255) HT_.out ?_; refine cz 8 83 (ba 18 511) HT_.out ?_; refine cz 9 84 (ba 18 1023) HT_.out ?_; refine mI 10 85 (ba 18 2047) HT_.out HW_.out bI ?_; refine cz 11 86 (ba 18 4095) HT_.out ?_; refine cz 12 87 (ba 18 8191) HT_.out ?_; refine cz 13 88 (ba 18 16383) HT_.out ?_; refine yz 14 none (ba 18 32767) HT_.out (fun K hK => ?_); refine qo (w1 := wd.setCell ⟨gs, m * 2, none⟩ (.int .i64 (Go.bits .and .i64 sm.f0 15))) (by rfl) rfl ?_ ?_
       ·first | (go_simp; done) | (go_simp; rfl)
       refine hK.out _ _ ?_; clear hK K bI; refine cz 15 89 (ba 18 65535) HT_.out ?_; refine cz 16 90 (ba 18 131071) HT_.out ?_; refine yz 17 none (ba 18 262143) HT_.out (fun K hK => ?_); refine qo (w1 := (wd.setCell ⟨gs, m * 2, none⟩ (.int .i64 (Go.bits .and .i64 sm.f0 15))).setCell ⟨gs, m * 2 + 1, none⟩ (.int .i64 (Go.bits .and .i64 sm.f1 15))) (by rfl) rfl ?_ ?_
       ·first | (go_simp; done) | (go_simp; rfl)
       refine hK.out _ _ ?_; clear hK K; refine xn HT_.out ?_; obtain ⟨W5, hW_⟩ : ∃ x, x = (wd.setCell ⟨gs, m * 2, none⟩ (.int .i64 (Go.bits .and .i64 sm.f0 15))).setCell ⟨gs, m * 2 + 1, none⟩ (.int .i64 (Go.bits .and .i64 sm.f1 15)) := ⟨_, rfl⟩; rw [← hW_]; clear d2 d2' d3 d3'; replace SQ := aa.mk (HS.out (Go.bits .and .i64 sm.f0 15) (Go.bits .and .i64 sm.f1 15)); rw [List.set_set, show (⟨Go.bits .and .i64 sm.f0 15, Go.bits .and .i64 sm.f1 15⟩ : S27) = iY hd[m] by rw [HSM.out]; rfl, sw iY hd m hml] at SQ; replace SH := aa.mk (Kd.fu SH.out HTY.out (by decide) (m * 2) (.int .i64 (Go.bits .and .i64 sm.f0 15))); replace B2 := aa.mk (aM (p := ⟨gs, m * 2, none⟩) B2.out (jK B2.out HTY.out (by decide)) (.int .i64 (Go.bits .and .i64 sm.f0 15))); replace BL := aa.mk (aM (p := ⟨gs, m * 2, none⟩) BL.out (jK BL.out HTY.out (by decide)) (.int .i64 (Go.bits .and .i64 sm.f0 15))); replace HI := aa.mk (aI.far (p := ⟨gs, m * 2, none⟩) HI.out (by have := HG.out; have := HGE.out; show g ≠ gs; omega) (.int .i64 (Go.bits .and .i64 sm.f0 15))); replace HK := aa.mk (dQ (p := ⟨gs, m * 2, none⟩) HK.out HGE.out (.int .i64 (Go.bits .and .i64 sm.f0 15))); replace HB := aa.mk (HB.out.setCell (p := ⟨gs, m * 2, none⟩) (Nat.le_trans HW.out HGE.out) (.int .i64 (Go.bits .and .i64 sm.f0 15))); replace HTY := aa.mk (bD HTY.out (m * 2) (.int .i64 (Go.bits .and .i64 sm.f0 15)) rfl); replace SH := aa.mk (Kd.fu SH.out HTY.out (by decide) (m * 2 + 1) (.int .i64 (Go.bits .and .i64 sm.f1 15))); replace B2 := aa.mk (aM (p := ⟨gs, m * 2 + 1, none⟩) B2.out (jK B2.out HTY.out (by decide)) (.int .i64 (Go.bits .and .i64 sm.f1 15))); replace BL := aa.mk (aM (p := ⟨gs, m * 2 + 1, none⟩) BL.out (jK BL.out HTY.out (by decide)) (.int .i64 (Go.bits .and .i64 sm.f1 15))); replace HI := aa.mk (aI.far (p := ⟨gs, m * 2 + 1, none⟩) HI.out (by have := HG.out; have := HGE.out; show g ≠ gs; omega) (.int .i64 (Go.bits .and .i64 sm.f1 15))); replace HK := aa.mk (dQ (p := ⟨gs, m * 2 + 1, none⟩) HK.out HGE.out (.int .i64 (Go.bits .and .i64 sm.f1 15))); replace HB := aa.mk (HB.out.setCell (p := ⟨gs, m * 2 + 1, none⟩) (Nat.le_trans HW.out HGE.out) (.int .i64 (Go.bits .and .i64 sm.f1 15))); replace HTY := aa.mk (bD HTY.out (m * 2 + 1) (.int .i64 (Go.bits .and .i64 sm.f1 15)) rfl); rw [← hW_] at SH SQ B2 BL HI HK HB; clear hW_ HTY HS HSM HGE p0 p1 p2 p3 p4 q0 q1 q2 q3 q4; go_wp2
       go_roundw
       (case rel => exact ⟨m + 1, hml, by rw [hmw], SH, SQ, B2, BL, HI, HK, HB⟩); case measure => rw [hmw]; exact Nat.sub_lt_sub_left hml (Nat.lt_succ_self m)
      ·(obtain rfl : m = (hd).length := by omega); (have hm1 : decide (((hd).length : Int) < ((hd).length : Int)) = false := by simp); obtain ⟨As, cs, c1⟩ := Dr SQ.out j _ hat; rw [hlen] at c1; rw [tH, HD.out, sw (List.map iY) sq j hjl] at SQ; go_wp2
       go_roundw
       (case rel => exact ⟨j + 1, hjl, by rw [hjw], SH, SQ, B2, BL, HI, HK, HB⟩); case measure => rw [hjw]; exact Nat.sub_lt_sub_left hjl (Nat.lt_succ_self j)
    ·(obtain rfl : j = sq.length := by omega); (have hj1 : decide ((sq.length : Int) < (sq.length : Int)) = false := by simp); rw [tH] at SQ; (go_upto_region 18 with (fail)); clear p0 p1 p2 p3 p4 q0 q1 q2 q3 q4; replace SH := aa.mk (Kd.mJ SH.out); replace SQ := aa.mk (Kd.mJ SQ.out); replace B2 := aa.mk (bH B2.out); replace BL := aa.mk (bH BL.out); replace HI := aa.mk (aI.drew HI.out); replace HK := aa.mk (lq HK.out); replace HB := aa.mk (bQ HB.out); obtain ⟨p0, p1, p2, p3, p4, q0, q1, q2, q3, q4⟩ := cells5 BL.out; refine mP (n := 9) (S := fun w' => w'.cell? ⟨gl, 0, none⟩ = some (.slice (some ⟨gh, 0, none⟩) hs.length c) ∧ w'.cell? ⟨gl, 1, none⟩ = some (.int .i64 wn) ∧ w'.cell? ⟨gl, 2, none⟩ = some (.int .i64 sc) ∧ w'.cell? ⟨gl, 3, none⟩ = some (.int .i64 tt) ∧ w'.cell? ⟨gl, 4, none⟩ = some (.slice (some ⟨gq, 0, none⟩) sq.length d)) (ds := [8]) (ba 9 0) (by kernel_rfl) rfl rfl ⟨p0, p1, p2, p3, p4⟩ (fun bI => ?_); refine iT lD.QD lD.Od (fun HT_ HW_ => ?_); clear p0 p1 p2 p3 p4 q0 q1 q2 q3 q4; obtain ⟨wd, hwd⟩ : ∃ x, x = wr.drew := ⟨_, rfl⟩; rw [← hwd] at SH SQ B2 BL HI HK HB bI ⊢; clear hwd; refine cz 0 91 (ba 9 1) HT_.out ?_; refine cz 1 92 (ba 9 3) HT_.out ?_; refine cz 3 94 (ba 9 11) HT_.out ?_; refine mI 2 93 (ba 9 15) HT_.out HW_.out bI ?_; refine on_ 4 (some 95) (ba 9 31) HT_.out (fun K hK => ?_); refine vD Try.func33 (by kernel_rfl) rfl #[.pointer (some ⟨g, 0, none⟩), .int .i64 4] (by rfl) rfl rfl (by (simp only [List.map_toArray, List.map_cons, List.map_nil]); rfl) ?_; refine (aJ.calls g y0 y1 4 u ya yb w0 _ HI.out HB.out F2.out).mono ?_; rintro e w8 ⟨rfl, hI, hB, hk⟩; refine ⟨_, rfl, ?_⟩; replace SH := aa.mk (jo SH.out HI.out (by decide) hk); replace SQ := aa.mk (jo SQ.out HI.out (by decide) hk); replace B2 := aa.mk (aY B2.out HI.out (by decide) hk); replace BL := aa.mk (aY BL.out HI.out (by decide) hk); replace HK := aa.mk (ax.trans HK.out hk (.inl rfl)); replace HI := aa.mk hI; replace HB := aa.mk hB; clear hI hB hk; obtain ⟨p0, p1, p2, p3, p4, q0, q1, q2, q3, q4⟩ := cells5 BL.out; refine hK.out _ _ ⟨p0, p1, p2, p3, p4⟩ (fun bI => ?_); clear hK K p0 p1 p2 p3 p4 q0 q1 q2 q3 q4; refine jY ?_; refine on_ 5 (some 96) (ba 9 63) HT_.out (fun K hK => ?_); refine Kd.jZ (Kd.int .i64) _ 3 ?hg (N := 96) ?hd (xs := ([tt, u] : List Int)) (inner := [.int .i64 tt, .int .i64 u]) (ok := fun _ => True) (okp := fun _ => True) ?hr ?hp (fun _ hk => hk) trivial (Below.refl _ _) (Nat.le_refl _) (by simp) ?_; (case hd => rfl); (case hg => rfl); (case hr => go_simp; done); (case hp => exact ⟨rfl, fun j p hj => by rcases j with _ | _ | j <;> simp at hj <;> subst hj <;> rfl⟩); intro vb wb ho hb _ hnew; have RB := aa.mk ho; (have HNG : ∀ k_, vb.ownBlock = some k_ → k_ ≠ g := fun k_ e => Nat.ne_of_gt (Nat.lt_of_lt_of_le HI.out.lt (Kd.eO ho k_ e))); clear ho hnew; replace SH := aa.mk (Kd.eB SH.out hb); replace SQ := aa.mk (Kd.eB SQ.out hb); replace B2 := aa.mk (ak B2.out hb); replace BL := aa.mk (ak BL.out hb); replace HI := aa.mk (aI.below HI.out hb); replace HB := aa.mk (az HB.out hb); replace HK := aa.mk (ax.trans HK.out (ax.of_below hb g none) (.inl rfl)); clear hb; obtain ⟨Ax, cx, rfl⟩ := Kd.dB RB.out; obtain ⟨p0, p1, p2, p3, p4, q0, q1, q2, q3, q4⟩ := cells5 BL.out; refine hK.out _ _ ⟨p0, p1, p2, p3, p4⟩ (fun bI => ?_); clear hK K p0 p1 p2 p3 p4 q0 q1 q2 q3 q4; refine jY ?_; have RC := Kd.bF RB.out; (have HNG2 : ∀ ad, Ax = some ad → 0 < ([tt, u] : List Int).length → ad.block ≠ g := fun ad e _ => by subst e; obtain ⟨g2, rfl⟩ := Kd.Dz RB.out; exact HNG g2 (by simp [Value.ownBlock])); refine on_ 6 (some 97) (ba 9 127) HT_.out (fun K hK => ?_); refine vD Try.func52 (by kernel_rfl) rfl #[.pointer (some ⟨g, 0, none⟩), .slice Ax ([tt, u] : List Int).length cx] (by rfl) rfl rfl (by (simp only [List.map_toArray, List.map_cons, List.map_nil]); rfl) ?_; refine (cK.calls g ya yb Ax cx [tt, u] t2 za zb w0 _ HI.out HB.out RC.2.2 RC.2.1 HNG2 F3.out).mono ?_; rintro e w9 ⟨rfl, hI, hB, hk⟩; refine ⟨_, rfl, ?_⟩; replace SH := aa.mk (jo SH.out HI.out (by decide) hk); replace SQ := aa.mk (jo SQ.out HI.out (by decide) hk); replace B2 := aa.mk (aY B2.out HI.out (by decide) hk); replace BL := aa.mk (aY BL.out HI.out (by decide) hk); replace HK := aa.mk (ax.trans HK.out hk (.inl rfl)); replace HI := aa.mk hI; replace HB := aa.mk hB; clear hI hB hk; obtain ⟨p0, p1, p2, p3, p4, q0, q1, q2, q3, q4⟩ := cells5 BL.out; refine hK.out _ _ ⟨p0, p1, p2, p3, p4⟩ (fun bI => ?_); clear hK K p0 p1 p2 p3 p4 q0 q1 q2 q3 q4; refine jY ?_; clear RB RC HNG HNG2; refine cz 7 98 (ba 9 255) HT_.out ?_; refine yz 8 none (ba 9 511) HT_.out (fun K hK => ?_); obtain ⟨p0, p1, p2, p3, p4, q0, q1, q2, q3, q4⟩ := cells5 BL.out; refine qo (w1 := w9.setCell ⟨gl, 3, none⟩ (.int .i64 t2)) (by rfl) rfl ?_ ?_
     ·first | (go_simp; done) | (go_simp; rfl)
     refine hK.out _ _ ?_; clear hK K p0 p1 p2 p3 p4 q0 q1 q2 q3 q4; refine xn HT_.out ?_; clear bI; obtain ⟨WA, hW_⟩ : ∃ x, x = w9.setCell ⟨gl, 3, none⟩ (.int .i64 t2) := ⟨_, rfl⟩; rw [← hW_]; replace SH := aa.mk (Kd.fu SH.out BL.out (by decide) 3 (.int .i64 t2)); replace SQ := aa.mk (Kd.fu SQ.out BL.out (by decide) 3 (.int .i64 t2)); replace B2 := aa.mk (aM (p := ⟨gl, 3, none⟩) B2.out (N2L.out) (.int .i64 t2)); replace HI := aa.mk (aI.far (p := ⟨gl, 3, none⟩) HI.out (by have := HG.out; have := GL.out; show g ≠ gl; omega) (.int .i64 t2)); replace HK := aa.mk (dQ (p := ⟨gl, 3, none⟩) HK.out (GL.out) (.int .i64 t2)); replace HB := aa.mk (HB.out.setCell (p := ⟨gl, 3, none⟩) (Nat.le_trans HW.out (GL.out)) (.int .i64 t2)); replace BL := aa.mk (bD BL.out 3 (.int .i64 t2) rfl); rw [← hW_] at SH SQ B2 BL HI HK HB; clear hW_; have GE2 := aa.mk (show w.heap.size ≤ w.heap.size from Nat.le_refl _); obtain ⟨p0, p1, p2, p3, p4, q0, q1, q2, q3, q4⟩ := cells5 BL.out; obtain ⟨s0, s1, s2, s3, s4, r0, r1, r2, r3, r4⟩ := cells5 B2.out; go_wp2; obtain ⟨WB, hW_⟩ : ∃ x, x = (((((WA).setCell ⟨w.heap.size, 0, none⟩ (.slice (some ⟨gh, 0, none⟩) hs.length c)).setCell ⟨w.heap.size, 1, none⟩ (.int .i64 wn)).setCell ⟨w.heap.size, 2, none⟩ (.int .i64 sc)).setCell ⟨w.heap.size, 3, none⟩ (.int .i64 t2)).setCell ⟨w.heap.size, 4, none⟩ (.slice (some ⟨gq, 0, none⟩) sq.length d) := ⟨_, rfl⟩; rw [← hW_]; replace SH := aa.mk (Kd.fu SH.out B2.out (by decide) 0 (.slice (some ⟨gh, 0, none⟩) hs.length c)); replace SQ := aa.mk (Kd.fu SQ.out B2.out (by decide) 0 (.slice (some ⟨gh, 0, none⟩) hs.length c)); replace BL := aa.mk (aM (p := ⟨w.heap.size, 0, none⟩) BL.out (N2L.out.symm) (.slice (some ⟨gh, 0, none⟩) hs.length c)); replace HI := aa.mk (aI.far (p := ⟨w.heap.size, 0, none⟩) HI.out (by have := HG.out; have := GE2.out; show g ≠ w.heap.size; omega) (.slice (some ⟨gh, 0, none⟩) hs.length c)); replace HK := aa.mk (dQ (p := ⟨w.heap.size, 0, none⟩) HK.out (GE2.out) (.slice (some ⟨gh, 0, none⟩) hs.length c)); replace HB := aa.mk (HB.out.setCell (p := ⟨w.heap.size, 0, none⟩) (Nat.le_trans HW.out (GE2.out)) (.slice (some ⟨gh, 0, none⟩) hs.length c)); replace B2 := aa.mk (bD B2.out 0 (.slice (some ⟨gh, 0, none⟩) hs.length c) rfl); replace SH := aa.mk (Kd.fu SH.out B2.out (by decide) 1 (.int .i64 wn)); replace SQ := aa.mk (Kd.fu SQ.out B2.out (by decide) 1 (.int .i64 wn)); replace BL := aa.mk (aM (p := ⟨w.heap.size, 1, none⟩) BL.out (N2L.out.symm) (.int .i64 wn)); replace HI := aa.mk (aI.far (p := ⟨w.heap.size, 1, none⟩) HI.out (by have := HG.out; have := GE2.out; show g ≠ w.heap.size; omega) (.int .i64 wn)); replace HK := aa.mk (dQ (p := ⟨w.heap.size, 1, none⟩) HK.out (GE2.out) (.int .i64 wn)); replace HB := aa.mk (HB.out.setCell (p := ⟨w.heap.size, 1, none⟩) (Nat.le_trans HW.out (GE2.out)) (.int .i64 wn)); replace B2 := aa.mk (bD B2.out 1 (.int .i64 wn) rfl); replace SH := aa.mk (Kd.fu SH.out B2.out (by decide) 2 (.int .i64 sc)); replace SQ := aa.mk (Kd.fu SQ.out B2.out (by decide) 2 (.int .i64 sc)); replace BL := aa.mk (aM (p := ⟨w.heap.size, 2, none⟩) BL.out (N2L.out.symm) (.int .i64 sc)); replace HI := aa.mk (aI.far (p := ⟨w.heap.size, 2, none⟩) HI.out (by have := HG.out; have := GE2.out; show g ≠ w.heap.size; omega) (.int .i64 sc)); replace HK := aa.mk (dQ (p := ⟨w.heap.size, 2, none⟩) HK.out (GE2.out) (.int .i64 sc)); replace HB := aa.mk (HB.out.setCell (p := ⟨w.heap.size, 2, none⟩) (Nat.le_trans HW.out (GE2.out)) (.int .i64 sc)); replace B2 := aa.mk (bD B2.out 2 (.int .i64 sc) rfl); replace SH := aa.mk (Kd.fu SH.out B2.out (by decide) 3 (.int .i64 t2)); replace SQ := aa.mk (Kd.fu SQ.out B2.out (by decide) 3 (.int .i64 t2)); replace BL := aa.mk (aM (p := ⟨w.heap.size, 3, none⟩) BL.out (N2L.out.symm) (.int .i64 t2)); replace HI := aa.mk (aI.far (p := ⟨w.heap.size, 3, none⟩) HI.out (by have := HG.out; have := GE2.out; show g ≠ w.heap.size; omega) (.int .i64 t2)); replace HK := aa.mk (dQ (p := ⟨w.heap.size, 3, none⟩) HK.out (GE2.out) (.int .i64 t2)); replace HB := aa.mk (HB.out.setCell (p := ⟨w.heap.size, 3, none⟩) (Nat.le_trans HW.out (GE2.out)) (.int .i64 t2)); replace B2 := aa.mk (bD B2.out 3 (.int .i64 t2) rfl); replace SH := aa.mk (Kd.fu SH.out B2.out (by decide) 4 (.slice (some ⟨gq, 0, none⟩) sq.length d)); replace SQ := aa.mk (Kd.fu SQ.out B2.out (by decide) 4 (.slice (some ⟨gq, 0, none⟩) sq.length d)); replace BL := aa.mk (aM (p := ⟨w.heap.size, 4, none⟩) BL.out (N2L.out.symm) (.slice (some ⟨gq, 0, none⟩) sq.length d)); replace HI := aa.mk (aI.far (p := ⟨w.heap.size, 4, none⟩) HI.out (by have := HG.out; have := GE2.out; show g ≠ w.heap.size; omega) (.slice (some ⟨gq, 0, none⟩) sq.length d)); replace HK := aa.mk (dQ (p := ⟨w.heap.size, 4, none⟩) HK.out (GE2.out) (.slice (some ⟨gq, 0, none⟩) sq.length d)); replace HB := aa.mk (HB.out.setCell (p := ⟨w.heap.size, 4, none⟩) (Nat.le_trans HW.out (GE2.out)) (.slice (some ⟨gq, 0, none⟩) sq.length d)); replace B2 := aa.mk (bD B2.out 4 (.slice (some ⟨gq, 0, none⟩) sq.length d) rfl); rw [← hW_] at SH SQ B2 BL HI HK HB; clear hW_; refine bodyPost_ret (results_cell_row rfl _ _ w.heap.size 25 #[.slice (some ⟨gh, 0, none⟩) hs.length c, .int .i64 wn, .int .i64 sc, .int .i64 t2, .slice (some ⟨gq, 0, none⟩) sq.length d] (0, 0) _ rfl B2.out Try.underlying25 rfl (by kernel_rfl)) rfl ?_; exact ⟨_, _, _, _, by rfl, SH.out, SQ.out, HI.out, HB.out, HK.out⟩
end Go.Proofs.Ytihedeofkhapiaa.Pr
end
section
namespace Go.Proofs.Ytihedeofkhapiaa.Pr
open Go.RowKit Go.Proofs.YtihedeofkhapiaaW.PrintWords Go.Proofs.YtihedeofkhapiaaW.PrintLast Go.Proofs.YtihedeofkhapiaaW.PrintMore
theorem CX : ∀ z u : Fin 16, ai.f 11 (z.1 : Int) (u.1 : Int) = some ((lost z.1 u.1 : Int), (made z.1 u.1 : Int)) := by decide +kernel
theorem EW {z u : Nat} (hz : z < 16) (hu : u < 16) : Ev (fun k => ai.f k (z : Int) (u : Int)) ((lost z u : Int), (made z u : Int)) :=
 Ev.of (k := 11) (ai.mono _ _) (CX ⟨z, hz⟩ ⟨u, hu⟩)
theorem Kr : ∀ z u : Fin 16, lost z.1 u.1 ≤ 5 ∧ made z.1 u.1 ≤ 5 := by decide +kernel
theorem DC {W S : Int} {q : List S27} {z n : Nat} (h : FB q n ∧ (lost z n : Int) ≤ W ∧ (made z n : Int) ≤ S) : bestTo W S q z (n + 1) = mn (bestTo W S q z n) ((lost z n : Int) + (made z n : Int)) := by rw [bestTo, if_pos h]
theorem uy {W S : Int} {q : List S27} {z n : Nat} (h : ¬ (FB q n ∧ (lost z n : Int) ≤ W ∧ (made z n : Int) ≤ S)) : bestTo W S q z (n + 1) = bestTo W S q z n := by rw [bestTo, if_neg h]
theorem Mr {A B : Nat} (a : A ≤ 5) (b : B ≤ 5) : wrap64 ((A : Int) + (B : Int)) = (A : Int) + (B : Int) := bJ (by omega) (by omega)
theorem IY (q : List S27) (k : Nat) (hk : k < q.length) : dx q (k : Int) = q[k] := by
 rw [R6, List.getD_eq_getElem?_getD, List.getElem?_eq_getElem hk]; rfl
section
variable (hs : List S66) (W S t : Int) (sq : List (List S27)) (i : Nat) (hi : i < sq.length) (z : Nat) (hz : z < 16) (hl : (sq[i]).length ≤ 100)
include hi hz hl
theorem GQ (P : Int) (u : Nat) (hu : u < 16) (nx : Ev (fun k => af.l0 k (i : Int) (z : Int) (bestTo W S (sq[i]) z (u + 1)) ((u + 1 : Nat) : Int) hs W S t sq) P) :
 ∀ (d j : Nat) (b : Bool), j + d = (sq[i]).length → (b = true ↔ ∀ x ∈ (sq[i]).take j, Go.bits .and .i64 (u : Int) x.f0 = x.f1) →
  Ev (fun k => af.l1 k (i : Int) (z : Int) (bestTo W S (sq[i]) z u) (u : Int) b (j : Int) hs W S t sq) P := by
 (have e0 : (0 : Int) ≤ (i : Int) := by omega); (have e1 : (i : Int) < (sq.length : Int) := by omega); (have hwu : wrap64 ((u : Int) + 1) = ((u + 1 : Nat) : Int) := by rw [bJ (by omega) (by omega)]; omega); intro d
 induction d with
 | zero =>
  intro j b hj hb
  have hfit : b = true ↔ FB (sq[i]) u := by
   rw [hb, show j = (sq[i]).length by omega, List.take_length]; exact Iff.rfl
  obtain ⟨l1, l2⟩ := Kr ⟨z, hz⟩ ⟨u, hu⟩; replace l1 : lost z u ≤ 5 := l1; replace l2 : made z u ≤ 5 := l2; have hsum := Mr l1 l2; refine Ev.step (f := fun k => (ai.f k (z : Int) (u : Int)).bind fun bt => if b = true then (if bt.1 ≤ W then (if bt.2 ≤ S then (af.l0 k (i : Int) (z : Int) (mn (bestTo W S (sq[i]) z u) (wrap64 (bt.1 + bt.2))) ((u + 1 : Nat) : Int) hs W S t sq) else (af.l0 k (i : Int) (z : Int) (bestTo W S (sq[i]) z u) ((u + 1 : Nat) : Int) hs W S t sq)) else (af.l0 k (i : Int) (z : Int) (bestTo W S (sq[i]) z u) ((u + 1 : Nat) : Int) hs W S t sq)) else (af.l0 k (i : Int) (z : Int) (bestTo W S (sq[i]) z u) ((u + 1 : Nat) : Int) hs W S t sq)) (fun k => ?_) (Ev.bind (EW hz hu) ?_)
  ·rw [af.l1, if_pos e0, if_pos e1, qK sq i hi, if_neg (by omega), hwu]
  dsimp only; by_cases hb1 : b = true
  ·refine Ev.pos hb1 ?_; by_cases h1 : (lost z u : Int) ≤ W
   ·refine Ev.pos h1 ?_; by_cases h2 : (made z u : Int) ≤ S
    ·refine Ev.pos h2 ?_; rw [hsum, ← DC ⟨hfit.1 hb1, h1, h2⟩]; exact nx
    ·refine Ev.neg h2 ?_; rw [uy (fun h => h2 h.2.2)] at nx; exact nx
   ·refine Ev.neg h1 ?_; rw [uy (fun h => h1 h.2.1)] at nx; exact nx
  ·refine Ev.neg hb1 ?_; rw [uy (fun h => hb1 (hfit.2 h.1))] at nx; exact nx
 | succ d ih =>
  intro j b hj hb; (have hjl : j < (sq[i]).length := by omega); (have hwj : wrap64 ((j : Int) + 1) = ((j + 1 : Nat) : Int) := by rw [bJ (by omega) (by omega)]; omega); have ht : (sq[i]).take (j + 1) = (sq[i]).take j ++ [(sq[i])[j]] := by rw [List.take_succ_eq_append_getElem hjl]
  cases b with
  | true =>
   refine Ev.step (fun k => ?_) (ih (j + 1) (Go.bits .and .i64 (u : Int) ((sq[i])[j]).f0 == ((sq[i])[j]).f1) (by omega) ?_)
   ·rw [af.l1, if_pos e0, if_pos e1, qK sq i hi, if_pos (by omega), if_pos rfl, if_pos (by omega), IY _ j hjl, hwj]
   ·rw [ht, beq_iff_eq]; have := hb.1 rfl; constructor
    ·intro h x hx; rcases List.mem_append.1 hx with hx | hx
     ·exact this x hx
     ·rw [List.mem_singleton.1 hx]; exact h
    ·intro h; exact h _ (List.mem_append_right _ (List.mem_singleton.2 rfl))
  | false =>
   refine Ev.step (fun k => ?_) (ih (j + 1) false (by omega) ?_)
   ·rw [af.l1, if_pos e0, if_pos e1, qK sq i hi, if_pos (by omega), if_neg (by decide), hwj]
   ·rw [ht]; refine ⟨fun h => (by cases h), fun h => ?_⟩; exact absurd (hb.2 (fun x hx => h x (List.mem_append_left _ hx))) (by decide)
theorem Jf : ∀ (d u : Nat), u + d = 16 → Ev (fun k => af.l0 k (i : Int) (z : Int) (bestTo W S (sq[i]) z u) (u : Int) hs W S t sq) (bestTo W S (sq[i]) z 16) := by
 intro d
 induction d with
 | zero =>
  intro u hu; (obtain rfl : u = 16 := by omega); refine Ev.step (f := fun _ => some (bestTo W S (sq[i]) z 16)) (fun k => ?_) (Ev.now _); rw [af.l0, if_neg (by decide)]
 | succ d ih =>
  intro u hu; refine Ev.step (fun k => ?_) (GQ hs W S t sq i hi z hz hl _ u (by omega) (ih (u + 1) (by omega)) (sq[i]).length 0 true (by omega) (by simp)); rw [af.l0, if_pos (by omega)]; rfl
end
theorem xZ (hs : List S66) (W S t : Int) (sq : List (List S27)) (i : Nat) (hi : i < sq.length) (hq : Sm4 (sq[i])) (hl : (sq[i]).length ≤ 100) {s : S86} {z : Nat} (hz : z < 16) (hs' : s.f1 = (z : Int)) :
 Ev (fun k => af.f k hs W S t sq (i : Int) s.f1) (fQ W S (sq[i]) s) := by
 rw [← uX W S hq hz hs', hs']; exact Ev.congr (fun k => by rw [af.f]; rfl) (Jf hs W S t sq i hi z hz hl 16 0 (by omega))
theorem QQ (l : List Int) (n : Int) (hl : l.length ≤ 1000) (h : n ∉ l) : Ev (fun k => bz.f k l n) false := by
 have key : ∀ (d i : Nat), i + d = l.length → Ev (fun k => bz.l0 k l n (i : Int)) false := by
  intro d
  induction d with
  | zero =>
   intro i hi; refine Ev.step (f := fun _ => some false) (fun k => ?_) (Ev.now _); rw [bz.l0, if_neg (by omega)]
  | succ d ih =>
   intro i hi; (have hil : i < l.length := by omega); (have e : rd l (i : Int) = l[i] := by simp [rd, List.getD_eq_getElem?_getD, hil]); (have hw : wrap64 ((i : Int) + 1) = ((i + 1 : Nat) : Int) := by rw [bJ (by omega) (by omega)]; omega); (have he : ¬ l[i] = n := fun e => h (e ▸ List.getElem_mem hil)); refine Ev.step (fun k => ?_) (ih (i + 1) (by omega)); rw [bz.l0, if_pos (by omega), if_pos (by omega), e, if_neg he, hw]
 exact Ev.congr (fun k => by rw [bz.f]; rfl) (key l.length 0 (by omega))
theorem RP (l : List Int) (n : Int) (hl : l.length ≤ 1000) : ∃ k, bz.f k l n = some (decide (n ∈ l)) := by
 by_cases h : n ∈ l
 ·rw [decide_eq_true h]; exact (RS l n hl h).rounds
 ·rw [decide_eq_false h]; exact (QQ l n hl h).rounds
theorem oI (L : List Int) (j : Nat) (h : j < L.length) (hb : 0 ≤ L[j] ∧ L[j] < 256) : bt (strOfNums L) (j : Int) = L[j] := by
 (have hs : ((j : Int)).toNat < (strOfNums L).size := by rw [gZ]; omega); rw [bt, dif_pos hs]
 have e : (strOfNums L)[((j : Int)).toNat]'hs = UInt8.ofNat (L[j]).toNat := by
  simp [strOfNums, ByteArray.getElem_eq_getElem_data]
 rw [e, UInt8.toNat_ofNat']; omega
theorem zX (L : List Int) (c : Int) (hl : L.length ≤ 1000) (hb : ∀ x ∈ L, 0 ≤ x ∧ x < 256) : ∃ k, aD.f k (strOfNums L) c = some (decide (c ∈ L)) := by
 have key : ∀ (d i : Nat), i + d = L.length → Ev (fun k => aD.l0 k (strOfNums L) c (i : Int)) (decide (c ∈ L.drop i)) := by
  intro d
  induction d with
  | zero =>
   intro i hi; rw [List.drop_eq_nil_of_le (by omega)]; refine Ev.step (f := fun _ => some false) (fun k => ?_) (Ev.now _); rw [aD.l0, if_neg (by rw [gZ]; omega)]
  | succ d ih =>
   intro i hi; (have hil : i < L.length := by omega); have e := oI L i hil (hb _ (List.getElem_mem hil)); (have hw : wrap64 ((i : Int) + 1) = ((i + 1 : Nat) : Int) := by rw [bJ (by omega) (by omega)]; omega); rw [List.drop_eq_getElem_cons hil]; by_cases he : L[i] = c
   ·rw [decide_eq_true (by rw [he]; exact List.mem_cons_self)]; refine Ev.step (f := fun _ => some true) (fun k => ?_) (Ev.now _); rw [aD.l0, if_pos (by rw [gZ]; omega), if_pos (by omega), e, if_pos he]
   ·have e2 : decide (c ∈ L[i] :: L.drop (i + 1)) = decide (c ∈ L.drop (i + 1)) := decide_eq_decide.2 ⟨fun h => (List.mem_cons.1 h).resolve_left (fun q => he q.symm), List.mem_cons_of_mem _⟩; rw [e2]; refine Ev.step (fun k => ?_) (ih (i + 1) (by omega)); rw [aD.l0, if_pos (by rw [gZ]; omega), if_pos (by omega), e, if_neg he, hw]
 have := Ev.rounds (key L.length 0 (by omega)); obtain ⟨k, hk⟩ := this; exact ⟨k, by rw [aD.f]; simpa using hk⟩
theorem mr : ∀ (N : Nat) {l : List Int}, l.Nodup → (∀ x ∈ l, 0 ≤ x ∧ x < (N : Int)) → l.length ≤ N
 | 0, l, _, hb => by
  cases l with
  | nil => simp
  | cons x l => have := hb x List.mem_cons_self; omega
 | N + 1, l, h, hb => by
  by_cases hm : (N : Int) ∈ l
  ·have h1 := mr N (l := l.erase (N : Int)) (h.erase _) (fun x hx => by
    have h2 := (List.Nodup.mem_erase_iff h).1 hx; have := hb x h2.2
    omega)
   rw [List.length_erase_of_mem hm] at h1; omega
  ·have := mr N h (fun x hx => by
    have := hb x hx; have : x ≠ (N : Int) := fun e => hm (e ▸ hx)
    omega)
   omega
structure kX (n : Nat) (f : Fnd) : Prop where
 len : f.letters.length = n
 letters : ∀ l ∈ f.letters, l.Nodup ∧ ∀ c ∈ l, 0 ≤ c ∧ c < ((256 : Nat) : Int)
 hands : f.hands.Nodup
 range : ∀ h ∈ f.hands, 0 ≤ h ∧ h < ((100 : Nat) : Int)
theorem kX.short {n : Nat} {f : Fnd} (h : kX n f) : (∀ l ∈ f.letters, l.length ≤ 256) ∧ f.hands.length ≤ 100 := ⟨fun l hl => mr 256 (h.letters l hl).1 (h.letters l hl).2, mr 100 h.hands h.range⟩
theorem kX.leaf {n : Nat} {f : Fnd} (h : kX n f) (t : Int) {hd : Int} {x : List Int × Int} (hx : x.1.length = n) (hc : ∀ c ∈ x.1, 0 ≤ c ∧ c < 256) (h0 : 0 ≤ hd) (h1 : hd < 100) : kX n (kY t hd f x) := by
 unfold kY; split
 ·exact ⟨h.len, h.letters, h.hands, h.range⟩
 ·refine ⟨by simp [h.len, hx], fun l hl => ?_, qj h.hands, fun a ha => ?_⟩
  ·obtain ⟨i, hi, rfl⟩ := List.getElem_of_mem hl; rw [List.getElem_zipWith]; (have hi1 : i < f.letters.length := by simp at hi; omega); (have hi2 : i < x.1.length := by simp at hi; omega); have h2 := h.letters _ (List.getElem_mem hi1); refine ⟨qj h2.1, fun c hc' => ?_⟩; rcases qI.1 hc' with h3 | rfl
   ·exact h2.2 c h3
   ·exact hc _ (List.getElem_mem hi2)
  ·rcases qI.1 ha with h3 | rfl
   ·exact h.range a h3
   ·exact ⟨h0, h1⟩
theorem kX.jR {n : Nat} (t : Int) {hd : Int} (h0 : 0 ≤ hd) (h1 : hd < 100) : ∀ (X : List (List Int × Int)) {f : Fnd}, kX n f → (∀ x ∈ X, x.1.length = n ∧ ∀ c ∈ x.1, 0 ≤ c ∧ c < 256) → kX n (X.foldl (kY t hd) f)
 | [], f, h, _ => h
 | x :: X, f, h, hx => by
  rw [List.foldl_cons]; exact kX.jR t h0 h1 X (h.leaf t (hx x List.mem_cons_self).1 (hx x List.mem_cons_self).2 h0 h1) (fun y hy => hx y (List.mem_cons_of_mem _ hy))
theorem xw {W S : Int} {sh : List S86} (hsh : ∀ s ∈ sh, 0 ≤ s.f0 ∧ s.f0 < 256) : ∀ {sq : List (List S27)} {cs : List Int} {m : Int} {x : List Int × Int}, (∀ c ∈ cs, 0 ≤ c ∧ c < 256) → x ∈ jR W S sh sq cs m → x.1.length = cs.length + sq.length ∧ ∀ c ∈ x.1, 0 ≤ c ∧ c < 256 := by
 intro sq cs m x hc hx; obtain ⟨ss, hp, rfl⟩ := (jN W S sh sq cs m x).1 hx; refine ⟨by simp [hp.length], fun c h => ?_⟩; rcases List.mem_append.1 h with h | h
 ·exact hc c h
 ·obtain ⟨s, hs, rfl⟩ := List.mem_map.1 h
  have mem : ∀ (sq : List (List S27)) (ss : List S86), ql W S sh sq ss → ∀ s ∈ ss, s ∈ sh := by
   intro sq
   induction sq with
   | nil => intro ss hp s hs; cases ss with
    | nil => cases hs
    | cons a ss => exact hp.elim
   | cons q r ih =>
    intro ss hp s hs
    cases ss with
    | nil => cases hs
    | cons a ss =>
     rcases List.mem_cons.1 hs with rfl | hs
     ·exact hp.1.1
     ·exact ih ss hp.2 s hs
  exact hsh s (mem sq ss hp s hs)
def lF (L : List (List Int)) (cs : List Int) (k : Nat) : List (List Int) := List.zipWith gu (L.take k) (cs.take k) ++ L.drop k
theorem xX (L : List (List Int)) (cs : List Int) : lF L cs 0 = L := by simp [lF]
theorem yT {L : List (List Int)} {cs : List Int} (h : L.length = cs.length) : lF L cs cs.length = List.zipWith gu L cs := by
 unfold lF; rw [List.take_length, ← h, List.take_length, List.drop_length, List.append_nil]
theorem updTo_at? {L : List (List Int)} {cs : List Int} (h : L.length = cs.length) (k : Nat) (hk : k < cs.length) : (lF L cs k)[k]? = L[k]? := by
 unfold lF; rw [List.getElem?_append_right (by simp; omega), List.getElem?_drop]; congr 1; simp; omega
theorem yY {L : List (List Int)} {cs : List Int} (h : L.length = cs.length) (k : Nat) (hk : k < cs.length) (hk' : k < L.length) : (lF L cs k).set k (gu L[k] cs[k]) = lF L cs (k + 1) := by
 unfold lF; rw [List.drop_eq_getElem_cons hk', List.set_append_right _ _ (by simp; omega), List.take_succ_eq_append_getElem hk', List.take_succ_eq_append_getElem hk, List.zipWith_append (by simp; omega), List.append_assoc]; congr 1; (have : k - (List.zipWith gu (List.take k L) (List.take k cs)).length = 0 := by simp; omega); rw [this]; rfl
theorem EH (L : List Int) (k : Nat) (h : k < L.length) : (strOfNums L).extract k (k + 1) = strOfNums [L[k]] := by
 apply ByteArray.ext; rw [ByteArray.data_extract]; apply Array.ext'; simp [strOfNums, List.take_succ_eq_append_getElem, List.drop_eq_getElem_cons, h]
theorem IA (c : Prop) [Decidable c] (m n : Nat) (hm : m ≤ 5) (hn : n ≤ 5) : (if c then wrap64 ((m : Int) + (n : Int)) else fV) ≤ 10 ∨ (if c then wrap64 ((m : Int) + (n : Int)) else fV) = 1048576 := by
 split
 ·rw [bJ (by omega) (by omega)]; exact .inl (by omega)
 ·exact .inr rfl
theorem Ir (W S : Int) {q : List S27} (hq : Sm5 q) {s : S86} (h0 : 0 ≤ s.f1) (h1 : s.f1 ≤ 31) : iw W S q s ≤ 10 ∨ iw W S q s = 1048576 := by
 obtain ⟨g, v, hg, hv, hA⟩ := yl hq; obtain ⟨z, hz⟩ := Int.eq_ofNat_of_zero_le h0; (have hz32 : z < 32 := by omega); have b1 : z &&& g < 32 := Nat.lt_of_le_of_lt Nat.and_le_left hz32; have b3 : (z &&& g) &&& (31 ^^^ v) < 32 := Nat.lt_of_le_of_lt Nat.and_le_left b1; have b4 : v &&& (31 ^^^ z) < 32 := Nat.lt_of_le_of_lt Nat.and_le_left hv; have p1 : pop ((z &&& g) &&& (31 ^^^ v)) ≤ 5 := ut ⟨_, b3⟩; have p2 : pop (v &&& (31 ^^^ z)) ≤ 5 := ut ⟨_, b4⟩
 have e1 : jD (dM (Go.bits .and .i64 s.f1 (g : Int)) (v : Int)) = (pop ((z &&& g) &&& (31 ^^^ v)) : Int) := by
  rw [hz, sV ⟨z, hz32⟩ ⟨g, hg⟩, yQ ⟨z &&& g, b1⟩ ⟨v, hv⟩, uk ⟨_, b3⟩]
 have e2 : jD (dM (v : Int) s.f1) = (pop (v &&& (31 ^^^ z)) : Int) := by
  rw [hz, yQ ⟨v, hv⟩ ⟨z, hz32⟩, uk ⟨_, b4⟩]
 have hc : iw W S q s = if (eX q).2.2 = true ∧ jD (dM (Go.bits .and .i64 s.f1 (g : Int)) (v : Int)) ≤ W ∧ jD (dM (v : Int) s.f1) ≤ S then wrap64 (jD (dM (Go.bits .and .i64 s.f1 (g : Int)) (v : Int)) + jD (dM (v : Int) s.f1)) else fV := by
  (have h1 : (eX q).1 = (g : Int) := by rw [eX, hA]); (have h2 : (eX q).2.1 = (v : Int) := by rw [eX, hA]); rw [iw, cellP, h1, h2]
 rw [hc, e1, e2]; exact IA _ _ _ p1 p2
theorem IU (W S : Int) {sh : List S86} (hsh : iL sh) {q : List S27} (hq : Sm5 q) : ig W S sh q ≤ 10 ∨ ig W S sh q = 1048576 := by
 rcases xN W S (eX q) sh sh.length with h | ⟨k, hk, h⟩
 ·exact .inr h
 ·rw [og sh k hk] at h; have hb := hsh.1.1 _ (List.getElem_mem hk); have := Ir W S hq (s := sh[k]) (by omega) (by omega); unfold iw at this; rw [← h] at this; exact this
theorem Ey (W S : Int) {sh : List S86} (hsh : iL sh) : ∀ {sq : List (List S27)}, (∀ q ∈ sq, Sm5 q) → fO W S sq sh < 1048576 → fO W S sq sh ≤ 10 * (sq.length : Int)
 | [], _, _ => by simp [fO]
 | q :: r, hq, h => by
  (have e : fO W S (q :: r) sh = ig W S sh q + fO W S r sh := by simp [fO]); have h1 := iH W S hsh (hq q List.mem_cons_self); have h2 := mZ (W := W) (S := S) hsh (fun x hx => hq x (List.mem_cons_of_mem _ hx)); rw [e] at h ⊢; have h3 := Ey W S hsh (sq := r) (fun x hx => hq x (List.mem_cons_of_mem _ hx)) (by omega); rcases IU W S hsh (hq q List.mem_cons_self) with h4 | h4
  ·rw [List.length_cons]; push_cast; omega
  ·omega
theorem qh (W S t : Int) (hs : List S66) (sq : List (List S27)) (i : Nat) : (dN (-1) 0 W S t hs sq i).Pairwise (· < ·) := by
 unfold dN; refine List.Pairwise.filter _ ?_; rw [List.pairwise_map]; exact (List.pairwise_lt_range).imp (fun h => Int.ofNat_lt.2 h)
section
variable {W S t : Int} {hs : List S66} {sq : List (List S27)} (hh : ∀ h ∈ hs, iL h.f1) (hq : jW sq)
include hh hq
theorem Fu : ((iK W S t hs sq).marks = 999 ∧ 1048576 ≤ jf hs W S sq (List.finRange hs.length)) ∨ ((iK W S t hs sq).marks < 999 ∧ jf hs W S sq (List.finRange hs.length) = (iK W S t hs sq).marks) := by
 have inv := lh W S t hs sq hs.length (Nat.le_refl _); have hq8 := hq.1
 have small : ∀ h ∈ hs, fO W S sq h.f1 < 1048576 → fO W S sq h.f1 ≤ 98 := fun h hm h1 => by
  have := Ey W S (hh h hm) hq.2 h1; omega
 by_cases hex : ∃ h ∈ hs, fO W S sq h.f1 ≤ 98
 ·right; have h1 := (pO (t := t) hh hq 98 (by omega)).2 hex; refine ⟨by omega, ?_⟩; have h2 := (pF W S hh hq (iK W S t hs sq).marks).2 (.inr ((pO (t := t) hh hq _ (by omega)).1 (Int.le_refl _)))
  have h3 : (iK W S t hs sq).marks ≤ jf hs W S sq (List.finRange hs.length) := by
   rcases (pF W S hh hq (jf hs W S sq (List.finRange hs.length))).1 (Int.le_refl _) with h4 | h4
   ·omega
   ·exact (pO (t := t) hh hq _ (by omega)).2 h4
  omega
 ·left; (have hno : ∀ h ∈ hs, ¬ fO W S sq h.f1 < 1048576 := fun h hm h1 => hex ⟨h, hm, small h hm h1⟩); constructor
  ·have h1 : (iK W S t hs sq).marks ≤ 999 := (inv.marks 999).2 (.inl (Int.le_refl _))
   have h2 : ¬ (iK W S t hs sq).marks ≤ 998 := fun hc => by
    rcases (inv.marks 998).1 hc with h3 | ⟨hd, x, ⟨j, hj, _, hx⟩, h4⟩
    ·omega
    ·rw [iP hs j hj] at hx; obtain ⟨ss, h5, rfl⟩ := (jN _ _ _ _ _ _ _).1 hx; have h6 := Ag (hh _ (List.getElem_mem hj)) h5; simp only [Int.zero_add] at h4; exact hno _ (List.getElem_mem hj) (by omega)
   omega
  ·have h2 : ¬ jf hs W S sq (List.finRange hs.length) ≤ 1048575 := fun hc => by
    rcases (pF W S hh hq 1048575).1 hc with h3 | ⟨h, hm, h3⟩
    ·omega
    ·exact hno h hm (by omega)
   omega
theorem vg (ht : t < 99) (k : Nat) (hk : k < sq.length) : ((iK W S t hs sq).letters.getD k []).length = (dN (-1) 0 W S t hs sq k).length := by
 have inv := lh W S t hs sq hs.length (Nat.le_refl _); have h1 : ((iK W S t hs sq).letters.getD k []).Nodup := inv.nodup k hk; have h2 : (dN (-1) 0 W S t hs sq k).Nodup := (qh W S t hs sq k).imp (fun h => Int.ne_of_lt h); exact ((List.perm_ext_iff_of_nodup h1 h2).2 (fun c => nT hh hq ht k hk c)).length_eq
end
theorem tJ (W S t : Int) (hs : List S66) (sq : List (List S27)) (i : Nat) : ∀ c ∈ dN (-1) 0 W S t hs sq i, 0 ≤ c ∧ c < 256 := fun c hc => by
 obtain ⟨n, hn, rfl⟩ := List.mem_map.1 (List.mem_filter.1 hc).1; have := List.mem_range.1 hn; simp only [Int.ofNat_eq_natCast]; omega
theorem yX (l : List Int) (hl : l.length ≤ 1000) : ∃ k, aN.f k l l = some true := by
 have key : ∀ (d i : Nat), i + d = l.length → Ev (fun k => aN.l0 k l l true (i : Int)) true := by
  intro d
  induction d with
  | zero =>
   intro i hi; refine Ev.step (f := fun _ => some true) (fun k => ?_) (Ev.now _); rw [aN.l0, if_pos rfl, if_neg (by omega)]
  | succ d ih =>
   intro i hi; (have hw : wrap64 ((i : Int) + 1) = ((i + 1 : Nat) : Int) := by rw [bJ (by omega) (by omega)]; omega); refine Ev.step (fun k => ?_) (ih (i + 1) (by omega)); rw [aN.l0, if_pos rfl, if_pos (by omega), if_pos (by omega), if_pos (by omega), beq_self_eq_true, hw]
 obtain ⟨k, hk⟩ := (key l.length 0 (by omega)).rounds; exact ⟨k, by rw [aN.f, beq_self_eq_true]; exact hk⟩
end Go.Proofs.Ytihedeofkhapiaa.Pr
end
section
namespace Go.Proofs.Ytihedeofkhapiaa.Pr
open Go.RowKit Go.Proofs.YtihedeofkhapiaaW.PrintWords Go.Proofs.YtihedeofkhapiaaW.PrintLast Go.Proofs.YtihedeofkhapiaaW.PrintMore
attribute [local go_sem] kW kK mg lY lm lg mH mW
mutual
def bv.l0 : Nat → ByteArray → List ByteArray → Int → Int → Option (ByteArray × Int)
 | 0, _, _, _, _ => none
 | k + 1, x6, x17, x18, x19 => if x19 < x18 then (if 0 ≤ x19 then (if x19 < (x17.length : Int) then (if ((fM ByteArray.empty x17 x19).size : Int) = 2 then (bv.j1 k x6 (fM ByteArray.empty x17 x19) x17 x18 x19 ((fM ByteArray.empty x17 x19).size : Int) (((fM ByteArray.empty x17 x19).size : Int) == 2)) else (bv.j1 k x6 (fM ByteArray.empty x17 x19) x17 x18 x19 ((fM ByteArray.empty x17 x19).size : Int) (((fM ByteArray.empty x17 x19).size : Int) == 3))) else (none)) else (none)) else (some (x6, 0))
def bv.j1 : Nat → ByteArray → ByteArray → List ByteArray → Int → Int → Int → Bool → Option (ByteArray × Int)
 | 0, _, _, _, _, _, _, _ => none
 | k + 1, x6, x8, x17, x18, x19, x24, x25 => if x25 = true then (if 1 + x8.size ≤ 9223372036854775807 then (if ((⟨#[123]⟩ : ByteArray) ++ x8).size + 1 ≤ 9223372036854775807 then (if x6.size + (((⟨#[123]⟩ : ByteArray) ++ x8) ++ (⟨#[125]⟩ : ByteArray)).size ≤ 9223372036854775807 then (bv.l0 k (x6 ++ (((⟨#[123]⟩ : ByteArray) ++ x8) ++ (⟨#[125]⟩ : ByteArray))) x17 x18 (wrap64 (x19 + 1))) else (none)) else (none)) else (none)) else (if x24 = 1 then (if x6.size + x8.size ≤ 9223372036854775807 then (bv.l0 k (x6 ++ x8) x17 x18 (wrap64 (x19 + 1))) else (none)) else (if x6.size + 1 ≤ 9223372036854775807 then (bv.l0 k (x6 ++ (⟨#[45]⟩ : ByteArray)) x17 x18 (wrap64 (x19 + 1))) else (none)))
end
def bv.f (k : Nat) (aG : List (S66)) (aH : Int) (aW : Int) (bg : Int) (aA : List (List (S27))) : Option (ByteArray × Int) := (aQ.f k aG aH aW bg aA).bind fun sO => (if sO.2 = 0 then (bv.l0 k (⟨#[]⟩ : ByteArray) sO.1 (sO.1.length : Int) 0) else (some ((⟨#[]⟩ : ByteArray), sO.2)))
theorem bv.dF : ∀ k, (∀ y0 y1 y2 y3, LeO (bv.l0 k y0 y1 y2 y3) (bv.l0 (k + 1) y0 y1 y2 y3)) ∧ (∀ y0 y1 y2 y3 y4 y5 y6, LeO (bv.j1 k y0 y1 y2 y3 y4 y5 y6) (bv.j1 (k + 1) y0 y1 y2 y3 y4 y5 y6))
 | 0 => ⟨fun _ _ _ _ r h => by simp [bv.l0] at h, fun _ _ _ _ _ _ _ r h => by simp [bv.j1] at h⟩
 | k + 1 => by
  obtain ⟨ih0, ih1⟩ := bv.dF k; refine ⟨?_, ?_⟩
  ·intro y0 y1 y2 y3; unfold bv.l0
   repeat' first | (with_reducible exact ih1 _ _ _ _ _ _ _) | (with_reducible exact LeO.refl _) | (with_reducible refine LeO.ite ?_ ?_)
  ·intro y0 y1 y2 y3 y4 y5 y6; unfold bv.j1
   repeat' first | (with_reducible exact ih0 _ _ _ _) | (with_reducible exact LeO.refl _) | (with_reducible refine LeO.ite ?_ ?_)
theorem bv.mono : ∀ a0 a1 a2 a3 a4 k, LeO (bv.f k a0 a1 a2 a3 a4) (bv.f (k + 1) a0 a1 a2 a3 a4) := by
 intro a0 a1 a2 a3 a4 k; obtain ⟨ih0, ih1⟩ := bv.dF k; unfold bv.f
 repeat' first | (with_reducible exact ih0 _ _ _ _) | (with_reducible exact aQ.mono _ _ _ _ _ _) | (with_reducible exact LeO.refl _) | (with_reducible refine LeO.ite ?_ ?_) | (with_reducible refine LeO.bind ?_ (fun _ => ?_))
set_option maxHeartbeats 8000000 in
set_option maxRecDepth 100000 in
theorem bv.calls (k : Nat) (df : Option Addr) (bW : Nat) (aG : List (S66)) (aH : Int) (aW : Int) (bg : Int) (cZ : Option Addr) (bY : Nat) (aA : List (List (S27))) (r1 : ByteArray) (r2 : Int) (w : World) (jB : Kd.C k66 w df aG.length aG) (kD : aG.length ≤ bW) (jC : Kd.C (Kd.slice 27 k27) w cZ aA.length aA) (kF : aA.length ≤ bY) (h : bv.f k aG aH aW bg aA = some (r1, r2)) :
 Calls Try.prog 19 #[.agg #[.slice df aG.length bW, .int .i64 aH, .int .i64 aW, .int .i64 bg, .slice cZ aA.length bY]] w fun e w' => e = .returned (.tuple #[.string r1, .int .i64 r2]) ∧ Below w.heap.size w w' := by
 have hu25 := Try.underlying25; have pg := aa.mk jB; have qV := aa.mk kD; clear jB kD; have kv := aa.mk jC; have qW := aa.mk kF; clear jC kF; have HB := aa.mk (Below.refl w.heap.size w); have H : ((aQ.f k aG aH aW bg aA).bind fun sO => (if sO.2 = 0 then (bv.l0 k (⟨#[]⟩ : ByteArray) sO.1 (sO.1.length : Int) 0) else (some ((⟨#[]⟩ : ByteArray), sO.2)))) = some (r1, r2) := h; clear h; replace H := Option.bind_eq_some_iff.mp H; obtain ⟨⟨gK, Cc⟩, A20, H⟩ := H; dsimp only at H; have A2 := aa.mk A20; clear A20; by_cases c3 : Cc = 0
 ·rw [if_pos c3] at H; have pq : (Cc == 0) = true := beq_iff_eq.mpr c3; have CF : (Cc != 0) = false := bne_eq_false_iff_eq.mpr c3; clear c3; have H' := aa.mk H; clear H; go_enter Try.func19, Try.ntmps19; (go_wp2_with (first | ((with_reducible refine bS (N := 1) rfl ?_); refine bV ?hg (N := 1) ?hd (cs := #[.slice df aG.length bW, .int .i64 aH, .int .i64 aW, .int .i64 bg, .slice cZ aA.length bY]) (t := 25) ?hr ?_; (case hd => rfl); (case hg => rfl); (case hr => (go_simp; done)); intro xH hg w4 hbox hb; have mE := aa.mk (hbox); have RD := aa.mk ((by rw [hg]; exact (ay (by exact HB.out)) : w.heap.size ≤ xH)); have Rw := aa.mk ((by rw [hg]; exact (ay (by exact HB.out)) : w.heap.size ≤ xH)); replace HB := aa.mk (az (by exact HB.out) hb); clear hb hbox hg; obtain ⟨Dy, CR, CV, Ps, NN, Dm, Cn, CB, Pz, O0⟩ := cells5 mE.out) | ((with_reducible refine bC (f := 24) rfl ?_); refine ed (some 11) rfl rfl Try.func24 (by kernel_rfl) rfl #[.agg #[.slice df aG.length bW, .int .i64 aH, .int .i64 aW, .int .i64 bg, .slice cZ aA.length bY]] rfl (by (simp only [List.map_toArray, List.map_cons, List.map_nil]); rfl) ?_; (with_reducible refine (aQ.calls k _ _ aG aH aW bg _ _ aA gK Cc _ ?side1 ?side2 ?side3 ?side4 A2.out).mono ?_); (case side1 => repeat (exact (Kd.cu pg.out HB.out))); (case side2 => exact qV.out); (case side3 => repeat (exact (Kd.cu kv.out HB.out))); (case side4 => exact qW.out); rintro e w6 ⟨WL, rfl, ho0, hb⟩; refine ⟨_, rfl, ?_⟩; have I7 := aa.mk (Kd.eU ho0 (ay (by exact HB.out))); replace mE := aa.mk (ak (bU mE.out) hb); replace HB := aa.mk (az (by exact HB.out) hb); clear hb; clear ho0; obtain ⟨Ao7, co7, eo7⟩ := Kd.dB I7.out; subst eo7))); (go_loopg [6, 19] k (fun kq v6 v19 w' => ∃ (dC : ByteArray) (dR : Int), v6 = .string dC ∧ v19 = .int .i64 dR ∧ aa (bv.l0 kq dC gK (gK.length : Int) dR = some (r1, r2)) ∧ aa (kq ≤ k) ∧ aa (Kd.R Kd.string 9 w' w.heap.size (fun _ => True) (.slice Ao7 gK.length co7) gK) ∧ aa (w'.heap[xH]? = some (.cells #[(.slice df aG.length bW), .int .i64 aH, .int .i64 aW, .int .i64 bg, (.slice cZ aA.length bY)] 25 (0, 0))) ∧ aa (Below w.heap.size w w'))); case atStart => exact ⟨((⟨#[]⟩ : ByteArray)), (0), (by rfl), (by rfl), H', ⟨Nat.le_refl _⟩, ⟨by (with_reducible skip); exact I7.out⟩, ⟨by (with_reducible skip); exact mE.out⟩, ⟨by exact HB.out⟩⟩
  case round =>
   clear H' pq CF Dy CR CV Ps NN Dm Cn CB Pz O0; obtain ⟨dC, dR, rfl, rfl, HA, HK1, xV, mE, HB⟩ := hrel
   cases gk with
   | zero => exact absurd HA.out (by simp [bv.l0])
   | succ k1 =>
    have H := HA.out; clear HA; simp only [bv.l0] at H; by_cases c8 : dR < (gK.length : Int)
    ·rw [if_pos c8] at H; have Bl : decide (dR < (gK.length : Int)) = true := decide_eq_true c8; clear c8; by_cases c9 : 0 ≤ dR
     ·rw [if_pos c9] at H; have IM : decide (0 ≤ dR) = true := decide_eq_true c9; clear c9; by_cases c10 : dR < (gK.length : Int)
      ·rw [if_pos c10] at H; have qa : decide (dR < (gK.length : Int)) = true := decide_eq_true c10; clear c10; have Pb := aa.mk H; clear H; have Ma : 0 ≤ (dR : Int) := of_decide_eq_true (by with_reducible assumption); have K9 : dR < (gK.length : Int) := of_decide_eq_true (by with_reducible assumption); obtain ⟨RO, e263, JX⟩ := Kd.lu (Kd.bF xV.out).2.2 dR Ma K9; cases e263; replace Ma := eq_true Ma; replace K9 := eq_true K9; (go_upto_if 25 with (fail)); go_cut [25] (fun v25 wc => ∃ (kq : Nat) (Ak : Bool), v25 = .bool Ak ∧ aa (bv.j1 kq dC (fM ByteArray.empty gK dR) gK (gK.length : Int) dR ((fM ByteArray.empty gK dR).size : Int) Ak = some (r1, r2)) ∧ aa (kq ≤ k1) ∧ aa (Kd.R Kd.string 9 wc w.heap.size (fun _ => True) (.slice (some RO) gK.length co7) gK) ∧ aa (wc.heap[xH]? = some (.cells #[(.slice df aG.length bW), .int .i64 aH, .int .i64 aW, .int .i64 bg, (.slice cZ aA.length bY)] 25 (0, 0))) ∧ aa (Below w.heap.size w wc))
       case first =>
        have H := Pb.out; clear Pb; by_cases c12 : ((fM ByteArray.empty gK dR).size : Int) = 2
        ·rw [if_pos c12] at H; have uN : (((fM ByteArray.empty gK dR).size : Int) == 2) = true := beq_iff_eq.mpr c12; have DK : (((fM ByteArray.empty gK dR).size : Int) != 2) = false := bne_eq_false_iff_eq.mpr c12; clear c12; (rw [uN]); have H' := aa.mk H; clear H; go_wp2; go_meet; case rel => exact ⟨_, ((((fM ByteArray.empty gK dR).size : Int) == 2)), (by simp [*]; done), H', ⟨by have := HK1.out; omega⟩, ⟨by (with_reducible skip); exact xV.out⟩, ⟨by (with_reducible skip); exact mE.out⟩, ⟨by exact HB.out⟩⟩
        ·rw [if_neg c12] at H; have uN : (((fM ByteArray.empty gK dR).size : Int) == 2) = false := beq_eq_false_iff_ne.mpr c12; have DK : (((fM ByteArray.empty gK dR).size : Int) != 2) = true := bne_iff_ne.mpr c12; (rw [uN]); have H' := aa.mk H; clear H; go_wp2; go_meet; case rel => exact ⟨_, ((((fM ByteArray.empty gK dR).size : Int) == 3)), (by rfl), H', ⟨by have := HK1.out; omega⟩, ⟨by (with_reducible skip); exact xV.out⟩, ⟨by (with_reducible skip); exact mE.out⟩, ⟨by exact HB.out⟩⟩
       case rest =>
        clear Pb Bl IM qa JX Ma K9; obtain ⟨kq, Ak, rfl, HA, HJ10, xV, mE, HB⟩ := hcut
        cases kq with
        | zero => exact absurd HA.out (by simp [bv.j1])
        | succ kj10 =>
         have H := HA.out; clear HA; simp only [bv.j1] at H; by_cases c13 : Ak = true
         ·subst c13; rw [if_pos rfl] at H; by_cases c14 : 1 + (fM ByteArray.empty gK dR).size ≤ 9223372036854775807
          ·rw [if_pos c14] at H; have Bq := eq_true c14; have AR : decide (1 + (fM ByteArray.empty gK dR).size ≤ 9223372036854775807) = true := decide_eq_true c14; have Yf : (9223372036854775807 < 1 + (fM ByteArray.empty gK dR).size) = False := eq_false (Nat.not_lt.2 c14); by_cases c15 : ((⟨#[123]⟩ : ByteArray) ++ (fM ByteArray.empty gK dR)).size + 1 ≤ 9223372036854775807
           ·rw [if_pos c15] at H; (have Hr : 1 + (fM ByteArray.empty gK dR).size + 1 ≤ 9223372036854775807 := by have h := c15; rw [ByteArray.size_append] at h; exact h); have XJ := eq_true Hr; have Xl : decide (1 + (fM ByteArray.empty gK dR).size + 1 ≤ 9223372036854775807) = true := decide_eq_true Hr; have X9 : (9223372036854775807 < 1 + (fM ByteArray.empty gK dR).size + 1) = False := eq_false (Nat.not_lt.2 Hr); have DV := eq_true c15; have Xg : decide (((⟨#[123]⟩ : ByteArray) ++ (fM ByteArray.empty gK dR)).size + 1 ≤ 9223372036854775807) = true := decide_eq_true c15; have Yt : (9223372036854775807 < ((⟨#[123]⟩ : ByteArray) ++ (fM ByteArray.empty gK dR)).size + 1) = False := eq_false (Nat.not_lt.2 c15); by_cases c16 : dC.size + (((⟨#[123]⟩ : ByteArray) ++ (fM ByteArray.empty gK dR)) ++ (⟨#[125]⟩ : ByteArray)).size ≤ 9223372036854775807
            ·rw [if_pos c16] at H; (have GY : dC.size + (1 + (fM ByteArray.empty gK dR).size + 1) ≤ 9223372036854775807 := by have h := c16; rw [ByteArray.size_append, ByteArray.size_append] at h; exact h); have X8 := eq_true GY; have Xz : decide (dC.size + (1 + (fM ByteArray.empty gK dR).size + 1) ≤ 9223372036854775807) = true := decide_eq_true GY; have X7 : (9223372036854775807 < dC.size + (1 + (fM ByteArray.empty gK dR).size + 1)) = False := eq_false (Nat.not_lt.2 GY); have M0 := eq_true c16; have Xm : decide (dC.size + (((⟨#[123]⟩ : ByteArray) ++ (fM ByteArray.empty gK dR)) ++ (⟨#[125]⟩ : ByteArray)).size ≤ 9223372036854775807) = true := decide_eq_true c16; have XR : (9223372036854775807 < dC.size + (((⟨#[123]⟩ : ByteArray) ++ (fM ByteArray.empty gK dR)) ++ (⟨#[125]⟩ : ByteArray)).size) = False := eq_false (Nat.not_lt.2 c16); have H' := aa.mk H; clear H; go_wp2; go_roundg kj10; (case measure => have := HK1.out; have := HJ10.out; omega); case rel => exact ⟨(dC ++ (((⟨#[123]⟩ : ByteArray) ++ (fM ByteArray.empty gK dR)) ++ (⟨#[125]⟩ : ByteArray))), (wrap64 (dR + 1)), (by rfl), (by rfl), H', ⟨by have := HK1.out; have := HJ10.out; omega⟩, ⟨by (with_reducible skip); exact xV.out⟩, ⟨by (with_reducible skip); exact mE.out⟩, ⟨by exact HB.out⟩⟩
            ·rw [if_neg c16] at H; exact absurd H (by simp)
           ·rw [if_neg c15] at H; exact absurd H (by simp)
          ·rw [if_neg c14] at H; exact absurd H (by simp)
         ·replace c13 := Bool.eq_false_iff.mpr c13; subst c13; rw [if_neg (show ¬ (false = true) by decide)] at H; by_cases c17 : ((fM ByteArray.empty gK dR).size : Int) = 1
          ·rw [if_pos c17] at H; have Eo : (((fM ByteArray.empty gK dR).size : Int) == 1) = true := beq_iff_eq.mpr c17; have Rz : (((fM ByteArray.empty gK dR).size : Int) != 1) = false := bne_eq_false_iff_eq.mpr c17; clear c17; by_cases c18 : dC.size + (fM ByteArray.empty gK dR).size ≤ 9223372036854775807
           ·rw [if_pos c18] at H; have MR := eq_true c18; have Yr : decide (dC.size + (fM ByteArray.empty gK dR).size ≤ 9223372036854775807) = true := decide_eq_true c18; have X3 : (9223372036854775807 < dC.size + (fM ByteArray.empty gK dR).size) = False := eq_false (Nat.not_lt.2 c18); have H' := aa.mk H; clear H; go_wp2; go_roundg kj10; (case measure => have := HK1.out; have := HJ10.out; omega); case rel => exact ⟨(dC ++ (fM ByteArray.empty gK dR)), (wrap64 (dR + 1)), (by rfl), (by rfl), H', ⟨by have := HK1.out; have := HJ10.out; omega⟩, ⟨by (with_reducible skip); exact xV.out⟩, ⟨by (with_reducible skip); exact mE.out⟩, ⟨by exact HB.out⟩⟩
           ·rw [if_neg c18] at H; exact absurd H (by simp)
          ·rw [if_neg c17] at H; have Eo : (((fM ByteArray.empty gK dR).size : Int) == 1) = false := beq_eq_false_iff_ne.mpr c17; have Rz : (((fM ByteArray.empty gK dR).size : Int) != 1) = true := bne_iff_ne.mpr c17; by_cases c19 : dC.size + 1 ≤ 9223372036854775807
           ·rw [if_pos c19] at H; have MQ := eq_true c19; have Xa : decide (dC.size + 1 ≤ 9223372036854775807) = true := decide_eq_true c19; have Yx : (9223372036854775807 < dC.size + 1) = False := eq_false (Nat.not_lt.2 c19); have H' := aa.mk H; clear H; go_wp2; go_roundg kj10; (case measure => have := HK1.out; have := HJ10.out; omega); case rel => exact ⟨(dC ++ (⟨#[45]⟩ : ByteArray)), (wrap64 (dR + 1)), (by rfl), (by rfl), H', ⟨by have := HK1.out; have := HJ10.out; omega⟩, ⟨by (with_reducible skip); exact xV.out⟩, ⟨by (with_reducible skip); exact mE.out⟩, ⟨by exact HB.out⟩⟩
           ·rw [if_neg c19] at H; exact absurd H (by simp)
      ·rw [if_neg c10] at H; exact absurd H (by simp)
     ·rw [if_neg c9] at H; exact absurd H (by simp)
    ·rw [if_neg c8] at H; have Bl : decide (dR < (gK.length : Int)) = false := decide_eq_false c8; clear c8; simp only [Option.some.injEq, Prod.mk.injEq] at H; obtain ⟨rfl, rfl⟩ := H; go_wp2
     go_ret2
     exact ⟨by rfl, by exact HB.out⟩
 ·rw [if_neg c3] at H; have pq : (Cc == 0) = false := beq_eq_false_iff_ne.mpr c3; have CF : (Cc != 0) = true := bne_iff_ne.mpr c3; simp only [Option.some.injEq, Prod.mk.injEq] at H; obtain ⟨rfl, rfl⟩ := H; go_enter Try.func19, Try.ntmps19; go_wp2_with (first | ((with_reducible refine bS (N := 1) rfl ?_); refine bV ?hg (N := 1) ?hd (cs := #[.slice df aG.length bW, .int .i64 aH, .int .i64 aW, .int .i64 bg, .slice cZ aA.length bY]) (t := 25) ?hr ?_; (case hd => rfl); (case hg => rfl); (case hr => (go_simp; done)); intro xH hg w20 hbox hb; have mE := aa.mk (hbox); have RD := aa.mk ((by rw [hg]; exact (ay (by exact HB.out)) : w.heap.size ≤ xH)); have Rw := aa.mk ((by rw [hg]; exact (ay (by exact HB.out)) : w.heap.size ≤ xH)); replace HB := aa.mk (az (by exact HB.out) hb); clear hb hbox hg; obtain ⟨EB, ED, DR, Md, Ju, Ei, D8, EG, Lx, MI⟩ := cells5 mE.out) | ((with_reducible refine bC (f := 24) rfl ?_); refine ed (some 11) rfl rfl Try.func24 (by kernel_rfl) rfl #[.agg #[.slice df aG.length bW, .int .i64 aH, .int .i64 aW, .int .i64 bg, .slice cZ aA.length bY]] rfl (by (simp only [List.map_toArray, List.map_cons, List.map_nil]); rfl) ?_; (with_reducible refine (aQ.calls k _ _ aG aH aW bg _ _ aA gK Cc _ ?side1 ?side2 ?side3 ?side4 A2.out).mono ?_); (case side1 => repeat (exact (Kd.cu pg.out HB.out))); (case side2 => exact qV.out); (case side3 => repeat (exact (Kd.cu kv.out HB.out))); (case side4 => exact qW.out); rintro e w22 ⟨WL, rfl, ho0, hb⟩; refine ⟨_, rfl, ?_⟩; have I7 := aa.mk (Kd.eU ho0 (ay (by exact HB.out))); replace mE := aa.mk (ak (bU mE.out) hb); replace HB := aa.mk (az (by exact HB.out) hb); clear hb; (clear ho0)))
  go_ret2
  exact ⟨by rfl, by exact HB.out⟩
def bG.f (k : Nat)  : Option (Bool) := (dH.f).bind fun qb => ((aQ.f k qb.1 qb.2.1 qb.2.2.1 qb.2.2.2.1 qb.2.2.2.2).bind fun BD => ((dH.f).bind fun pG => ((bv.f k pG.1 pG.2.1 pG.2.2.1 pG.2.2.2.1 pG.2.2.2.2).bind fun AO => ((gX.f 1 (([(⟨15, 15⟩ : S27)] : List (S27)))).bind fun lJ => ((iB.f lJ.1 lJ.2.1 lJ.2.2.1 lJ.2.2.2.1 lJ.2.2.2.2).bind fun vI => (if BD.2 = 0 then (if AO.2 = 0 then (if vI.2 = 0 then (if vI.1 = 1 then (if AO.1.toList = ([65, 123, 65, 76, 125, 84] : List UInt8) then ((aT.f k BD.1 (([(⟨#[65]⟩ : ByteArray), (⟨#[65, 76]⟩ : ByteArray), (⟨#[84]⟩ : ByteArray)] : List ByteArray))).bind fun Ai => (some Ai)) else (some false)) else (some false)) else (some false)) else (some false)) else (some false)))))))
theorem bG.mono : ∀ k, LeO (bG.f k ) (bG.f (k + 1) ) := by
 intro  k; unfold bG.f
 repeat' first | (with_reducible exact aT.mono _ _ _) | (with_reducible exact aQ.mono _ _ _ _ _ _) | (with_reducible exact bv.mono _ _ _ _ _ _) | (with_reducible exact LeO.refl _) | (with_reducible refine LeO.ite ?_ ?_) | (with_reducible refine LeO.bind ?_ (fun _ => ?_))
set_option maxRecDepth 100000 in
theorem AA : bG.f 60 = some true := by decide +kernel
theorem Dp {k : Nat} {r : Bool} (h : bG.f k = some r) : r = true := by
 have h1 := uj bG.mono (Nat.le_max_left k 60) h; have h2 := uj bG.mono (Nat.le_max_right k 60) AA; exact Option.some.inj (h1.symm.trans h2)
set_option maxHeartbeats 8000000 in
set_option maxRecDepth 100000 in
theorem bG.calls (k : Nat)  (r : Bool) (w : World) (h : bG.f k  = some r) :
 Calls Try.prog 14 #[] w fun e w' => e = .returned (.bool r) ∧ Below w.heap.size w w' := by
 have hrT := Dp h; have hu27 := Try.underlying27; have HB := aa.mk (Below.refl w.heap.size w); have H : ((dH.f).bind fun qb => ((aQ.f k qb.1 qb.2.1 qb.2.2.1 qb.2.2.2.1 qb.2.2.2.2).bind fun BD => ((dH.f).bind fun pG => ((bv.f k pG.1 pG.2.1 pG.2.2.1 pG.2.2.2.1 pG.2.2.2.2).bind fun AO => ((gX.f 1 (([(⟨15, 15⟩ : S27)] : List (S27)))).bind fun lJ => ((iB.f lJ.1 lJ.2.1 lJ.2.2.1 lJ.2.2.2.1 lJ.2.2.2.2).bind fun vI => (if BD.2 = 0 then (if AO.2 = 0 then (if vI.2 = 0 then (if vI.1 = 1 then (if AO.1.toList = ([65, 123, 65, 76, 125, 84] : List UInt8) then ((aT.f k BD.1 (([(⟨#[65]⟩ : ByteArray), (⟨#[65, 76]⟩ : ByteArray), (⟨#[84]⟩ : ByteArray)] : List ByteArray))).bind fun Ai => (some Ai)) else (some false)) else (some false)) else (some false)) else (some false)) else (some false)))))))) = some r := h; clear h; replace H := Option.bind_eq_some_iff.mp H; obtain ⟨⟨Dl, NF, NE, OU, CL⟩, A10, H⟩ := H; dsimp only at H; have A1 := aa.mk A10; clear A10; replace H := Option.bind_eq_some_iff.mp H; obtain ⟨⟨KF, Hl⟩, A20, H⟩ := H; dsimp only at H; have A2 := aa.mk A20; clear A20; replace H := Option.bind_eq_some_iff.mp H; obtain ⟨⟨F7, Po, NL, PQ, IG⟩, A30, H⟩ := H; dsimp only at H; have A3 := aa.mk A30; clear A30; replace H := Option.bind_eq_some_iff.mp H; obtain ⟨⟨Hw, H5⟩, A40, H⟩ := H; dsimp only at H; have A4 := aa.mk A40; clear A40; obtain ⟨Lp, Jb⟩ : ∃ y_ : List (S27), y_ = (([(⟨15, 15⟩ : S27)] : List (S27))) := ⟨_, rfl⟩; (replace H : ((gX.f 1 Lp).bind fun lJ => ((iB.f lJ.1 lJ.2.1 lJ.2.2.1 lJ.2.2.2.1 lJ.2.2.2.2).bind fun vI => (if Hl = 0 then (if H5 = 0 then (if vI.2 = 0 then (if vI.1 = 1 then (if Hw.toList = ([65, 123, 65, 76, 125, 84] : List UInt8) then ((aT.f k KF (([(⟨#[65]⟩ : ByteArray), (⟨#[65, 76]⟩ : ByteArray), (⟨#[84]⟩ : ByteArray)] : List ByteArray))).bind fun Ai => (some Ai)) else (some false)) else (some false)) else (some false)) else (some false)) else (some false)))) = some r := by (rw [Jb]; with_reducible exact H)); have Rl := aa.mk Jb; clear Jb; replace H := Option.bind_eq_some_iff.mp H; obtain ⟨⟨OW, PL, Qb, PS, Ot⟩, A50, H⟩ := H; dsimp only at H; have A5 := aa.mk A50; clear A50; replace H := Option.bind_eq_some_iff.mp H; obtain ⟨⟨JE, JB⟩, A60, H⟩ := H; dsimp only at H; have A6 := aa.mk A60; clear A60; by_cases c7 : Hl = 0
 ·rw [if_pos c7] at H; have NY : (Hl == 0) = true := beq_iff_eq.mpr c7; have YL : (Hl != 0) = false := bne_eq_false_iff_eq.mpr c7; clear c7; by_cases c8 : H5 = 0
  ·rw [if_pos c8] at H; have Bl : (H5 == 0) = true := beq_iff_eq.mpr c8; have YC : (H5 != 0) = false := bne_eq_false_iff_eq.mpr c8; clear c8; by_cases c9 : JB = 0
   ·rw [if_pos c9] at H; have IM : (JB == 0) = true := beq_iff_eq.mpr c9; have YJ : (JB != 0) = false := bne_eq_false_iff_eq.mpr c9; clear c9; by_cases c10 : JE = 1
    ·rw [if_pos c10] at H; have qa : (JE == 1) = true := beq_iff_eq.mpr c10; have Xi : (JE != 1) = false := bne_eq_false_iff_eq.mpr c10; clear c10; by_cases c11 : Hw.toList = ([65, 123, 65, 76, 125, 84] : List UInt8)
     ·rw [if_pos c11] at H; have Ib : (Hw.toList == ([65, 123, 65, 76, 125, 84] : List UInt8)) = true := beq_iff_eq.mpr c11; have XA : (Hw.toList != ([65, 123, 65, 76, 125, 84] : List UInt8)) = false := bne_eq_false_iff_eq.mpr c11; clear c11; obtain ⟨Rk, GV⟩ : ∃ y_ : List ByteArray, y_ = (([(⟨#[65]⟩ : ByteArray), (⟨#[65, 76]⟩ : ByteArray), (⟨#[84]⟩ : ByteArray)] : List ByteArray)) := ⟨_, rfl⟩; (replace H : ((aT.f k KF Rk).bind fun Ai => (some Ai)) = some r := by (rw [GV]; with_reducible exact H)); have QA := aa.mk GV; clear GV; replace H := Option.bind_eq_some_iff.mp H; obtain ⟨Ai, Tg, H⟩ := H; have A12 := aa.mk Tg; clear Tg; obtain rfl := Option.some.inj H; go_enter Try.func14, Try.ntmps14; go_wp2_with (first | ((with_reducible refine bC (f := 48) rfl ?_); refine ed (some 8) rfl rfl Try.func48 (by kernel_rfl) rfl #[] rfl (by (simp only [List.map_toArray, List.map_cons, List.map_nil]); done) ?_; (with_reducible refine (dH.calls  Dl NF NE OU CL _ A1.out).mono ?_); rintro e w13 ⟨Wv, VW, rfl, ho0, ho1, hb⟩; refine ⟨_, rfl, ?_⟩; have gU := aa.mk (Kd.kU (Kd.eP (ok' := fun k_ => some k_ ≠ (VW : Value).ownBlock) ho0 (fun k_ hk_ => hk_.2)) (ay (by exact HB.out))); have gV := aa.mk (Kd.kU (Kd.eP (ok' := fun k_ => some k_ ≠ (Wv : Value).ownBlock) ho1 (fun k_ hk_ => hk_.2)) (ay (by exact HB.out))); replace HB := aa.mk (az (by exact HB.out) hb); clear hb; clear ho0; clear ho1; obtain ⟨IX, G5, WN⟩ := Kd.lv gU.out; subst WN; obtain ⟨zL, zD, NM⟩ := Kd.lv gV.out; subst NM) | ((with_reducible refine bC (f := 24) rfl ?_); refine ed (some 9) rfl rfl Try.func24 (by kernel_rfl) rfl #[.agg #[.slice IX Dl.length G5, .int .i64 NF, .int .i64 NE, .int .i64 OU, .slice zL CL.length zD]] rfl (by (simp only [List.map_toArray, List.map_cons, List.map_nil]); rfl) ?_; (with_reducible refine (aQ.calls k _ _ Dl NF NE OU _ _ CL KF Hl _ ?side1 ?side2 ?side3 ?side4 A2.out).mono ?_); (case side1 => repeat (exact (Kd.jr gU.out).2.2)); (case side2 => exact (Kd.jr gU.out).2.1); (case side3 => repeat (exact (Kd.jr gV.out).2.2)); (case side4 => exact (Kd.jr gV.out).2.1); rintro e w16 ⟨Lc, rfl, ho0, hb⟩; refine ⟨_, rfl, ?_⟩; replace gU := aa.mk (Kd.gL (nU gU.out) (Kd.eO ho0) hb); replace gV := aa.mk (Kd.gL (nU gV.out) (Kd.eO ho0) hb); have gY := aa.mk (Kd.eU ho0 (ay (by exact HB.out))); replace HB := aa.mk (az (by exact HB.out) hb); clear hb; (clear ho0)) | ((with_reducible refine bC (f := 48) rfl ?_); refine ed (some 13) rfl rfl Try.func48 (by kernel_rfl) rfl #[] rfl (by (simp only [List.map_toArray, List.map_cons, List.map_nil]); done) ?_; (with_reducible refine (dH.calls  F7 Po NL PQ IG _ A3.out).mono ?_); rintro e w17 ⟨WH, VK, rfl, ho0, ho1, hb⟩; refine ⟨_, rfl, ?_⟩; have iZ := aa.mk (Kd.kU (Kd.eP (ok' := fun k_ => some k_ ≠ (VK : Value).ownBlock ∧ some k_ ≠ (.slice IX Dl.length G5 : Value).ownBlock ∧ some k_ ≠ (.slice zL CL.length zD : Value).ownBlock ∧ some k_ ≠ (Lc : Value).ownBlock) ho0 (fun k_ hk_ => ⟨hk_.2, (Kd.jH (Kd.tq (nU gU.out)) k_ hk_.1), (Kd.jH (Kd.tq (nU gV.out)) k_ hk_.1), (Kd.jH (Kd.xM (rU gY.out)) k_ hk_.1)⟩)) (ay (by exact HB.out))); have jc := aa.mk (Kd.kU (Kd.eP (ok' := fun k_ => some k_ ≠ (WH : Value).ownBlock ∧ some k_ ≠ (.slice IX Dl.length G5 : Value).ownBlock ∧ some k_ ≠ (.slice zL CL.length zD : Value).ownBlock ∧ some k_ ≠ (Lc : Value).ownBlock) ho1 (fun k_ hk_ => ⟨hk_.2, (Kd.jH (Kd.tq (nU gU.out)) k_ hk_.1), (Kd.jH (Kd.tq (nU gV.out)) k_ hk_.1), (Kd.jH (Kd.xM (rU gY.out)) k_ hk_.1)⟩)) (ay (by exact HB.out))); replace gU := aa.mk (Kd.eP (Kd.lM (Kd.lM (Kd.yU (nU gU.out) hb) (Kd.ko ho0)) (Kd.ko ho1)) (fun _ h_ => h_.1)); replace gV := aa.mk (Kd.eP (Kd.lM (Kd.lM (Kd.yU (nU gV.out) hb) (Kd.ko ho0)) (Kd.ko ho1)) (fun _ h_ => h_.1)); replace gY := aa.mk (Kd.bZ (rU gY.out) hb); replace HB := aa.mk (az (by exact HB.out) hb); clear hb; clear ho0; clear ho1; obtain ⟨PZ, NI, VS⟩ := Kd.lv iZ.out; subst VS; obtain ⟨O3, OZ, WV⟩ := Kd.lv jc.out; subst WV) | ((with_reducible refine bC (f := 19) rfl ?_); refine ed (some 14) rfl rfl Try.func19 (by kernel_rfl) rfl #[.agg #[.slice PZ F7.length NI, .int .i64 Po, .int .i64 NL, .int .i64 PQ, .slice O3 IG.length OZ]] rfl (by (simp only [List.map_toArray, List.map_cons, List.map_nil]); rfl) ?_; (with_reducible refine (bv.calls k _ _ F7 Po NL PQ _ _ IG Hw H5 _ ?side1 ?side2 ?side3 ?side4 A4.out).mono ?_); (case side1 => repeat (exact (Kd.jr iZ.out).2.2)); (case side2 => exact (Kd.jr iZ.out).2.1); (case side3 => repeat (exact (Kd.jr jc.out).2.2)); (case side4 => exact (Kd.jr jc.out).2.1); rintro e w20 ⟨rfl, hb⟩; refine ⟨_, rfl, ?_⟩; replace gU := aa.mk (Kd.iC (nU gU.out) hb); replace gV := aa.mk (Kd.iC (nU gV.out) hb); replace gY := aa.mk (Kd.bZ (rU gY.out) hb); replace iZ := aa.mk (Kd.iC (nU iZ.out) hb); replace jc := aa.mk (Kd.iC (nU jc.out) hb); replace HB := aa.mk (az (by exact HB.out) hb); (clear hb)) | ((with_reducible refine bS (N := 19) rfl ?_); ((refine xe (by rfl) ?_; dsimp only)); refine Kd.uQ k27 _ 27 ?hg (N := 19) ?hd (xs := ([(⟨15, 15⟩ : S27)] : List (S27))) (inner := [.int .i64 15, .int .i64 15]) (ok := fun _ => True) (okp := fun _ => True) ?hr ?hp (fun _ hk => hk) trivial (Below.refl _ _) (Nat.le_refl _) (by simp) ?_; (case hd => rfl); (case hg => rfl); (case hr => (go_simp; done)); (case hp => exact (dI.c2 (show Kd.M k27 _ _ _ (⟨15, 15⟩ : S27) [.int .i64 15, .int .i64 15] from (qD _ _ _ (⟨15, 15⟩ : S27) )) (dI.none _ _))); intro YN w21 Dk hb hg_ hnew_; clear hg_ hnew_; (rw [← Rl.out] at Dk); replace gU := aa.mk (Kd.gL (nU gU.out) (Kd.eO Dk) hb); replace gV := aa.mk (Kd.gL (nU gV.out) (Kd.eO Dk) hb); replace gY := aa.mk (Kd.bZ (rU gY.out) hb); replace iZ := aa.mk (Kd.gL (nU iZ.out) (Kd.eO Dk) hb); replace jc := aa.mk (Kd.gL (nU jc.out) (Kd.eO Dk) hb); have lc := aa.mk (Kd.eU Dk (ay (by exact HB.out))); replace HB := aa.mk (az (by exact HB.out) hb); clear hb Dk; obtain ⟨Q7, Ra, V8⟩ := Kd.dB lc.out; subst V8) | ((with_reducible refine bC (f := 49) rfl ?_); refine ed (some 20) rfl rfl Try.func49 (by kernel_rfl) rfl #[.int .i64 1, .slice Q7 Lp.length Ra] rfl (by (simp only [List.map_toArray, List.map_cons, List.map_nil]); rfl) ?_; (with_reducible refine (gX.calls 1 (fun k_ => some k_ = (.slice Q7 Lp.length Ra : Value).ownBlock) _ _ Lp OW PL Qb PS Ot _ ?side1 A5.out).mono ?_); (case side1 => exact Kd.R_V (Kd.Ef rfl (Kd.aZ (Kd.aZ (Kd.aZ (Kd.aZ (Kd.aZ (lc.out) (Kd.bM gU.out) (by decide)) (Kd.bM gV.out) (by decide)) (Kd.dw gY.out) (by decide)) (Kd.bM iZ.out) (by decide)) (Kd.bM jc.out) (by decide)))); rintro e w24 ⟨VU, WQ, rfl, ho0, ho1, hb⟩; refine ⟨_, rfl, ?_⟩; have wW := aa.mk (Kd.kU (Kd.eP (ok' := fun k_ => some k_ ≠ (WQ : Value).ownBlock ∧ some k_ ≠ (.slice IX Dl.length G5 : Value).ownBlock ∧ some k_ ≠ (.slice zL CL.length zD : Value).ownBlock ∧ some k_ ≠ (Lc : Value).ownBlock ∧ some k_ ≠ (.slice PZ F7.length NI : Value).ownBlock ∧ some k_ ≠ (.slice O3 IG.length OZ : Value).ownBlock) ho0 (fun k_ hk_ => ⟨hk_.2, Or.elim hk_.1 (fun hs_ => ((Kd.aZ (Kd.aZ (Kd.aZ (Kd.aZ (Kd.aZ (lc.out) (Kd.bM gU.out) (by decide)) (Kd.bM gV.out) (by decide)) (Kd.dw gY.out) (by decide)) (Kd.bM iZ.out) (by decide)) (Kd.bM jc.out) (by decide)).1 k_ hs_.symm).1.1.1.1.2) (fun hn_ => (Kd.jH (Kd.tq (nU gU.out)) k_ hn_)), Or.elim hk_.1 (fun hs_ => ((Kd.aZ (Kd.aZ (Kd.aZ (Kd.aZ (Kd.aZ (lc.out) (Kd.bM gU.out) (by decide)) (Kd.bM gV.out) (by decide)) (Kd.dw gY.out) (by decide)) (Kd.bM iZ.out) (by decide)) (Kd.bM jc.out) (by decide)).1 k_ hs_.symm).1.1.1.2) (fun hn_ => (Kd.jH (Kd.tq (nU gV.out)) k_ hn_)), Or.elim hk_.1 (fun hs_ => ((Kd.aZ (Kd.aZ (Kd.aZ (Kd.aZ (Kd.aZ (lc.out) (Kd.bM gU.out) (by decide)) (Kd.bM gV.out) (by decide)) (Kd.dw gY.out) (by decide)) (Kd.bM iZ.out) (by decide)) (Kd.bM jc.out) (by decide)).1 k_ hs_.symm).1.1.2) (fun hn_ => (Kd.jH (Kd.xM (rU gY.out)) k_ hn_)), Or.elim hk_.1 (fun hs_ => ((Kd.aZ (Kd.aZ (Kd.aZ (Kd.aZ (Kd.aZ (lc.out) (Kd.bM gU.out) (by decide)) (Kd.bM gV.out) (by decide)) (Kd.dw gY.out) (by decide)) (Kd.bM iZ.out) (by decide)) (Kd.bM jc.out) (by decide)).1 k_ hs_.symm).1.2) (fun hn_ => (Kd.jH (Kd.tq (nU iZ.out)) k_ hn_)), Or.elim hk_.1 (fun hs_ => ((Kd.aZ (Kd.aZ (Kd.aZ (Kd.aZ (Kd.aZ (lc.out) (Kd.bM gU.out) (by decide)) (Kd.bM gV.out) (by decide)) (Kd.dw gY.out) (by decide)) (Kd.bM iZ.out) (by decide)) (Kd.bM jc.out) (by decide)).1 k_ hs_.symm).2) (fun hn_ => (Kd.jH (Kd.tq (nU jc.out)) k_ hn_))⟩)) (ay (by exact HB.out))); have xU := aa.mk (Kd.kU (Kd.eP (ok' := fun k_ => some k_ ≠ (VU : Value).ownBlock ∧ some k_ ≠ (.slice IX Dl.length G5 : Value).ownBlock ∧ some k_ ≠ (.slice zL CL.length zD : Value).ownBlock ∧ some k_ ≠ (Lc : Value).ownBlock ∧ some k_ ≠ (.slice PZ F7.length NI : Value).ownBlock ∧ some k_ ≠ (.slice O3 IG.length OZ : Value).ownBlock) ho1 (fun k_ hk_ => ⟨hk_.2, Or.elim hk_.1 (fun hs_ => ((Kd.aZ (Kd.aZ (Kd.aZ (Kd.aZ (Kd.aZ (lc.out) (Kd.bM gU.out) (by decide)) (Kd.bM gV.out) (by decide)) (Kd.dw gY.out) (by decide)) (Kd.bM iZ.out) (by decide)) (Kd.bM jc.out) (by decide)).1 k_ hs_.symm).1.1.1.1.2) (fun hn_ => (Kd.jH (Kd.tq (nU gU.out)) k_ hn_)), Or.elim hk_.1 (fun hs_ => ((Kd.aZ (Kd.aZ (Kd.aZ (Kd.aZ (Kd.aZ (lc.out) (Kd.bM gU.out) (by decide)) (Kd.bM gV.out) (by decide)) (Kd.dw gY.out) (by decide)) (Kd.bM iZ.out) (by decide)) (Kd.bM jc.out) (by decide)).1 k_ hs_.symm).1.1.1.2) (fun hn_ => (Kd.jH (Kd.tq (nU gV.out)) k_ hn_)), Or.elim hk_.1 (fun hs_ => ((Kd.aZ (Kd.aZ (Kd.aZ (Kd.aZ (Kd.aZ (lc.out) (Kd.bM gU.out) (by decide)) (Kd.bM gV.out) (by decide)) (Kd.dw gY.out) (by decide)) (Kd.bM iZ.out) (by decide)) (Kd.bM jc.out) (by decide)).1 k_ hs_.symm).1.1.2) (fun hn_ => (Kd.jH (Kd.xM (rU gY.out)) k_ hn_)), Or.elim hk_.1 (fun hs_ => ((Kd.aZ (Kd.aZ (Kd.aZ (Kd.aZ (Kd.aZ (lc.out) (Kd.bM gU.out) (by decide)) (Kd.bM gV.out) (by decide)) (Kd.dw gY.out) (by decide)) (Kd.bM iZ.out) (by decide)) (Kd.bM jc.out) (by decide)).1 k_ hs_.symm).1.2) (fun hn_ => (Kd.jH (Kd.tq (nU iZ.out)) k_ hn_)), Or.elim hk_.1 (fun hs_ => ((Kd.aZ (Kd.aZ (Kd.aZ (Kd.aZ (Kd.aZ (lc.out) (Kd.bM gU.out) (by decide)) (Kd.bM gV.out) (by decide)) (Kd.dw gY.out) (by decide)) (Kd.bM iZ.out) (by decide)) (Kd.bM jc.out) (by decide)).1 k_ hs_.symm).2) (fun hn_ => (Kd.jH (Kd.tq (nU jc.out)) k_ hn_))⟩)) (ay (by exact HB.out))); replace gU := aa.mk (Kd.eP (Kd.lM (Kd.lM (Kd.yU (nU gU.out) hb) (Kd.ko ho0)) (Kd.ko ho1)) (fun _ h_ => h_.1)); replace gV := aa.mk (Kd.eP (Kd.lM (Kd.lM (Kd.yU (nU gV.out) hb) (Kd.ko ho0)) (Kd.ko ho1)) (fun _ h_ => h_.1)); replace gY := aa.mk (Kd.bZ (rU gY.out) hb); replace iZ := aa.mk (Kd.eP (Kd.lM (Kd.lM (Kd.yU (nU iZ.out) hb) (Kd.ko ho0)) (Kd.ko ho1)) (fun _ h_ => h_.1)); replace jc := aa.mk (Kd.eP (Kd.lM (Kd.lM (Kd.yU (nU jc.out) hb) (Kd.ko ho0)) (Kd.ko ho1)) (fun _ h_ => h_.1)); replace lc := aa.mk (Kd.bZ (rU lc.out) hb); replace HB := aa.mk (az (by exact HB.out) hb); clear hb; clear ho0; clear ho1; obtain ⟨LU, Lh, Ph⟩ := Kd.lv wW.out; subst Ph; obtain ⟨Wd, VF, V3⟩ := Kd.lv xU.out; subst V3) | ((with_reducible refine bC (f := 21) rfl ?_); refine ed (some 21) rfl rfl Try.func21 (by kernel_rfl) rfl #[.agg #[.slice LU OW.length Lh, .int .i64 PL, .int .i64 Qb, .int .i64 PS, .slice Wd Ot.length VF]] rfl (by (simp only [List.map_toArray, List.map_cons, List.map_nil]); rfl) ?_; (with_reducible refine (iB.calls _ _ OW PL Qb PS _ _ Ot JE JB _ ?side1 ?side2 ?side3 ?side4 A6.out).mono ?_); (case side1 => repeat (exact (Kd.jr wW.out).2.2)); (case side2 => exact (Kd.jr wW.out).2.1); (case side3 => repeat (exact (Kd.jr xU.out).2.2)); (case side4 => exact (Kd.jr xU.out).2.1); rintro e w27 ⟨rfl, hb⟩; refine ⟨_, rfl, ?_⟩; replace gU := aa.mk (Kd.iC (nU gU.out) hb); replace gV := aa.mk (Kd.iC (nU gV.out) hb); replace gY := aa.mk (Kd.bZ (rU gY.out) hb); replace iZ := aa.mk (Kd.iC (nU iZ.out) hb); replace jc := aa.mk (Kd.iC (nU jc.out) hb); replace lc := aa.mk (Kd.bZ (rU lc.out) hb); replace wW := aa.mk (Kd.iC (nU wW.out) hb); replace xU := aa.mk (Kd.iC (nU xU.out) hb); replace HB := aa.mk (az (by exact HB.out) hb); (clear hb)) | ((with_reducible refine bS (N := 44) rfl ?_); ((refine xe (by rfl) ?_; dsimp only)); refine Kd.uQ Kd.string _ 9 ?hg (N := 44) ?hd (xs := ([(⟨#[65]⟩ : ByteArray), (⟨#[65, 76]⟩ : ByteArray), (⟨#[84]⟩ : ByteArray)] : List ByteArray)) (inner := [.string (⟨#[65]⟩ : ByteArray), .string (⟨#[65, 76]⟩ : ByteArray), .string (⟨#[84]⟩ : ByteArray)]) (ok := fun _ => True) (okp := fun _ => True) ?hr ?hp (fun _ hk => hk) trivial (Below.refl _ _) (Nat.le_refl _) (by simp) ?_; (case hd => rfl); (case hg => rfl); (case hr => (go_simp; done)); (case hp => exact (dI.one (show Kd.M Kd.string _ _ _ (⟨#[65]⟩ : ByteArray) [.string (⟨#[65]⟩ : ByteArray)] from rfl) (dI.one (show Kd.M Kd.string _ _ _ (⟨#[65, 76]⟩ : ByteArray) [.string (⟨#[65, 76]⟩ : ByteArray)] from rfl) (dI.one (show Kd.M Kd.string _ _ _ (⟨#[84]⟩ : ByteArray) [.string (⟨#[84]⟩ : ByteArray)] from rfl) (dI.none _ _))))); intro YD w28 yE hb hg_ hnew_; clear hg_ hnew_; (rw [← QA.out] at yE); replace gU := aa.mk (Kd.gL (nU gU.out) (Kd.eO yE) hb); replace gV := aa.mk (Kd.gL (nU gV.out) (Kd.eO yE) hb); replace iZ := aa.mk (Kd.gL (nU iZ.out) (Kd.eO yE) hb); replace jc := aa.mk (Kd.gL (nU jc.out) (Kd.eO yE) hb); replace lc := aa.mk (Kd.bZ (rU lc.out) hb); replace wW := aa.mk (Kd.gL (nU wW.out) (Kd.eO yE) hb); replace xU := aa.mk (Kd.gL (nU xU.out) (Kd.eO yE) hb); have IB := aa.mk (Kd.eU (Kd.xL yE (Kd.xM (rU gY.out))) (ay (by exact HB.out))); replace gY := aa.mk (Kd.pR (rU gY.out) (Kd.eO yE) hb); replace HB := aa.mk (az (by exact HB.out) hb); clear hb yE; obtain ⟨YM, YT, Wt⟩ := Kd.dB gY.out; subst Wt; obtain ⟨Yz, YH, Wo⟩ := Kd.dB IB.out; subst Wo) | (go_at_call 42; (with_reducible refine (aT.calls k _ _ KF _ _ Rk Ai _ ?side1 ?side2 ?side3 ?side4 A12.out).mono ?_); (case side1 => repeat (exact (Kd.bF gY.out).2.2)); (case side2 => exact (Kd.bF gY.out).2.1); (case side3 => repeat (exact (Kd.bF IB.out).2.2)); (case side4 => exact (Kd.bF IB.out).2.1); rintro e w' ⟨rfl, ⟨nd, rfl⟩⟩))
      go_ret
      exact ⟨by simp [*, uE, um] <;> rfl, by exact lU HB.out⟩
     ·rw [if_neg c11] at H; exact absurd ((Option.some.inj H).trans hrT) (by decide)
    ·rw [if_neg c10] at H; exact absurd ((Option.some.inj H).trans hrT) (by decide)
   ·rw [if_neg c9] at H; exact absurd ((Option.some.inj H).trans hrT) (by decide)
  ·rw [if_neg c8] at H; exact absurd ((Option.some.inj H).trans hrT) (by decide)
 ·rw [if_neg c7] at H; exact absurd ((Option.some.inj H).trans hrT) (by decide)
end Go.Proofs.Ytihedeofkhapiaa.Pr
end
