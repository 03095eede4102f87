/- Part 33 of 36 of the proof of: SightLooks: for every line and slice of numbers, the law returns true: the program tells which letter would be best to be known, and how many letters may still fit then, as the reference does, with the same error, and changes nothing; no condition beyond the statement's own. -/
import Derived.RangeFuncBox
import Derived.Maps.AppendAt
import Derived.Maps.OwnIn
import Derived.Maps.RangeWalk
import Derived.Sort.KeysCollected
import Derived.Laws.MakeOwn
import Derived.Laws.OwnMore
import Derived.Sort.CutIn
import Derived.Sort.LoopGhostIn
import Derived.Deep.QuietTactic
import Derived.BigQuiet
import Derived.Deep.RegionHeld3
import Derived.Test.YtihedeofkhapiaaSO5
import Derived.Test.YtihedeofkhapiaaSO21
import Derived.Test.YtihedeofkhapiaaSO23
import Derived.Test.YtihedeofkhapiaaSO24
import Derived.Test.YtihedeofkhapiaaSO30
import Derived.Test.YtihedeofkhapiaaSO31
import Derived.Test.YtihedeofkhapiaaSO32
set_option linter.unusedVariables false
set_option linter.unusedSimpArgs false
section
namespace Go.Proofs.Ytihedeofkhapiaa.Pr
open Go.RowKit Go.Shelf Go.Proofs.YtihedeofkhapiaaW.PrintWords Go.Proofs.YtihedeofkhapiaaW.PrintLast Go.Proofs.YtihedeofkhapiaaW.PrintMore
attribute [local go_sem] Oper.semAt_some
def xf (gs gl a1 a2 a3 : Int) (l0 : List S66) (l4 : List (List S27)) (i x k : Nat) : Bool :=
 let m := dH a1 a2 l0 l4 x
 let st := eQ gs gl m (ah l0 (x : Int)).f1 l4.length
 tK gs gl i (ai (ah l0 (x : Int)).f1 (k : Int)) && decide (m.getD (i * 8 + k) 0 < 1048576) && decide (wrap64 (wrap64 (st.2 - st.1.getD i 0) + m.getD (i * 8 + k) 0) ≤ a3)
def mF (gs gl a1 a2 a3 : Int) (l0 : List S66) (l4 : List (List S27)) (i x : Nat) : Nat → Int → Bool
 | 0, _ => false
 | k + 1, c => mF gs gl a1 a2 a3 l0 l4 i x k c || (xf gs gl a1 a2 a3 l0 l4 i x k && (c == (ai (ah l0 (x : Int)).f1 (k : Int)).f0))
def gQ (gs gl a1 a2 a3 : Int) (l0 : List S66) (l4 : List (List S27)) (i : Nat) (pre : List (Fin l0.length)) (c : Int) : Bool :=
 pre.any fun x => mF gs gl a1 a2 a3 l0 l4 i x.1 (ah l0 (x.1 : Int)).f1.length c
def dz (gs gl a1 a2 a3 : Int) (l0 : List S66) (l4 : List (List S27)) (i : Nat) : List Int :=
 ((List.range 256).map Int.ofNat).filter (gQ gs gl a1 a2 a3 l0 l4 i (List.finRange l0.length))
def fu (gs gl a1 a2 a3 : Int) (l0 : List S66) (l4 : List (List S27)) : List (List Int) := (List.range l4.length).map (dz gs gl a1 a2 a3 l0 l4)
def dF.f (gu : Int) (aX : Int) (iW : List (S66)) (jN : Int) (jO : Int) (lS : Int) (fe : List (List (S27))) : Option ((List (List Int))) :=
 if eH iW jN jO lS fe = 0 then some (fu gu aX jN jO lS iW fe) else none
theorem Eo (gs gl a1 a2 a3 : Int) (l0 : List S66) (l4 : List (List S27)) : ∀ l ∈ fu gs gl a1 a2 a3 l0 l4, l.length ≤ 256 := fun l hl => by
 obtain ⟨i, _, rfl⟩ := List.mem_map.1 hl; exact Nat.le_trans (List.length_filter_le _ _) (by simp)
theorem wB : ∀ {p : Option Int} {l : List S86}, jb p l = 0 → ∀ s ∈ l, 65 ≤ s.f0 ∧ s.f0 ≤ 90
 | _, [], _, s, hs => by cases hs
 | p, s :: r, h, t, ht => by
  simp only [jb] at h; by_cases h1 : s.f0 < 65 ∨ s.f0 > 90
  ·rw [if_pos h1] at h; cases h
  ·rw [if_neg h1] at h; by_cases h2 : inP s.f1 1 1023 = true
   ·rw [if_pos h2] at h; by_cases h3 : ∃ q, p = some q ∧ s.f0 ≤ q
    ·rw [if_pos h3] at h; cases h
    ·rw [if_neg h3] at h; rcases List.mem_cons.1 ht with rfl | ht
     ·omega
     ·exact wB h t ht
   ·rw [if_neg h2] at h; cases h
theorem Gf {l0 : List S66} (h : ji l0 = 0) (x k : Nat) (hx : x < l0.length) (hk : k < (ah l0 (x : Int)).f1.length) : 65 ≤ (ai (ah l0 (x : Int)).f1 (k : Int)).f0 ∧ (ai (ah l0 (x : Int)).f1 (k : Int)).f0 ≤ 90 := by
 have h1 := EH h (ah l0 (x : Int)) (by rw [NR, List.getD_eq_getElem?_getD, List.getElem?_eq_getElem hx]; exact List.getElem_mem _); have h2 := (AF h1).2.2.2.2.2; refine wB h2 _ ?_; rw [Kg, List.getD_eq_getElem?_getD, List.getElem?_eq_getElem hk]; exact List.getElem_mem _
def pG (W : World) (b : Nat) (S : Int → Bool) (N : Nat) : Prop := ∃ (D : DataW Unit) (nn : Nat), W.ownsMap Try.prog 5 (plainElem Try.prog 4) b nn D ∧ nn ≤ N ∧ ∀ c, Maps.has D (.int .u8 c) = S c
theorem pG.kept {W W' : World} {b : Nat} {S : Int → Bool} {N : Nat} (h : pG W b S N) {row : Option Nat} (hg : W.grownBy W' row) (hb : row ≠ some b) : pG W' b S N := by
 obtain ⟨D, nn, h1, h2⟩ := h; exact ⟨D, nn, h1.kept hg (fun e => hb e.symm), h2⟩
theorem pG.lt {W : World} {b : Nat} {S : Int → Bool} {N : Nat} (h : pG W b S N) : b < W.heap.size := by
 obtain ⟨D, nn, h1, h2⟩ := h; exact h1.lt
theorem pG.below {W W' : World} {b : Nat} {S : Int → Bool} {N : Nat} (h : pG W b S N) (hb : Below W.heap.size W W') : pG W' b S N := h.kept (jq hb none) (by simp)
theorem pG.more {W : World} {b : Nat} {S : Int → Bool} {N N' : Nat} (h : pG W b S N) (hn : N ≤ N') : pG W b S N' := by
 obtain ⟨D, nn, h1, h2, h3⟩ := h; exact ⟨D, nn, h1, Nat.le_trans h2 hn, h3⟩
theorem pG.put {D : DataW Unit} {W : World} {b nn N : Nat} {S : Int → Bool} {c : Int} {D0 : DataW Unit} (h : W.ownsMap Try.prog 5 (plainElem Try.prog 4) b nn (D0.put (.int .u8 c) D)) (hD : Maps.IsMap D0) (hn : nn ≤ N) (hs : ∀ c, Maps.has D0 (.int .u8 c) = S c) : pG W b (fun x => S x || x == c) N := by
 refine ⟨_, nn, h, hn, fun x => ?_⟩; by_cases hx : x = c
 ·subst hx; rw [Maps.has_put_same (k := .int .u8 x) hD trivial]; simp
 ·rw [Maps.has_put_other (by simpa using hx), hs x]; simp [hx]
theorem pG.congr {W : World} {b N : Nat} {S S' : Int → Bool} (h : pG W b S N) (he : ∀ c, S c = S' c) : pG W b S' N := by
 obtain ⟨D, nn, h1, h2, h3⟩ := h; exact ⟨D, nn, h1, h2, fun c => (h3 c).trans (he c)⟩
def yf (S : Int → Bool) (left : Lit → Bool) (ss : List Int) : Prop := ss.Nodup ∧ (∀ x, x ∈ ss ↔ (S x = true ∧ left (.int .u8 x) = false)) ∧ ∀ x ∈ ss, 0 ≤ x ∧ x < 256
theorem wf_u8 {x : Int} : (Lit.int .u8 x).wf = true ↔ 0 ≤ x ∧ x < 256 := by
 have e1 : IntKind.u8.min = 0 := rfl; have e2 : IntKind.u8.max = 255 := rfl; simp only [Lit.wf, e1, e2]; simp; omega
theorem yf.start {D : DataW Unit} {S : Int → Bool} (h : ∀ c, Maps.has D (.int .u8 c) = S c) : yf S (Maps.has D) [] := ⟨List.nodup_nil, fun x => by rw [h x]; cases S x <;> simp, fun x hx => by cases hx⟩
theorem yf.step {S : Int → Bool} {left : Lit → Bool} {ss : List Int} (h : yf S left ss) {x : Int} (hl : left (.int .u8 x) = true) (hs : S x = true) (hw : 0 ≤ x ∧ x < 256) : yf S (fun z => left z && !z.sameKey (.int .u8 x)) (ss ++ [x]) := by
 (have hnew : x ∉ ss := fun hx => by have := ((h.2.1 x).1 hx).2; rw [hl] at this; cases this); refine ⟨List.nodup_append.2 ⟨h.1, by simp, fun a ha b hb => by simp at hb; subst hb; exact fun e => hnew (e ▸ ha)⟩, fun y => ?_, fun y hy => ?_⟩
 ·by_cases hy : y = x
  ·subst hy; simp [hs, Lit.sameKey]
  ·simp [h.2.1 y, hy, Lit.sameKey]
 ·rcases List.mem_append.1 hy with hy | hy
  ·exact h.2.2 y hy
  ·simp at hy; subst hy; exact hw
theorem yf.perm {gs gl a1 a2 a3 : Int} {l0 : List S66} {l4 : List (List S27)} {i : Nat} {left : Lit → Bool} {ss : List Int} (h : yf (gQ gs gl a1 a2 a3 l0 l4 i (List.finRange l0.length)) left ss) (hl : ∀ kl, left kl = false) : (dz gs gl a1 a2 a3 l0 l4 i).Perm ss := by
 have hnd : ((List.range 256).map Int.ofNat).Nodup := by
  refine List.pairwise_map.2 (List.nodup_range.imp fun hne e => hne ?_); exact Int.ofNat.inj e
 (refine (List.perm_ext_iff_of_nodup (hnd.filter _) h.1).2 fun x => ?_); rw [List.mem_filter, h.2.1 x]; constructor
 ·rintro ⟨_, h2⟩; exact ⟨h2, hl _⟩
 ·rintro ⟨h1, h2⟩; have := h.2.2 x ((h.2.1 x).2 ⟨h1, h2⟩); exact ⟨List.mem_map.2 ⟨x.toNat, by simp; omega, by simp; omega⟩, h1⟩
theorem D7 (gs gl a1 a2 a3 : Int) (l0 : List S66) (l4 : List (List S27)) (i : Nat) : (dz gs gl a1 a2 a3 l0 l4 i).Pairwise (· ≤ ·) := by
 refine List.Pairwise.filter _ (List.pairwise_map.2 (List.pairwise_le_range.imp fun h => ?_)); exact Int.ofNat_le.2 h
theorem RQ {key : Value} {kl : Lit} (h : keyOf Try.prog 5 key = some kl) : ∃ x : Int, key = .int .u8 x ∧ kl = .int .u8 x ∧ (Lit.int .u8 x).wf = true := Maps.keyOf_int_inv Try.underlying5 h
theorem XT {W : World} {g : Nat} {v : Int} (h : W.cell? ⟨g, 0, none⟩ = some (.int .u8 v)) : Kd.C (Kd.int .u8) W (some ⟨g, 0, none⟩) 1 [v] := by
 refine ⟨rfl, by simp, fun _ => ⟨_, rfl, fun j p hp => ?_⟩⟩
 cases j with
 | zero =>
  simp at hp; subst hp; refine ⟨[.int .u8 v], rfl, rfl, fun i u hu => ?_⟩
  cases i with
  | zero =>
   simp at hu; subst hu; exact h
  | succ i => simp at hu
 | succ j => simp at hp
theorem O1 (W : World) (n : Nat) (hn : n ≤ 1000) : (Instr.makeSlice 88 (.int .i64 (n : Int)) (.int .i64 (n : Int))).run Try.prog W = .ok (.slice (some ⟨W.heap.size, 0, none⟩) n n) (W.alloc (.cells (madeCells #[.int .u8 0] n) 5)) := by
 obtain ⟨i, h1, h2, h3, h4⟩ := info_parts (P := Try.prog) (e := 5) (z := .int .u8 0) (size := 1) (bytes := 1) (by kernel_rfl); have h := run_makeSlice (P := Try.prog) W 88 5 i (.int .u8 0) Try.underlying88 h1 h2 .i64 .i64 n n (by omega) (by omega) (by rw [h3]; omega) (by rw [h4]; omega) (by omega); rw [h3] at h; rw [show (Value.int .u8 0).cells = #[Value.int .u8 0] from rfl] at h
 simpa using h
theorem Yd (W : World) (n base : Nat) (hn : n ≤ 1000) (hb : base ≤ W.heap.size) : Kd.R (Kd.int .u8) 5 (W.alloc (.cells (madeCells #[.int .u8 0] n) 5)) base (fun k => k = W.heap.size) (.slice (some ⟨W.heap.size, 0, none⟩) n n) (List.replicate n 0) := by
 obtain ⟨i, h1, h2, h3, h4⟩ := info_parts (P := Try.prog) (e := 5) (z := .int .u8 0) (size := 1) (bytes := 1) (by kernel_rfl); obtain ⟨w', e1, e2, e3⟩ := run_makeSlice_full (P := Try.prog) (w := W) base 88 5 i (.int .u8 0) 1 Try.underlying88 h1 h2 h3 .i64 .i64 n (by omega) (by rw [h4]; omega) (by unfold maxLen; omega) hb; rw [O1 W n hn] at e1; injection e1 with _ e1; subst e1; refine Kd.vB (enc := Value.int .u8) ?_ (fun k hk => by simp [Value.ownBlock] at hk; exact hk.symm); rw [List.length_replicate]
 have : encs (Value.int .u8) (List.replicate n (0 : Int)) = (madeCells (Value.int IntKind.u8 0).cells (n * 1)).toList := by
  rw [show (Value.int IntKind.u8 0).cells = #[Value.int .u8 0] from rfl, Nat.mul_one]; apply List.ext_getElem?; intro j; simp only [encs, madeCells, List.map_replicate]; simp; by_cases hj : j < n
  ·simp [hj, Nat.mod_one]
  ·simp [hj]
 rw [this]; exact e2
theorem Gj {gs gl a1 a2 a3 : Int} {l0 : List S66} {l4 : List (List S27)} {i : Nat} (pre : List (Fin l0.length)) (x : Fin l0.length) (c : Int) : gQ gs gl a1 a2 a3 l0 l4 i (pre ++ [x]) c = (gQ gs gl a1 a2 a3 l0 l4 i pre c || mF gs gl a1 a2 a3 l0 l4 i x.1 (ah l0 (x.1 : Int)).f1.length c) := by
 simp [gQ, List.any_append]
theorem w64 (n : Int) : wrap64 n = IntKind.i64.wrap n := by
 simp only [IntKind.wrap, IntKind.bits, IntKind.signed, wrap64]; simp; split <;> omega
theorem SQ (W : World) (n : Nat) (hn : n ≤ 8) : (Instr.makeSlice 104 (.int .i64 (n : Int)) (.int .i64 (n : Int))).run Try.prog W = .ok (.slice (some ⟨W.heap.size, 0, none⟩) n n) (W.alloc (.cells (madeCells #[.slice none 0 0] n) 88)) := by
 obtain ⟨i, h1, h2, h3, h4⟩ := info_parts (P := Try.prog) (e := 88) (z := .slice none 0 0) (size := 1) (bytes := 24) (by kernel_rfl); have h := run_makeSlice (P := Try.prog) W 104 88 i (.slice none 0 0) Try.underlying104 h1 h2 .i64 .i64 n n (by omega) (by omega) (by rw [h3]; omega) (by rw [h4]; omega) (by omega); rw [h3] at h; rw [show (Value.slice none 0 0).cells = #[Value.slice none 0 0] from rfl] at h
 simpa using h
def xS (b : Nat) (ds : List Deferred) (W : World) : Prop := (∀ d ∈ ds, ∃ D, d = { target := .collected D, args := #[] } ∧ b ≤ D ∧ W.heap[D]? = some (.deferred (some []))) ∧ ds.Nodup
theorem yU {C : World → Prop} {b : Nat} (hC : ∀ (W : World) (D : Nat) (o : Obj), C W → b ≤ D → W.heap[D]? = some (.deferred (some [])) → C (W.putObj D o)) {F : Fence} {n : Nat} {P : Program} {fn : Func} {tmps : Array Value} {R : Ending → World → Prop}
 (hend : ∀ W, C W → LeavesIn F n P fn tmps R [] .returning W) : ∀ (ds : List Deferred) (W : World), xS b ds W → C W → LeavesInM F n P fn tmps R ds .returning W
 | [], W, _, h => hend W h
 | d :: ds, W, hm, h => by
  obtain ⟨D, rfl, hb, hD⟩ := hm.1 d (List.mem_cons_self); refine ⟨by simp, .inl ⟨_, _, rfl, run_takeDeferred hD, ?_⟩⟩; refine yU hC hend ds _ ⟨fun d' hd' => ?_, (List.nodup_cons.1 hm.2).2⟩ (hC _ _ _ h hb hD); obtain ⟨D', rfl, hb', hD'⟩ := hm.1 d' (List.mem_cons_of_mem _ hd'); refine ⟨D', rfl, hb', ?_⟩
  have hne : D ≠ D' := by
   rintro rfl; exact (List.nodup_cons.1 hm.2).1 hd'
  simp only [World.putObj]; rw [Array.getElem?_setIfInBounds_ne hne]; exact hD'
theorem xS.below {b : Nat} {ds : List Deferred} {W W1 : World} (h : xS b ds W) (hb : Below W.heap.size W W1) : xS b ds W1 :=
 ⟨fun d hd => by
  obtain ⟨D, e, h1, h2⟩ := h.1 d hd
  exact ⟨D, e, h1, (hb.block D (bW h2)).trans h2⟩, h.2⟩
structure oU (w1 : World) (i : Nat) (S : Int → Bool) (N : Nat) (W : World) : Prop where
 sq : W.heap[w1.heap.size]? = some (.cells #[.int .i64 (i : Int)] 3 (0, 0))
 mp : W.heap[w1.heap.size + 1 + 1]? = some (.cells #[.map (some (w1.heap.size + 1))] 128 (0, 0))
 set : pG W (w1.heap.size + 1) S N
 below : Below w1.heap.size w1 W
theorem oU.kept {w1 : World} {i : Nat} {S : Int → Bool} {N : Nat} {W W' : World} (h : oU w1 i S N W) {row : Option Nat} (hg : W.grownBy W' row) (hr : ∀ r, row = some r → w1.heap.size + 1 + 1 < r) : oU w1 i S N W' := by
 refine ⟨(hg.block _ (bW h.sq) ?_).trans h.sq, (hg.block _ (bW h.mp) ?_).trans h.mp, h.set.kept hg ?_, h.below.grown hg h.below.size (fun j hj => ?_)⟩
 ·intro e; have := hr _ e.symm; omega
 ·intro e; have := hr _ e.symm; omega
 ·intro e; have := hr _ e; omega
 ·have := hr j hj; omega
theorem oU.step {w1 : World} {i : Nat} {S : Int → Bool} {N : Nat} {W W' : World} (h : oU w1 i S N W) (hb : Below W.heap.size W W') : oU w1 i S N W' := h.kept (jq hb none) (by simp)
structure lK (w1 : World) (i : Nat) (S : Int → Bool) (N bo B0 Bx By : Nat) (m es : List Int) (W wr : World) : Prop where
 rnd : oU w1 i S N wr
 arr : ou wr Bx m
 eac : uT wr By es
 keeps : KeepsFrom B0 W wr
 kp : KpB w1.heap.size bo W wr
theorem lK.step {w1 : World} {i : Nat} {S : Int → Bool} {N bo B0 Bx By : Nat} {m es : List Int} {W wr wn : World} (h : lK w1 i S N bo B0 Bx By m es W wr) (hb : Below wr.heap.size wr wn) : lK w1 i S N bo B0 Bx By m es W wn := by
 have hs := h.rnd.below.size; exact ⟨h.rnd.step hb, h.arr.below hb, h.eac.below hb, h.keeps.trans ((kI hb).from _), h.kp.trans ⟨hb.mono hs, fun o ho _ => (hb.block _ (bW ho)).trans ho⟩⟩
theorem lK.congr {w1 : World} {i : Nat} {S S' : Int → Bool} {N bo B0 Bx By : Nat} {m es : List Int} {W wr : World} (h : lK w1 i S N bo B0 Bx By m es W wr) (he : ∀ c, S c = S' c) : lK w1 i S' N bo B0 Bx By m es W wr :=
 { h with rnd := { h.rnd with set := h.rnd.set.congr he } }
theorem lK.more {w1 : World} {i : Nat} {S : Int → Bool} {N N' bo B0 Bx By : Nat} {m es : List Int} {W wr : World} (h : lK w1 i S N bo B0 Bx By m es W wr) (hn : N ≤ N') : lK w1 i S N' bo B0 Bx By m es W wr :=
 { h with rnd := { h.rnd with set := h.rnd.set.more hn } }
theorem lK.turn {w1 : World} {i : Nat} {S S' : Int → Bool} {N N' bo B0 Bx By : Nat} {m es : List Int} {W wr wn : World} (h : lK w1 i S N bo B0 Bx By m es W wr) (hg : wr.grownBy wn (some (w1.heap.size + 1))) (hm : pG wn (w1.heap.size + 1) S' N')
 (hB : w1.heap.size + 1 < B0) (hbo : w1.heap.size + 1 < bo) (hx : w1.heap.size + 1 < Bx) (hy : w1.heap.size + 1 < By) : lK w1 i S' N' bo B0 Bx By m es W wn := by
 have hb : Below w1.heap.size w1 wn := h.rnd.below.grown hg h.rnd.below.size (fun j hj => by cases hj; omega)
 refine ⟨⟨(hg.block _ (bW h.rnd.sq) (by simp)).trans h.rnd.sq, (hg.block _ (bW h.rnd.mp) (by simp)).trans h.rnd.mp, hm, hb⟩, ⟨h.arr.1, (hg.block _ (bW h.arr.2) (by simp; omega)).trans h.arr.2⟩, ⟨h.eac.1, (hg.block _ (bW h.eac.2) (by simp; omega)).trans h.eac.2⟩,
  h.keeps.trans (KeepsFrom.of_grownBy hg (fun j hj => by cases hj; exact hB)), h.kp.trans ⟨?_, fun o ho _ => (hg.block _ (bW ho) (by simp; omega)).trans ho⟩⟩
 have := (Below.refl w1.heap.size wr).grown hg h.rnd.below.size (fun j hj => by cases hj; omega); exact this
theorem BB {F : Fence} {n : Nat} {P : Program} {c : Code} {Q : Exit → Act → World → Prop} {a : Act} {W : World} (R : World → Prop) (h : R W) (k : ∀ W', R W' → Code.wpIn F n P c Q a W') : Code.wpIn F n P c Q a W := k W h
structure rQ (w : World) (gs gl : Int) (A0 : Option Addr) (c0 : Nat) (l0 : List S66) (a1 a2 a3 : Int) (A4 : Option Addr) (c4 : Nat) (l4 : List (List S27)) (i : Nat) (ds : List Deferred) (W : World) : Prop where
 given : W.heap[w.heap.size]? = some (.cells #[.int .i64 gs, .int .u8 gl] 100 (0, 0))
 line : W.heap[w.heap.size + 1]? = some (.cells #[.slice A0 l0.length c0, .int .i64 a1, .int .i64 a2, .int .i64 a3, .slice A4 l4.length c4] 25 (0, 0))
 rows : ∃ (cs : Array Value) (fo : Nat → Nat), cs.size = l4.length ∧ W.heap[w.heap.size + 1 + 1]? = some (.cells cs 88 (0, 0)) ∧ (∀ u ∈ cs, u.oneCell' = true) ∧
  ∀ j, j < i → ∃ v, cs[j]? = some v ∧ Kd.R (Kd.int .u8) 5 W w.heap.size (fun k => fo k = j) v (dz gs gl a1 a2 a3 l0 l4 j)
 marks : xS w.heap.size ds W
 below : Below w.heap.size w W
theorem rQ.step {w : World} {gs gl : Int} {A0 : Option Addr} {c0 : Nat} {l0 : List S66} {a1 a2 a3 : Int} {A4 : Option Addr} {c4 : Nat} {l4 : List (List S27)} {i : Nat} {ds : List Deferred} {W W1 : World}
 (h : rQ w gs gl A0 c0 l0 a1 a2 a3 A4 c4 l4 i ds W) (hb : Below W.heap.size W W1) : rQ w gs gl A0 c0 l0 a1 a2 a3 A4 c4 l4 i ds W1 := by
 refine ⟨(hb.block _ (bW h.given)).trans h.given, (hb.block _ (bW h.line)).trans h.line, ?_, h.marks.below hb, gZ h.below h.below.size hb⟩; obtain ⟨cs, fo, h1, h2, h3, h4⟩ := h.rows; refine ⟨cs, fo, h1, (hb.block _ (bW h2)).trans h2, h3, fun j hj => ?_⟩; obtain ⟨v, e, hr⟩ := h4 j hj; exact ⟨v, e, Kd.eX hr hb⟩
def LD (Q : Exit → Act → World → Prop) : Exit → Act → World → Prop
 | .panic _, _, _ => False
 | e, a, w => Q e a w
theorem Nl {Q : Exit → Act → World → Prop} {a : Act} {w : World} (h : Q .normal a w) : LD Q .normal a w := h
theorem Kr {P : Program} {c : Code} {Q : Exit → Act → World → Prop} {a : Act} {w : World} (h : c.wp P (LD Q) a w) : c.wp P Q a w :=
 wp_mono h fun e a w h => by
  cases e with
  | panic ch => exact h.elim
  | normal => exact h
  | exit id => exact h
  | goto l => exact h
  | ret => exact h
  | outgrown => exact h
theorem rQ.next {w : World} {gs gl : Int} {A0 : Option Addr} {c0 : Nat} {l0 : List S66} {a1 a2 a3 : Int} {A4 : Option Addr} {c4 : Nat} {l4 : List (List S27)} {i : Nat} {ds : List Deferred} {w1 Wn : World} {v : Value} {D : Nat}
 (h : rQ w gs gl A0 c0 l0 a1 a2 a3 A4 c4 l4 i ds w1) (hi : i < l4.length) (hbelow : Below w.heap.size w Wn)
 (hbut : ∀ k, k < w1.heap.size → k ≠ w.heap.size + 1 + 1 → Wn.heap[k]? = w1.heap[k]?)
 (hout : ∀ cs, w1.heap[w.heap.size + 1 + 1]? = some (.cells cs 88 (0, 0)) → Wn.heap[w.heap.size + 1 + 1]? = some (.cells (cs.setIfInBounds i v) 88 (0, 0)))
 (hone : v.oneCell' = true) (hw1 : w.heap.size ≤ w1.heap.size) (hv : Kd.R (Kd.int .u8) 5 Wn w1.heap.size (fun _ => True) v (dz gs gl a1 a2 a3 l0 l4 i)) (hD : Wn.heap[D]? = some (.deferred (some []))) (hDw : w1.heap.size ≤ D) :
 rQ w gs gl A0 c0 l0 a1 a2 a3 A4 c4 l4 (i + 1) ({ target := .collected D, args := #[] } :: ds) Wn := by
 refine ⟨(hbut _ (bW h.given) (by omega)).trans h.given, (hbut _ (bW h.line) (by omega)).trans h.line, ?_, ⟨fun d hd => ?_, ?_⟩, hbelow⟩
 ·obtain ⟨cs, fo, h1, h2, h3, h4⟩ := h.rows; refine ⟨cs.setIfInBounds i v, fun k => if w1.heap.size ≤ k then i else fo k, by simpa using h1, hout cs h2, fun u hu => ?_, fun j hj => ?_⟩
  ·rw [Array.mem_iff_getElem] at hu; obtain ⟨k, hk, rfl⟩ := hu; rw [Array.getElem_setIfInBounds]
   ·split
    ·exact hone
    ·exact h3 _ (Array.getElem_mem (by simpa using hk))
   ·simpa using hk
  ·by_cases hji : j = i
   ·subst hji; refine ⟨v, by simp [h1, hi], ?_⟩; exact Kd.fH (Kd.cO (Kd.ku hv) (fun k hk => by simp [hk.2.1])) hw1
   ·obtain ⟨u, e, hr⟩ := h4 j (by omega); refine ⟨u, by rw [Array.getElem?_setIfInBounds_ne (fun e => hji e.symm)]; exact e, ?_⟩; have hr1 := Kd.ku (Kd.dX hr h2 (fun q hq => by simp [Kd.int, Kd.scalar] at hq; subst hq; decide))
    exact Kd.cO (Kd.uy hr1 (fun k hk => hbut k hk.2.2.1 hk.1.2)) (fun k hk => by
     have h5 := hk.2.2.1; show (if w1.heap.size ≤ k then i else fo k) = j; rw [if_neg (by omega)]
     exact hk.1.1)
 ·rcases List.mem_cons.1 hd with rfl | hd
  ·exact ⟨D, rfl, Nat.le_trans hw1 hDw, hD⟩
  ·obtain ⟨D', e, h1, h2⟩ := h.marks.1 d hd; refine ⟨D', e, h1, ?_⟩; rw [hbut D' (bW h2) ?_]
   ·exact h2
   ·rintro rfl; obtain ⟨cs, fo, _, h3, _⟩ := h.rows; rw [h3] at h2; cases h2
 ·refine List.nodup_cons.2 ⟨fun hd => ?_, h.marks.2⟩; obtain ⟨D', e, h1, h2⟩ := h.marks.1 _ hd; injection e with e _; injection e with e; subst e; have := bW h2; omega
theorem rQ.all {w : World} {gs gl : Int} {A0 : Option Addr} {c0 : Nat} {l0 : List S66} {a1 a2 a3 : Int} {A4 : Option Addr} {c4 : Nat} {l4 : List (List S27)} {ds : List Deferred} {W : World}
 (h : rQ w gs gl A0 c0 l0 a1 a2 a3 A4 c4 l4 l4.length ds W) (h8 : l4.length ≤ 8) : Kd.S (Kd.slice 5 (Kd.int .u8)) 88 W w.heap.size (fun _ => True) (.slice (some ⟨w.heap.size + 1 + 1, 0, none⟩) l4.length l4.length) (fu gs gl a1 a2 a3 l0 l4) := by
 obtain ⟨cs, fo, h1, h2, h3, h4⟩ := h.rows; have hlen : (fu gs gl a1 a2 a3 l0 l4).length = l4.length := by simp [fu]
 obtain ⟨f, hr⟩ := Kd.Sd (d := Kd.slice 5 (Kd.int .u8)) (w := W) (base := w.heap.size) (ok := fun k => True ∧ some k ≠ (Value.slice (some ⟨w.heap.size + 1 + 1, 0, none⟩) l4.length l4.length).ownBlock) (xs := fu gs gl a1 a2 a3 l0 l4) (inner := cs.toList)
  (fun j k => fo k = j ∧ k ≠ w.heap.size + 1 + 1) (fun i j k e1 e2 => e1.1.symm.trans e2.1) (fun j k e => ⟨trivial, by simp [Value.ownBlock]; exact e.2⟩) (by rw [hlen]; simp [Kd.slice, h1]) (fun j x hx => by
    have hj : j < l4.length := by
     rw [← hlen]; exact (List.getElem?_eq_some_iff.1 hx).1
    obtain ⟨v, e, hv⟩ := h4 j hj
    have hx' : x = dz gs gl a1 a2 a3 l0 l4 j := by
     simp [fu, hj] at hx; exact hx.symm
    subst hx'; refine ⟨v, ?_, Kd.dX hv h2 (fun q hq => by simp [Kd.int, Kd.scalar] at hq; subst hq; decide)⟩; show (cs.toList.drop (j * 1)).take 1 = [v]; (have e' : cs.toList[j]? = some v := by simpa using e); rw [Nat.mul_one]; obtain ⟨hj2, hj3⟩ := List.getElem?_eq_some_iff.1 e'; rw [List.drop_eq_getElem_cons hj2, hj3]
    rfl)
 refine ⟨f, fun _ _ => trivial, cs.toList, ?_, hr⟩; rw [List.length_zipIdx, hlen]; refine ⟨by simp [Kd.tag, Kd.slice, h1], .inr ⟨w.heap.size + 1 + 1, l4.length, cs, rfl, by omega, h2, Nat.le_refl _, by unfold maxLen; omega, by simp [Kd.tag, Kd.slice, h1], ?_⟩⟩; refine List.take_of_length_le ?_; simp [Kd.tag, Kd.slice, h1]
theorem Qc {α : Type} {d : Kd α} {e : Nat} {W : World} {base : Nat} {ok : Nat → Prop} {v : Value} {xs : List α} (h : Kd.S d e W base ok v xs) {l : Nat} {o o' : Obj} (hl : W.heap[l]? = some o) (ho : o.isCells = false) : Kd.S d e (W.putObj l o') base ok v xs := by
 obtain ⟨f, h⟩ := h; exact ⟨f, Io h hl ho⟩
end Go.Proofs.Ytihedeofkhapiaa.Pr
end
section
namespace Go.Proofs.Ytihedeofkhapiaa.Pr
open Go.RowKit Go.Proofs.YtihedeofkhapiaaW.PrintWords Go.Proofs.YtihedeofkhapiaaW.PrintLast Go.Proofs.YtihedeofkhapiaaW.PrintMore
theorem ZN {gs gl a1 a2 a3 : Int} {l0 : List S66} {l4 : List (List S27)} {i x : Nat} {k : Nat} (hh : xf gs gl a1 a2 a3 l0 l4 i x k = true) : ∀ K, k < K → mF gs gl a1 a2 a3 l0 l4 i x K (ai (ah l0 (x : Int)).f1 (k : Int)).f0 = true := by
 intro K
 induction K with
 | zero => intro h; omega
 | succ K ih =>
  intro h; rw [mF]; by_cases he : k = K
  ·subst he; rw [hh]; simp
  ·rw [ih (by omega)]; simp
def Sm5 (q : List S27) : Prop := ∀ x ∈ q, ∃ a b : Nat, a < 32 ∧ b < 32 ∧ x = ⟨(a : Int), (b : Int)⟩
theorem Ep.sm {v : Nat} {q : List S27} (h : ∀ x ∈ q, Ep v x) : Sm5 q := fun x hx => by
 obtain ⟨a, ha, rfl⟩ := h x hx; exact ⟨a, v &&& a, ha, Nat.lt_of_le_of_lt Nat.and_le_right ha, rfl⟩
theorem KP {q : List S27} (h : Sm5 q) : ∃ g v : Nat, g < 32 ∧ v < 32 ∧ xy q = ((g : Int), (v : Int)) := by
 have key : ∀ (r : List S27) (a b : Nat), a < 32 → b < 32 → Sm5 r → ∃ g v : Nat, g < 32 ∧ v < 32 ∧ r.foldl seenStep ((a : Int), (b : Int)) = ((g : Int), (v : Int)) := by
  intro r
  induction r with
  | nil => exact fun a b ha hb _ => ⟨a, b, ha, hb, rfl⟩
  | cons x r ih =>
   intro a b ha hb hx; obtain ⟨c, d, hc, hd, rfl⟩ := hx x List.mem_cons_self
   have e : seenStep ((a : Int), (b : Int)) ⟨(c : Int), (d : Int)⟩ = (((a ||| c : Nat) : Int), ((b ||| d : Nat) : Int)) := by
    simp only [seenStep]; rw [acw ⟨a, ha⟩ ⟨c, hc⟩, acw ⟨b, hb⟩ ⟨d, hd⟩]
   rw [List.foldl_cons, e]; exact ih _ _ (Xe ⟨a, ha⟩ ⟨c, hc⟩) (Xe ⟨b, hb⟩ ⟨d, hd⟩) (fun y hy => hx y (List.mem_cons_of_mem _ hy))
 exact key q 0 0 (by omega) (by omega) h
theorem Nq (c : Prop) [Decidable c] (m n : Nat) (hm : m ≤ 5) (hn : n ≤ 5) : 0 ≤ (if c then wrap64 ((m : Int) + (n : Int)) else jJ) ∧ (if c then wrap64 ((m : Int) + (n : Int)) else jJ) ≤ 1048576 := by
 split
 ·rw [eT (by omega) (by omega)]; omega
 ·exact ⟨by decide, by decide⟩
theorem KT (W S : Int) {q : List S27} (hq : Sm5 q) {s : S86} (h0 : 0 ≤ s.f1) (h1 : s.f1 ≤ 31) : 0 ≤ cellP W S (fD q) s ∧ cellP W S (fD q) s ≤ 1048576 := by
 obtain ⟨g, v, hg, hv, hA⟩ := KP hq; obtain ⟨z, hz⟩ := Int.eq_ofNat_of_zero_le h0; (have hz32 : z < 32 := by omega); have b1 : z &&& g < 32 := Nat.lt_of_le_of_lt Nat.and_le_left hz32; have b3 : (z &&& g) &&& (31 ^^^ v) < 32 := Nat.lt_of_le_of_lt Nat.and_le_left b1; have b4 : v &&& (31 ^^^ z) < 32 := Nat.lt_of_le_of_lt Nat.and_le_left hv; have p1 : pop ((z &&& g) &&& (31 ^^^ v)) ≤ 5 := Pv ⟨_, b3⟩; have p2 : pop (v &&& (31 ^^^ z)) ≤ 5 := Pv ⟨_, b4⟩
 have e1 : nH (gp (Go.bits .and .i64 s.f1 (g : Int)) (v : Int)) = (pop ((z &&& g) &&& (31 ^^^ v)) : Int) := by
  rw [hz, Pk ⟨z, hz32⟩ ⟨g, hg⟩, XG ⟨z &&& g, b1⟩ ⟨v, hv⟩, Qn ⟨_, b3⟩]
 have e2 : nH (gp (v : Int) s.f1) = (pop (v &&& (31 ^^^ z)) : Int) := by
  rw [hz, XG ⟨v, hv⟩ ⟨z, hz32⟩, Qn ⟨_, b4⟩]
 have hc : cellP W S (fD q) s = if (fD q).2.2 = true ∧ nH (gp (Go.bits .and .i64 s.f1 (g : Int)) (v : Int)) ≤ W ∧ nH (gp (v : Int) s.f1) ≤ S then wrap64 (nH (gp (Go.bits .and .i64 s.f1 (g : Int)) (v : Int)) + nH (gp (v : Int) s.f1)) else jJ := by
  (have h1 : (fD q).1 = (g : Int) := by rw [fD, hA]); (have h2 : (fD q).2.1 = (v : Int) := by rw [fD, hA]); rw [cellP, h1, h2]
 rw [hc, e1, e2]; exact Nq _ _ _ p1 p2
def nk (W S : Int) (q : Int × Int × Bool) (sh : List S86) : Nat → Int
 | 0 => jJ
 | k + 1 => mn (nk W S q sh k) (cellP W S q (ai sh (k : Int)))
def yF (W S : Int) (sh : List S86) (q : List S27) : Int := nk W S (fD q) sh sh.length
def pI (sh : List S86) : Prop := Asc sh ∧ sh.length ≤ 8
def rO (sq : List (List S27)) : Prop := sq.length ≤ 8 ∧ ∀ q ∈ sq, Sm5 q
theorem Bt (i : Nat) (s : S86) : tK (-1) 0 (i : Int) s = true := by rw [tK, if_neg (by omega)]
theorem zL (W S : Int) {sh : List S86} (hsh : pI sh) {q : List S27} (hq : Sm5 q) {k : Nat} (hk : k < sh.length) : 0 ≤ cellP W S (fD q) (ai sh (k : Int)) ∧ cellP W S (fD q) (ai sh (k : Int)) ≤ 1048576 := by
 have hmem : ai sh (k : Int) ∈ sh := by
  rw [Kg, List.getD_eq_getElem?_getD, List.getElem?_eq_getElem hk]; exact List.getElem_mem _
 have := hsh.1.1 _ hmem; exact KT W S hq (by omega) (by omega)
theorem Al (W S : Int) {sh : List S86} (hsh : pI sh) {q : List S27} (hq : Sm5 q) : ∀ K, K ≤ sh.length → 0 ≤ nk W S (fD q) sh K ∧ nk W S (fD q) sh K ≤ 1048576
 | 0, _ => ⟨by simp [nk, jJ], by simp [nk, jJ]⟩
 | K + 1, h => by
  have h1 := Al W S hsh hq K (by omega); have h2 := zL W S hsh hq (k := K) (by omega); rw [nk]; unfold mn; split <;> omega
theorem Aq (W S : Int) {sh : List S86} (hsh : pI sh) {q : List S27} (hq : Sm5 q) : 0 ≤ yF W S sh q ∧ yF W S sh q ≤ 1048576 := Al W S hsh hq _ (Nat.le_refl _)
theorem Be (W S : Int) (q : Int × Int × Bool) (sh : List S86) : ∀ K k, k < K → nk W S q sh K ≤ cellP W S q (ai sh (k : Int))
 | 0, _, h => by omega
 | K + 1, k, h => by
  rw [nk]; unfold mn; by_cases he : k = K
  ·subst he; split <;> omega
  ·have := Be W S q sh K k (by omega); split <;> omega
theorem Qi (W S : Int) (q : Int × Int × Bool) (sh : List S86) : ∀ K, nk W S q sh K = 1048576 ∨ ∃ k, k < K ∧ nk W S q sh K = cellP W S q (ai sh (k : Int))
 | 0 => .inl rfl
 | K + 1 => by
  rw [nk]; unfold mn; split
  ·exact .inr ⟨K, by omega, rfl⟩
  ·rcases Qi W S q sh K with h | ⟨k, hk, h⟩
   ·exact .inl h
   ·exact .inr ⟨k, by omega, h⟩
theorem vJ (W S : Int) (sq : List (List S27)) (hn : sq.length ≤ 8) (sh : List S86) (hsh : sh.length ≤ 8) (i : Nat) (hi : i < sq.length) : ∀ K, K ≤ sh.length → eO (-1) 0 (dI W S sq sh sq.length) i sh K = nk W S (fD (cu sq (i : Int))) sh K := by
 intro K
 induction K with
 | zero => intro _; rfl
 | succ K ih =>
  intro h; rw [eO, if_pos (Bt _ _), ih (by omega), nk, lM W S sq sh hsh sq.length hn i K hi (by omega)]
theorem sN (sq : List (List S27)) (i : Nat) (hi : i < sq.length) : cu sq (i : Int) = sq[i] := by
 rw [ZG, List.getD_eq_getElem?_getD, List.getElem?_eq_getElem hi]; rfl
theorem uG {f g : Nat → Int} : ∀ n, (∀ i, i < n → f i = g i) → gL f n = gL g n
 | 0, _ => rfl
 | n + 1, h => by simp only [gL]; rw [uG n (fun i hi => h i (by omega)), h n (by omega)]
theorem zW (W S : Int) {sq : List (List S27)} (hq : rO sq) {sh : List S86} (hsh : pI sh) :
 (eQ (-1) 0 (dI W S sq sh sq.length) sh sq.length).2 = (sq.map (yF W S sh)).sum ∧ ∀ i (h : i < sq.length), (eQ (-1) 0 (dI W S sq sh sq.length) sh sq.length).1.getD i 0 = yF W S sh sq[i] := by
 have hnn : ∀ i k, i < sq.length → k < sh.length → 0 ≤ (dI W S sq sh sq.length).getD (i * 8 + k) 0 := fun i k hi hk => by
  rw [lM W S sq sh hsh.2 sq.length hq.1 i k hi hk, sN sq i hi]; exact (zL W S hsh (hq.2 _ (List.getElem_mem _)) hk).1
 obtain ⟨e1, e2⟩ := MF (dI W S sq sh sq.length) sh sq.length hq.1 hnn
 have hE : ∀ i (h : i < sq.length), eO (-1) 0 (dI W S sq sh sq.length) i sh sh.length = yF W S sh sq[i] := fun i h => by
  rw [vJ W S sq hq.1 sh hsh.2 i h _ (Nat.le_refl _), sN sq i h]; rfl
 refine ⟨?_, fun i h => by rw [e2 i h, hE i h]⟩; rw [e1, ← Ph, List.length_map]; refine uG _ (fun i h => ?_); rw [hE i h, List.getD_eq_getElem?_getD, List.getElem?_map, List.getElem?_eq_getElem h]; rfl
def El (W S : Int) (sq : List (List S27)) (sh : List S86) : Int := (sq.map (yF W S sh)).sum
theorem yG (W S : Int) (hs : List S66) {sq : List (List S27)} (hq : rO sq) (x : Nat) (hsh : pI (ah hs (x : Int)).f1) : kK hs W S sq x = El W S sq (ah hs (x : Int)).f1 := (zW W S hq hsh).1
theorem CY (f : List S27 → Int) : ∀ l : List (List S27), (∀ q ∈ l, 0 ≤ f q ∧ f q ≤ 1048576) → 0 ≤ (l.map f).sum ∧ (l.map f).sum ≤ 1048576 * l.length
 | [], _ => by simp
 | q :: r, h => by
  have h1 := CY f r (fun y hy => h y (List.mem_cons_of_mem _ hy)); have h2 := h q List.mem_cons_self; rw [List.map_cons, List.sum_cons, List.length_cons]; push_cast; omega
theorem JG (W S : Int) {sq : List (List S27)} (hq : rO sq) {sh : List S86} (hsh : pI sh) : 0 ≤ El W S sq sh ∧ El W S sq sh ≤ 8388608 := by
 have h := CY (yF W S sh) sq (fun q hm => Aq W S hsh (hq.2 q hm)); have := hq.1; unfold El; omega
def aa3 (W S t : Int) (sq : List (List S27)) (q : List S27) (sh : List S86) (s : S86) : Prop := cellP W S (fD q) s < 1048576 ∧ El W S sq sh - yF W S sh q + cellP W S (fD q) s ≤ t
theorem Dy (W S t : Int) (hs : List S66) {sq : List (List S27)} (hq : rO sq) (x : Nat) (hsh : pI (ah hs (x : Int)).f1) (i : Nat) (hi : i < sq.length) (k : Nat) (hk : k < (ah hs (x : Int)).f1.length) :
 xf (-1) 0 W S t hs sq i x k = true ↔ aa3 W S t sq sq[i] (ah hs (x : Int)).f1 (ai (ah hs (x : Int)).f1 (k : Int)) := by
 obtain ⟨e1, e2⟩ := zW W S hq hsh; have h1 := JG W S hq hsh; have h2 := Aq W S hsh (hq.2 _ (List.getElem_mem hi)); have h3 := zL W S hsh (hq.2 _ (List.getElem_mem hi)) hk; have e3 := lM W S sq (ah hs (x : Int)).f1 hsh.2 sq.length hq.1 i k hi hk; rw [sN sq i hi] at e3; unfold El at h1; have hu : xf (-1) 0 W S t hs sq i x k = (tK (-1) 0 (i : Int) (ai (ah hs (x : Int)).f1 (k : Int)) && decide ((dI W S sq (ah hs (x : Int)).f1 sq.length).getD (i * 8 + k) 0 < 1048576) && decide (wrap64 (wrap64 ((eQ (-1) 0 (dI W S sq (ah hs (x : Int)).f1 sq.length) (ah hs (x : Int)).f1 sq.length).2 - (eQ (-1) 0 (dI W S sq (ah hs (x : Int)).f1 sq.length) (ah hs (x : Int)).f1 sq.length).1.getD i 0) + (dI W S sq (ah hs (x : Int)).f1 sq.length).getD (i * 8 + k) 0) ≤ t)) := rfl; rw [hu, Bt, e1, e2 i hi, e3, eT (x := _ - _) (by omega) (by omega), eT (by omega) (by omega)]; simp only [Bool.true_and, Bool.and_eq_true, decide_eq_true_eq]; exact Iff.rfl
theorem xE {gs gl a1 a2 a3 : Int} {l0 : List S66} {l4 : List (List S27)} {i x : Nat} (c : Int) : ∀ K, mF gs gl a1 a2 a3 l0 l4 i x K c = true ↔ ∃ k, k < K ∧ xf gs gl a1 a2 a3 l0 l4 i x k = true ∧ c = (ai (ah l0 (x : Int)).f1 (k : Int)).f0
 | 0 => by simp [mF]
 | K + 1 => by
  rw [mF, Bool.or_eq_true, xE c K, Bool.and_eq_true, beq_iff_eq]; constructor
  ·rintro (⟨k, hk, h⟩ | h)
   ·exact ⟨k, by omega, h⟩
   ·exact ⟨K, by omega, h⟩
  ·rintro ⟨k, hk, h⟩; by_cases he : k = K
   ·subst he; exact .inr h
   ·exact .inl ⟨k, by omega, h⟩
def fitsAt (W S t : Int) (hs : List S66) (sq : List (List S27)) (q : List S27) (c : Int) : Prop := ∃ h ∈ hs, ∃ s ∈ h.f1, s.f0 = c ∧ aa3 W S t sq q h.f1 s
theorem lg (hs : List S66) (x : Nat) (hx : x < hs.length) : ah hs (x : Int) = hs[x] := by
 rw [NR, List.getD_eq_getElem?_getD, List.getElem?_eq_getElem hx]; rfl
theorem jf (sh : List S86) (k : Nat) (hk : k < sh.length) : ai sh (k : Int) = sh[k] := by
 rw [Kg, List.getD_eq_getElem?_getD, List.getElem?_eq_getElem hk]; rfl
theorem uF (W S t : Int) {hs : List S66} (hh : ∀ h ∈ hs, pI h.f1) {sq : List (List S27)} (hq : rO sq) (i : Nat) (hi : i < sq.length) (c : Int) :
 gQ (-1) 0 W S t hs sq i (List.finRange hs.length) c = true ↔ fitsAt W S t hs sq sq[i] c := by
 rw [gQ, List.any_eq_true]; constructor
 ·rintro ⟨x, _, hx⟩; obtain ⟨k, hk, h1, h2⟩ := (xE c _).1 hx; have e := lg hs x.1 x.2; have hf := hh _ (List.getElem_mem x.2); rw [← e] at hf; have h3 := (Dy W S t hs hq x.1 hf i hi k hk).1 h1; refine ⟨hs[x.1]'x.2, List.getElem_mem _, ?_⟩; rw [← e]; rw [jf _ k hk] at h2 h3; exact ⟨_, List.getElem_mem hk, h2.symm, h3⟩
 ·rintro ⟨h, hm, s, hs', h1, h2⟩; obtain ⟨x, hx, rfl⟩ := List.getElem_of_mem hm; obtain ⟨k, hk, rfl⟩ := List.getElem_of_mem hs'; refine ⟨⟨x, hx⟩, List.mem_finRange _, ?_⟩; have e := lg hs x hx; have hf := hh _ (List.getElem_mem hx); rw [← e] at hf; (have hk' : k < (ah hs (x : Int)).f1.length := by rw [e]; exact hk); (have e' : ai (ah hs (x : Int)).f1 (k : Int) = (hs[x].f1)[k] := by rw [e, jf _ k hk]); refine (xE c _).2 ⟨k, hk', (Dy W S t hs hq x hf i hi k hk').2 ?_, ?_⟩
  ·rw [e', e]; exact h2
  ·rw [e']; exact h1.symm
theorem Ow (W S t : Int) {hs : List S66} (hh : ∀ h ∈ hs, pI h.f1) {sq : List (List S27)} (hq : rO sq) (i : Nat) (hi : i < sq.length) (c : Int) :
 c ∈ dz (-1) 0 W S t hs sq i ↔ fitsAt W S t hs sq sq[i] c := by
 rw [dz, List.mem_filter, uF W S t hh hq i hi c]; refine ⟨fun h => h.2, fun h => ⟨?_, h⟩⟩; obtain ⟨h', hm, s, hs', h1, _⟩ := h; have := (hh h' hm).1.1 s hs'; refine List.mem_map.2 ⟨c.toNat, List.mem_range.2 (by omega), ?_⟩; simp only [Int.ofNat_eq_natCast]; omega
theorem XK {W S t W' S' t' : Int} {hs hs' : List S66} (hh : ∀ h ∈ hs, pI h.f1) (hh' : ∀ h ∈ hs', pI h.f1) {sq sq' : List (List S27)} (hq : rO sq) (hq' : rO sq') {i j : Nat} (hi : i < sq.length) (hj : j < sq'.length)
 (h : ∀ c, fitsAt W S t hs sq sq[i] c ↔ fitsAt W' S' t' hs' sq' sq'[j] c) : dz (-1) 0 W S t hs sq i = dz (-1) 0 W' S' t' hs' sq' j := by
 unfold dz; refine List.filter_congr (fun c _ => ?_); rw [Bool.eq_iff_iff, uF W S t hh hq i hi c, uF W' S' t' hh' hq' j hj c]; exact h c
theorem Yn (W S t : Int) {hs : List S66} (hh : ∀ h ∈ hs, pI h.f1) {sq : List (List S27)} (hq : rO sq) (n : Int) :
 n ∈ mM hs W S t sq (List.finRange hs.length) ↔ ∃ x, ∃ h : x < hs.length, n = (x : Int) ∧ El W S sq hs[x].f1 ≤ t := by
 have key : ∀ x (h : x < hs.length), kK hs W S sq x = El W S sq hs[x].f1 := fun x h => by
  have e := lg hs x h; have hf := hh _ (List.getElem_mem h); rw [← e] at hf; rw [yG W S hs hq x hf, e]
 rw [mM, List.mem_map]; constructor
 ·rintro ⟨x, hx, rfl⟩; refine ⟨x.1, x.2, rfl, ?_⟩; rw [← key x.1 x.2]; exact of_decide_eq_true (List.mem_filter.1 hx).2
 ·rintro ⟨x, h, rfl, h1⟩; refine ⟨⟨x, h⟩, List.mem_filter.2 ⟨List.mem_finRange _, decide_eq_true ?_⟩, rfl⟩; simp only []; rw [key x h]; exact h1
theorem Ac {α : Type} (t : α → Int) (T : Int) : ∀ (l : List α) (b : Int), l.foldl (fun b x => mn b (t x)) b ≤ T ↔ b ≤ T ∨ ∃ x ∈ l, t x ≤ T
 | [], b => by simp
 | x :: r, b => by
  rw [List.foldl_cons, Ac t T r]; (have hm : mn b (t x) ≤ T ↔ b ≤ T ∨ t x ≤ T := by unfold mn; split <;> omega); rw [hm]; simp only [List.mem_cons, exists_eq_or_imp, or_assoc]
theorem WT (W S : Int) {hs : List S66} (hh : ∀ h ∈ hs, pI h.f1) {sq : List (List S27)} (hq : rO sq) (T : Int) :
 oW hs W S sq (List.finRange hs.length) ≤ T ↔ 1048576 ≤ T ∨ ∃ h ∈ hs, El W S sq h.f1 ≤ T := by
 have key : ∀ x (h : x < hs.length), kK hs W S sq x = El W S sq hs[x].f1 := fun x h => by
  have e := lg hs x h; have hf := hh _ (List.getElem_mem h); rw [← e] at hf; rw [yG W S hs hq x hf, e]
 rw [oW, Ac]; refine or_congr Iff.rfl ⟨?_, ?_⟩
 ·rintro ⟨x, _, h⟩; exact ⟨_, List.getElem_mem x.2, by rw [← key x.1 x.2]; exact h⟩
 ·rintro ⟨h, hm, h1⟩; obtain ⟨x, hx, rfl⟩ := List.getElem_of_mem hm; exact ⟨⟨x, hx⟩, List.mem_finRange _, by rw [key x hx]; exact h1⟩
set_option maxRecDepth 100000
theorem wrapN {n : Nat} (h : n < 1024) : IntKind.i64.wrap (n : Int) = (n : Int) := wrap_small (by omega)
theorem bvN {n : Nat} (h : n < 1024) : (BitVec.ofInt IntKind.i64.bits (n : Int)).toNat = n := by
 show (BitVec.ofInt 64 (n : Int)).toNat = n; rw [BitVec.ofInt_natCast, BitVec.toNat_ofNat]; exact Nat.mod_eq_of_lt (by omega)
theorem yB {a b : Nat} (ha : a < 1024) : a &&& b < 1024 := Nat.lt_of_le_of_lt Nat.and_le_left ha
theorem CR {a b : Nat} (ha : a < 1024) (hb : b < 1024) : a ||| b < 1024 := Nat.or_lt_two_pow (n := 10) ha hb
theorem Fh {a b : Nat} (ha : a < 1024) (hb : b < 1024) : a ^^^ b < 1024 := Nat.xor_lt_two_pow (n := 10) ha hb
theorem uH {a b : Nat} (ha : a < 1024) (hb : b < 1024) : Go.bits .and .i64 (a : Int) (b : Int) = ((a &&& b : Nat) : Int) := by
 show IntKind.i64.wrap (((BitVec.ofInt IntKind.i64.bits (a : Int)) &&& (BitVec.ofInt IntKind.i64.bits (b : Int))).toNat : Int) = _; rw [BitVec.toNat_and, bvN ha, bvN hb, wrapN (yB ha)]
theorem zJ {a b : Nat} (ha : a < 1024) (hb : b < 1024) : Go.bits .or .i64 (a : Int) (b : Int) = ((a ||| b : Nat) : Int) := by
 show IntKind.i64.wrap (((BitVec.ofInt IntKind.i64.bits (a : Int)) ||| (BitVec.ofInt IntKind.i64.bits (b : Int))).toNat : Int) = _; rw [BitVec.toNat_or, bvN ha, bvN hb, wrapN (CR ha hb)]
theorem MG {a b : Nat} (ha : a < 1024) (hb : b < 1024) : Go.bits .xor .i64 (a : Int) (b : Int) = ((a ^^^ b : Nat) : Int) := by
 show IntKind.i64.wrap (((BitVec.ofInt IntKind.i64.bits (a : Int)) ^^^ (BitVec.ofInt IntKind.i64.bits (b : Int))).toNat : Int) = _; rw [BitVec.toNat_xor, bvN ha, bvN hb, wrapN (Fh ha hb)]
theorem xP {a b : Nat} (ha : a < 1024) (hb : b < 1024) : ∃ c : Nat, c < 1024 ∧ gp (a : Int) (b : Int) = (c : Int) ∧ (c = 0 → a &&& b = a) := by
 have h : (((BitVec.ofInt IntKind.i64.bits (a : Int)) &&& ~~~(BitVec.ofInt IntKind.i64.bits (b : Int))).toNat) ≤ a := by
  rw [BitVec.toNat_and, bvN ha]; exact Nat.and_le_left
 refine ⟨_, Nat.lt_of_le_of_lt h ha, ?_, fun hz => ?_⟩
 ·show IntKind.i64.wrap (((BitVec.ofInt IntKind.i64.bits (a : Int)) &&& ~~~(BitVec.ofInt IntKind.i64.bits (b : Int))).toNat : Int) = _; rw [wrapN (Nat.lt_of_le_of_lt h ha)]
 ·have hz' : (BitVec.ofInt IntKind.i64.bits (a : Int)) &&& ~~~(BitVec.ofInt IntKind.i64.bits (b : Int)) = 0#_ := BitVec.eq_of_toNat_eq (by rw [hz]; rfl)
  have h2 : (BitVec.ofInt IntKind.i64.bits (a : Int)) &&& (BitVec.ofInt IntKind.i64.bits (b : Int)) = BitVec.ofInt IntKind.i64.bits (a : Int) := by
   ext i hi; have := congrArg (fun x : BitVec IntKind.i64.bits => x[i]) hz'; simp only [BitVec.getElem_and, BitVec.getElem_not, BitVec.getElem_zero] at this ⊢
   revert this
   cases (BitVec.ofInt IntKind.i64.bits (a : Int))[i] <;> cases (BitVec.ofInt IntKind.i64.bits (b : Int))[i] <;> simp
  have h3 := congrArg BitVec.toNat h2
  rwa [BitVec.toNat_and, bvN ha, bvN hb] at h3
def zP : Nat → Nat → Nat
 | 0, _ => 0
 | k + 1, n => n % 2 + zP k (n / 2)
theorem Fa : ∀ a : Fin 1024, nH (a.1 : Int) = (zP 10 a.1 : Int) := by decide +kernel
theorem F4 : ∀ k n, zP k n ≤ k
 | 0, _ => Nat.le_refl _
 | k + 1, n => by
  have := F4 k (n / 2); rw [zP]; omega
theorem yu {a : Nat} (ha : a < 1024) : ∃ m : Nat, m ≤ 10 ∧ nH (a : Int) = (m : Int) := ⟨zP 10 a, F4 _ _, Fa ⟨a, ha⟩⟩
def za (q : List S27) : Prop := ∀ x ∈ q, ∃ s n : Nat, s < 1024 ∧ n < 1024 ∧ x = ⟨(s : Int), (n : Int)⟩ ∧ n &&& s = n
def sF : Int → Int → List S27 → Bool
 | _, _, [] => true
 | g, p, x :: r => if Go.bits .and .i64 (Go.bits .xor .i64 p x.f1) (Go.bits .and .i64 g x.f0) ≠ 0 then false else sF (Go.bits .or .i64 g x.f0) (Go.bits .or .i64 p x.f1) r
theorem OI {P p n g s : Nat} (hpg : p &&& g = p) (hns : n &&& s = n) : ((p ^^^ n) &&& (g &&& s) = 0 ∧ P &&& (g ||| s) = p ||| n) ↔ (P &&& g = p ∧ P &&& s = n) := by
 (have t : ∀ {x y : Nat}, x = y ↔ ∀ i, x.testBit i = y.testBit i := fun {x y} => ⟨fun h i => by rw [h], fun h => Nat.eq_of_testBit_eq h⟩); rw [t] at hpg hns; rw [t, t, t, t]; simp only [Nat.testBit_and, Nat.testBit_or, Nat.testBit_xor, Nat.zero_testBit] at hpg hns ⊢; constructor
 ·rintro ⟨h1, h2⟩; refine ⟨fun i => ?_, fun i => ?_⟩
  all_goals
   have a := hpg i
   have b := hns i
   have c := h1 i
   have d := h2 i
   revert a b c d
   cases P.testBit i <;> cases p.testBit i <;> cases n.testBit i <;> cases g.testBit i <;> cases s.testBit i <;> simp
 ·rintro ⟨h1, h2⟩; refine ⟨fun i => ?_, fun i => ?_⟩
  all_goals
   have a := hpg i
   have b := hns i
   have c := h1 i
   have d := h2 i
   revert a b c d
   cases P.testBit i <;> cases p.testBit i <;> cases n.testBit i <;> cases g.testBit i <;> cases s.testBit i <;> simp
theorem Zh {p n g s : Nat} (hpg : p &&& g = p) (hns : n &&& s = n) : (p ||| n) &&& (g ||| s) = p ||| n := by
 (have t : ∀ {x y : Nat}, x = y ↔ ∀ i, x.testBit i = y.testBit i := fun {x y} => ⟨fun h i => by rw [h], fun h => Nat.eq_of_testBit_eq h⟩); rw [t] at hpg hns ⊢; simp only [Nat.testBit_and, Nat.testBit_or] at hpg hns ⊢; intro i; have a := hpg i; have b := hns i
 revert a b
 cases p.testBit i <;> cases n.testBit i <;> cases g.testBit i <;> cases s.testBit i <;> simp
theorem Nn {q : List S27} (h : za q) : ∀ (g p : Nat), g < 1024 → p < 1024 → p &&& g = p → ∃ G P : Nat, G < 1024 ∧ P < 1024 ∧ q.foldl seenStep ((g : Int), (p : Int)) = ((G : Int), (P : Int)) ∧
 (sF (g : Int) (p : Int) q = true ↔ P &&& g = p ∧ ∀ x ∈ q, Go.bits .and .i64 (P : Int) x.f0 = x.f1) := by
 induction q with
 | nil => exact fun g p hg hp hs => ⟨g, p, hg, hp, rfl, by simp [sF, hs]⟩
 | cons x r ih =>
  intro g p hg hp hs; obtain ⟨s, n, hs1, hn1, rfl, hsn⟩ := h x List.mem_cons_self; obtain ⟨G, P, hG, hP, hf, hiff⟩ := ih (fun y hy => h y (List.mem_cons_of_mem _ hy)) (g ||| s) (p ||| n) (CR hg hs1) (CR hp hn1) (Zh hs hsn); refine ⟨G, P, hG, hP, ?_, ?_⟩
  ·rw [List.foldl_cons]
   have e : seenStep ((g : Int), (p : Int)) ⟨(s : Int), (n : Int)⟩ = (((g ||| s : Nat) : Int), ((p ||| n : Nat) : Int)) := by
    simp only [seenStep]; rw [zJ hg hs1, zJ hp hn1]
   rw [e, hf]
  ·have e1 : Go.bits .and .i64 (Go.bits .xor .i64 (p : Int) (n : Int)) (Go.bits .and .i64 (g : Int) (s : Int)) = (((p ^^^ n) &&& (g &&& s) : Nat) : Int) := by
    rw [MG hp hn1, uH hg hs1, uH (Fh hp hn1) (yB hg)]
   have e2 : Go.bits .and .i64 (P : Int) (s : Int) = ((P &&& s : Nat) : Int) := uH hP hs1; have hb := OI (P := P) hs hsn; simp only [sF]; rw [e1, zJ hg hs1, zJ hp hn1]; simp only [List.mem_cons, forall_eq_or_imp]; rw [e2]; by_cases hz : (p ^^^ n) &&& (g &&& s) = 0
   ·rw [if_neg (by simp [hz]), hiff]; constructor
    ·rintro ⟨h1, h2⟩; obtain ⟨h3, h4⟩ := hb.1 ⟨hz, h1⟩; exact ⟨h3, by exact_mod_cast h4, h2⟩
    ·rintro ⟨h1, h2, h3⟩; exact ⟨(hb.2 ⟨h1, by exact_mod_cast h2⟩).2, h3⟩
   ·rw [if_pos (by exact_mod_cast hz)]; constructor
    ·intro h; cases h
    ·rintro ⟨h1, h2, h3⟩; exact absurd (hb.2 ⟨h1, by exact_mod_cast h2⟩).1 hz
theorem DK (P : Int) : ∀ (q : List S27) (b : Bool), q.foldl (vG P) b = true ↔ b = true ∧ ∀ x ∈ q, Go.bits .and .i64 P x.f0 = x.f1
 | [], b => by simp
 | x :: r, b => by
  rw [List.foldl_cons, DK P r]; simp only [vG, List.mem_cons, forall_eq_or_imp]; cases b <;> simp
theorem CL {q : List S27} (h : za q) : ∃ G P : Nat, G < 1024 ∧ P < 1024 ∧ fD q = ((G : Int), (P : Int), sF 0 0 q) := by
 obtain ⟨G, P, hG, hP, hf, hiff⟩ := Nn h 0 0 (by omega) (by omega) rfl; refine ⟨G, P, hG, hP, ?_⟩; have hA : xy q = ((G : Int), (P : Int)) := hf; rw [fD, hA]; simp only []
 have : q.foldl (vG (P : Int)) true = sF 0 0 q := by
  rw [Bool.eq_iff_iff, DK]; have hiff' : sF 0 0 q = true ↔ P &&& 0 = 0 ∧ ∀ x ∈ q, Go.bits .and .i64 (P : Int) x.f0 = x.f1 := hiff; rw [hiff']; simp
 rw [this]
def nW (x : Int) : Int := if x < 1048576 then x else 1000
theorem YX (c : Prop) [Decidable c] (m n : Nat) (hm : m ≤ 10) (hn : n ≤ 10) : 0 ≤ (if c then wrap64 ((m : Int) + (n : Int)) else jJ) ∧ ((if c then wrap64 ((m : Int) + (n : Int)) else jJ) ≤ 20 ∨ (if c then wrap64 ((m : Int) + (n : Int)) else jJ) = 1048576) := by
 split
 ·rw [eT (by omega) (by omega)]; omega
 ·exact ⟨by decide, .inr rfl⟩
theorem KG (W S : Int) {q : List S27} (h : za q) (s : S86) (h0 : 0 ≤ s.f1) (h1 : s.f1 < 1024) : 0 ≤ cellP W S (fD q) s ∧ (cellP W S (fD q) s ≤ 20 ∨ cellP W S (fD q) s = 1048576) := by
 obtain ⟨G, P, hG, hP, hs⟩ := CL h; obtain ⟨z, hz⟩ := Int.eq_ofNat_of_zero_le h0; (have hz2 : z < 1024 := by omega); obtain ⟨c, hc, e1, _⟩ := xP (yB (b := G) hz2) hP; obtain ⟨d, hd, e2, _⟩ := xP hP hz2; obtain ⟨m, hm, e3⟩ := yu hc; obtain ⟨k, hk, e4⟩ := yu hd; rw [cellP, hs]; simp only []; rw [hz, uH hz2 hG, e1, e2, e3, e4]; exact YX _ m k hm hk
theorem EF (x : Int) (h0 : 0 ≤ x) (h1 : x < 1024) (w : World) : Calls Try.prog 84 #[.int .i64 x] w fun e w' => e = .returned (.int .i64 (nH x)) ∧ w = w' := by
 obtain ⟨n, rfl⟩ := Int.eq_ofNat_of_zero_le h0; (have hn : n < 1024 := by omega); have HP := aa.mk (show nH (n : Int) = (zP 10 n : Int) from Fa ⟨n, hn⟩); have hx : n < 2 ^ 10 := hn; have HX := aa.mk hx; clear h0 h1 hn hx; go_enter Try.func84, Try.ntmps84; go_wp2
 go_loop [0, 3] (fun v0 v3 => ∃ f m r : Nat, f ≤ 10 ∧ v0 = .int .i64 m ∧ v3 = .int .i64 r ∧ m < 1024 ∧ r ≤ 10 ∧ aa (m < 2 ^ f ∧ r + zP f m = zP 10 n)) (fun v0 _ => (intOf v0).toNat)
 case atStart => exact ⟨10, n, 0, by omega, rfl, rfl, HX.out, by omega, ⟨HX.out, by omega⟩⟩
 case round =>
  obtain ⟨f, m, r, hf, rfl, rfl, hm, hr, HA⟩ := hrel; by_cases hz : m = 0
  ·subst hz; go_wp2
   go_ret
   refine ⟨?_, rfl⟩; have h := HA.out.2
   have e : zP f 0 = 0 := by
    clear HA h hf
    induction f with
    | zero => rfl
    | succ f ih => rw [zP, ih]
   rw [HP.out, ← h, e]; rfl
  ·have hb : decide (0 < (m : Int)) = true := decide_eq_true (by omega)
   obtain ⟨f', rfl⟩ : ∃ f', f = f' + 1 := by
    cases f with
    | zero => exact absurd HA.out.1 (by simp; omega)
    | succ f' => exact ⟨f', rfl⟩
   have h2 := HA.out.2; rw [zP] at h2; have h1 := HA.out.1; rw [Nat.pow_succ] at h1; have hl := F4 10 n; have HB := aa.mk (show m / 2 < 2 ^ f' ∧ (r + m % 2) + zP f' (m / 2) = zP 10 n ∧ r + m % 2 ≤ 10 by omega); clear h1 h2 HA hl; (have hm0 : 0 ≤ (m : Int) := by omega); (have hr0 : 0 ≤ (r : Int) := by omega); go_wp2
   go_round
   (case rel => exact ⟨f', m / 2, r + m % 2, by omega, by go_num, by go_num, by omega, HB.out.2.2, ⟨HB.out.1, HB.out.2.1⟩⟩); case measure => simp [intOf]; omega
theorem JH (q : List S27) (g p : Int) (j : Nat) (h : j < q.length) : sF g p (q.drop j) = if Go.bits .and .i64 (Go.bits .xor .i64 p (q[j]).f1) (Go.bits .and .i64 g (q[j]).f0) ≠ 0 then false else sF (Go.bits .or .i64 g (q[j]).f0) (Go.bits .or .i64 p (q[j]).f1) (q.drop (j + 1)) := by
 rw [List.drop_eq_getElem_cons h]; rfl
theorem Nk (q : List S27) (g p : Int) (j : Nat) (h : j < q.length) (hf : (q.take j).foldl seenStep (0, 0) = (g, p)) : (q.take (j + 1)).foldl seenStep (0, 0) = (Go.bits .or .i64 g (q[j]).f0, Go.bits .or .i64 p (q[j]).f1) := by
 rw [← List.take_append_getElem h, List.foldl_append, hf]; rfl
def sZ (W S : Int) (q : List S27) (s : Int) : Int := nW (cellP W S (fD q) ⟨0, s⟩)
theorem RA {W S : Int} {q : List S27} (h : za q) (s : Int) (hb : sF 0 0 q = false) : sZ W S q s = 1000 := by
 obtain ⟨G, P, _, _, hs⟩ := CL h; rw [sZ, cellP, hs, if_neg (by simp [hb])]; rfl
theorem Nr {W S : Int} {q : List S27} (h : za q) (s : Int) {g p : Int} (hA : xy q = (g, p)) (hb : sF 0 0 q = true) {m n : Int} (h1 : nH (gp (Go.bits .and .i64 s g) p) = m) (h2 : nH (gp p s) = n) (hm : 0 ≤ m ∧ m ≤ 10) (hn : 0 ≤ n ∧ n ≤ 10) :
 sZ W S q s = if W < m ∨ S < n then 1000 else m + n := by
 obtain ⟨G, P, _, _, hs⟩ := CL h
 have e : fD q = (g, p, true) := by
  have h3 : (fD q).1 = (xy q).1 := rfl; have h4 : (fD q).2.1 = (xy q).2 := rfl; rw [hA, hs] at h3 h4; simp only [] at h3 h4; rw [hs, hb, h3, h4]
 rw [sZ, cellP, e]; simp only []; rw [h1, h2]; by_cases hc : W < m ∨ S < n
 ·rw [if_pos hc, if_neg (fun h => by have h1 := h.2.1; have h2 := h.2.2; omega)]; rfl
 ·rw [if_neg hc, if_pos ⟨trivial, by omega, by omega⟩, eT (by omega) (by omega), nW, if_pos (by omega)]
set_option maxRecDepth 100000 in
set_option maxHeartbeats 2000000 in
theorem H7 (A1 : Option Addr) (n1 c1 : Nat) (W S t : Int) (A4 : Option Addr) (c4 : Nat) (sq : List (List S27)) (i : Nat) (s : Nat) (w : World) (hr : Kd.C (Kd.slice 27 k27) w A4 sq.length sq) (hi : i < sq.length) (hq : za (cu sq (i : Int))) (hql : (cu sq (i : Int)).length ≤ 4) (hs : s < 1024) :
 Calls Try.prog 78 #[.agg #[.slice A1 n1 c1, .int .i64 W, .int .i64 S, .int .i64 t, .slice A4 sq.length c4], .int .i64 i, .int .i64 s] w fun e w' => e = .returned (.int .i64 (sZ W S (cu sq (i : Int)) s)) ∧ Below w.heap.size w w' := by
 obtain ⟨ad, B, cB, rfl, hx, hlB, hrB⟩ := xA hr (i : Int) (by omega) (by omega); rw [Int.toNat_natCast] at hx; obtain ⟨q, hqd⟩ : ∃ q, q = cu sq (i : Int) := ⟨_, rfl⟩; rw [← hqd] at hx hlB hrB hq hql ⊢; have HQ := aa.mk hq; have HL := aa.mk hql; have HRB := aa.mk hrB; (have hi' : (i : Int) < (sq.length : Int) := by omega); clear hr hqd hq hql hrB hlB hi; go_enter Try.func78, Try.ntmps78; (go_upto_region 1 with (fail)); obtain ⟨W1, hW1⟩ : ∃ W1, W1 = w.alloc (.cells #[.slice A1 n1 c1, .int .i64 W, .int .i64 S, .int .i64 t, .slice (some ad) sq.length c4] 25) := ⟨_, rfl⟩; have HB1 := aa.mk (show Below w.heap.size w W1 by rw [hW1]; exact aH (Below.refl _ _) _); have BX1 := aa.mk (show W1.heap[w.heap.size]? = some (.cells #[.slice A1 n1 c1, .int .i64 W, .int .i64 S, .int .i64 t, .slice (some ad) sq.length c4] 25 (0, 0)) by rw [hW1]; exact heap_alloc_new w _); rw [← hW1]; have hx1 := (HB1.out.cell (World.block_lt_of_cell? w _ hx)).trans hx; have hz4 : W1.cell? ⟨w.heap.size, 4, none⟩ = some (.slice (some ad) sq.length c4) := (af BX1.out 4).trans rfl; clear hW1 hx; go_wp2
 go_loopw [8, 9, 10] (fun v8 v9 v10 wr => ∃ (j g p : Nat), j ≤ q.length ∧ g < 1024 ∧ p < 1024 ∧ v8 = .int .i64 g ∧ v9 = .int .i64 p ∧ v10 = .int .i64 j ∧ aa (sF 0 0 q = sF g p (q.drop j) ∧ (q.take j).foldl seenStep (0, 0) = ((g : Int), (p : Int))) ∧ aa (Below w.heap.size w wr) ∧ aa (wr.heap[w.heap.size]? = some (.cells #[.slice A1 n1 c1, .int .i64 W, .int .i64 S, .int .i64 t, .slice (some ad) sq.length c4] 25 (0, 0)))) (fun _ _ v10 _ => q.length - (intOf v10).toNat)
 case atStart => exact ⟨0, 0, 0, by omega, by omega, by omega, rfl, rfl, rfl, ⟨rfl, rfl⟩, HB1, BX1⟩
 case round =>
  clear hz4 hx1 HB1 BX1; obtain ⟨j, g, p, hj, hg, hp, rfl, rfl, rfl, HA, HB, BX⟩ := hrel; by_cases hjl : j < q.length
  ·obtain ⟨s', n', hs', hn', hxe, hsn⟩ := HQ.out _ (List.getElem_mem hjl); obtain ⟨bd, e, hx0, hx1⟩ := vv (Kd.aY HRB.out HB.out) (j : Int) (by omega) (by omega); cases e; (have er : eu q (j : Int) = q[j] := by simp [eu, List.getD_eq_getElem?_getD, hjl]); rw [er, hxe, Int.toNat_natCast] at hx0 hx1; have e1 := uH hg hs'; have e2 := MG hp hn'; have e3 := uH (Fh hp hn') (yB (b := s') hg); have e4 := zJ hg hs'; have e5 := zJ hp hn'; have hd := JH q (g : Int) (p : Int) j hjl; have hf := Nk q (g : Int) (p : Int) j hjl HA.out.2; rw [hxe] at hd hf; simp only [] at hd hf; rw [e1, e2, e3, e4, e5] at hd; rw [e4, e5] at hf; have hb4 := CR hg hs'; have hb5 := CR hp hn'; obtain ⟨d, hdd⟩ : ∃ d, d = (p ^^^ n') &&& (g &&& s') := ⟨_, rfl⟩; obtain ⟨g', hgd⟩ : ∃ d, d = g ||| s' := ⟨_, rfl⟩; obtain ⟨p', hpd⟩ : ∃ d, d = p ||| n' := ⟨_, rfl⟩; rw [← hdd] at e3 hd; rw [← hgd] at e4 hd hf hb4; rw [← hpd] at e5 hd hf hb5; have HD := aa.mk hd; have HF := aa.mk hf; have hj1 : decide ((j : Int) < (q.length : Int)) = true := decide_eq_true (by omega); (have hj4 : (j : Int) < 4 := by have := HL.out; omega); clear er hxe hsn hd hf hdd hgd hpd; by_cases hz : d = 0
   ·(have hz1 : ((d : Int) == 0) = true := by rw [hz]; rfl); (have hz2 : ((d : Int) != 0) = false := by rw [hz]; rfl); have HZ := aa.mk hz; clear hz; go_wp2; go_quiet (fail); go_wp2
    go_roundw
    (case rel => exact ⟨j + 1, g', p', by omega, hb4, hb5, rfl, rfl, by go_num, ⟨HA.out.1.trans (HD.out.trans (if_neg (by have := HZ.out; omega))), HF.out⟩, ⟨dn HB.out _⟩, ⟨fB BX.out _⟩⟩); case measure => simp [intOf]; omega
   ·(have hz1 : ((d : Int) == 0) = false := by simp; omega); (have hz2 : ((d : Int) != 0) = true := by simp; omega); go_wp2
    go_ret
    refine ⟨?_, HB.out⟩; rw [RA HQ.out _ (HA.out.1.trans (HD.out.trans (if_pos (by omega))))]; rfl
  ·(obtain rfl : j = q.length := by omega); (have hA : xy q = ((g : Int), (p : Int)) := by have := HA.out.2; rwa [List.take_length] at this); (have hok : sF 0 0 q = true := by rw [HA.out.1, List.drop_length]; rfl); have e1 := uH hs hg; obtain ⟨x, hx, e2, -⟩ := xP (yB (b := g) hs) hp; obtain ⟨y, hy, e3, -⟩ := xP hp hs; obtain ⟨m, hm, e4⟩ := yu hx; obtain ⟨k, hk, e5⟩ := yu hy; have HR := aa.mk (Nr (W := W) (S := S) HQ.out (s : Int) hA hok (by rw [e1, e2, e4]) (by rw [e3, e5]) ⟨Int.natCast_nonneg m, Int.ofNat_le.2 hm⟩ ⟨Int.natCast_nonneg k, Int.ofNat_le.2 hk⟩); unfold gp at e2 e3; (have hj1 : decide ((q.length : Int) < (q.length : Int)) = false := by simp); have hz1 : wr.cell? ⟨w.heap.size, 1, none⟩ = some (.int .i64 W) := (af BX.out 1).trans rfl; have hz2 : wr.cell? ⟨w.heap.size, 2, none⟩ = some (.int .i64 S) := (af BX.out 2).trans rfl; clear hA hok; (go_wp2_with (fail)); refine (EF (x : Int) (Int.natCast_nonneg x) (Int.ofNat_lt.2 hx) _).mono ?_; rintro e w' ⟨he, rfl⟩; rw [e4] at he; subst he; (go_wp2_with (fail)); refine (EF (y : Int) (Int.natCast_nonneg y) (Int.ofNat_lt.2 hy) _).mono ?_; rintro e w' ⟨he, rfl⟩; rw [e5] at he; subst he; have hm0 : 0 ≤ (m : Int) := Int.natCast_nonneg m; have hm1 : (m : Int) ≤ 10 := Int.ofNat_le.2 hm; have hk0 : 0 ≤ (k : Int) := Int.natCast_nonneg k; have hk1 : (k : Int) ≤ 10 := Int.ofNat_le.2 hk; clear e1 e2 e3 e4 e5; by_cases c1 : W < (m : Int)
   ·have hc1 : decide (W < (m : Int)) = true := decide_eq_true c1; go_wp2
    go_ret
    refine ⟨?_, HB.out⟩; rw [HR.out, if_pos (.inl c1)]; rfl
   ·have hc1 : decide (W < (m : Int)) = false := decide_eq_false c1; by_cases c2 : S < (k : Int)
    ·have hc2 : decide (S < (k : Int)) = true := decide_eq_true c2; go_wp2
     go_ret
     refine ⟨?_, HB.out⟩; rw [HR.out, if_pos (.inr c2)]; rfl
    ·have hc2 : decide (S < (k : Int)) = false := decide_eq_false c2; go_wp2
     go_ret
     refine ⟨?_, HB.out⟩; rw [HR.out, if_neg (fun h => h.elim (Int.not_lt.2 c1) (Int.not_lt.2 c2))]; rfl
def pY (sh : List S86) : Prop := sh.length ≤ 8 ∧ ∀ s ∈ sh, 0 ≤ s.f1 ∧ s.f1 < 1024
def nZ (sq : List (List S27)) : Prop := sq.length ≤ 8 ∧ ∀ q ∈ sq, q.length ≤ 4 ∧ za q
theorem nZ.at {sq : List (List S27)} (h : nZ sq) {i : Nat} (hi : i < sq.length) : (cu sq (i : Int)).length ≤ 4 ∧ za (cu sq (i : Int)) := by
 rw [sN sq i hi]; exact h.2 _ (List.getElem_mem hi)
theorem pY.at {sh : List S86} (h : pY sh) {i : Nat} (hi : i < sh.length) : 0 ≤ (ai sh (i : Int)).f1 ∧ (ai sh (i : Int)).f1 < 1024 := by
 rw [jf sh i hi]; exact h.2 _ (List.getElem_mem hi)
def jQ (W S : Int) (q : List S27) (sh : List S86) : Nat → Int
 | 0 => 1000
 | k + 1 => mn (jQ W S q sh k) (sZ W S q (ai sh (k : Int)).f1)
theorem wR (W S : Int) (q : List S27) (s : S86) : sZ W S q s.f1 = nW (cellP W S (fD q) s) := rfl
theorem Ui {a b : Int} (ha : 0 ≤ a ∧ (a ≤ 20 ∨ a = 1048576)) (hb : 0 ≤ b ∧ (b ≤ 20 ∨ b = 1048576)) : mn (nW a) (nW b) = nW (mn a b) := by
 unfold mn nW; rcases ha with ⟨a0, a1 | a1⟩ <;> rcases hb with ⟨b0, b1 | b1⟩ <;> (repeat' split) <;> omega
theorem YF {a b : Int} (ha : 0 ≤ a ∧ (a ≤ 20 ∨ a = 1048576)) (hb : 0 ≤ b ∧ (b ≤ 20 ∨ b = 1048576)) : 0 ≤ mn a b ∧ (mn a b ≤ 20 ∨ mn a b = 1048576) := by
 unfold mn; split
 ·exact hb
 ·exact ha
theorem rA (W S : Int) {q : List S27} (hq : za q) {sh : List S86} (hsh : pY sh) : ∀ K, K ≤ sh.length → jQ W S q sh K = nW (nk W S (fD q) sh K) ∧ 0 ≤ nk W S (fD q) sh K ∧ (nk W S (fD q) sh K ≤ 20 ∨ nk W S (fD q) sh K = 1048576)
 | 0, _ => ⟨rfl, by simp [nk, jJ], .inr rfl⟩
 | K + 1, hK => by
  obtain ⟨h1, h2⟩ := rA W S hq hsh K (by omega); have hs := hsh.at (i := K) (by omega); have h3 := KG W S hq (ai sh (K : Int)) hs.1 hs.2; rw [jQ, nk, h1, wR, Ui h2 h3]; exact ⟨rfl, YF h2 h3⟩
attribute [local go_sem] nM nP ql qj
set_option maxRecDepth 100000 in
set_option maxHeartbeats 2000000 in
theorem Ng (A1 : Option Addr) (n1 c1 : Nat) (W S t : Int) (A4 : Option Addr) (c4 : Nat) (sq : List (List S27)) (lo hi : Int) (Ah : Option Addr) (ch : Nat) (sh : List S86) (i : Nat) (w : World) (hr : Kd.C (Kd.slice 27 k27) w A4 sq.length sq) (hh : k86.C w Ah sh.length sh) (hil : i < sq.length) (hq : nZ sq) (hs : pY sh) :
 Calls Try.prog 76 #[.agg #[.slice A1 n1 c1, .int .i64 W, .int .i64 S, .int .i64 t, .slice A4 sq.length c4], .agg #[.int .i64 lo, .int .i64 hi, .slice Ah sh.length ch], .int .i64 i] w fun e w' => e = .returned (.int .i64 (jQ W S (cu sq (i : Int)) sh sh.length)) ∧ Below w.heap.size w w' := by
 have HR := aa.mk hr; have HH := aa.mk hh; have HQ := aa.mk (hq.at hil); have HS := aa.mk hs; have HIL := aa.mk hil; clear hr hh hq hs hil; go_enter Try.func76, Try.ntmps76; go_wp2
 go_loopw [7, 8] (fun v7 v8 wr => ∃ j : Nat, j ≤ sh.length ∧ v7 = .int .i64 (jQ W S (cu sq (i : Int)) sh j) ∧ v8 = .int .i64 j ∧ aa (Below w.heap.size w wr) ∧ aa (wr.heap[w.heap.size]? = some (.cells #[.slice A1 n1 c1, .int .i64 W, .int .i64 S, .int .i64 t, .slice A4 sq.length c4] 25 (0, 0))) ∧ aa (wr.heap[w.heap.size + 1]? = some (.cells #[.int .i64 lo, .int .i64 hi, .slice Ah sh.length ch] 66 (0, 0)))) (fun _ v8 _ => sh.length - (intOf v8).toNat)
 case atStart =>
  refine ⟨0, by omega, rfl, rfl, ⟨aH (aH (Below.refl _ _) _) _⟩, ⟨cz (heap_alloc_new w _) _⟩, ⟨?_⟩⟩; have := heap_alloc_new (w.alloc (.cells #[.slice A1 n1 c1, .int .i64 W, .int .i64 S, .int .i64 t, .slice A4 sq.length c4] 25)) (.cells #[.int .i64 lo, .int .i64 hi, .slice Ah sh.length ch] 66)
  rwa [World.size_alloc] at this
 case round =>
  obtain ⟨j, hj, rfl, rfl, HB, BX, BH⟩ := hrel; have hb2 : wr.cell? ⟨w.heap.size + 1, 2, none⟩ = some (.slice Ah sh.length ch) := (af BH.out 2).trans rfl; by_cases hjl : j < sh.length
  ·have hj1 : decide ((j : Int) < (sh.length : Int)) = true := decide_eq_true (by omega); obtain ⟨bd, e, hx0, hx1⟩ := mP (Kd.aY HH.out HB.out) (j : Int) (by omega) (by omega); cases e; rw [Int.toNat_natCast] at hx0 hx1; obtain ⟨s, hsd⟩ := Int.eq_ofNat_of_zero_le (HS.out.at hjl).1; have hs1 := (HS.out.at hjl).2; have HL := aa.mk (show jQ W S (cu sq (i : Int)) sh (j + 1) = mn (jQ W S (cu sq (i : Int)) sh j) (sZ W S (cu sq (i : Int)) (s : Int)) by rw [jQ, hsd]); rw [hsd] at hx1 hs1; have HS1 := aa.mk (show s < 1024 by omega); (have hj8 : (j : Int) < 8 := by have := HS.out.1; omega); (have hjlt : (j : Int) < (sh.length : Int) := by omega); have hz0 : wr.cell? ⟨w.heap.size, 0, none⟩ = some (.slice A1 n1 c1) := (af BX.out 0).trans rfl; have hz1 : wr.cell? ⟨w.heap.size, 1, none⟩ = some (.int .i64 W) := (af BX.out 1).trans rfl; have hz2 : wr.cell? ⟨w.heap.size, 2, none⟩ = some (.int .i64 S) := (af BX.out 2).trans rfl; have hz3 : wr.cell? ⟨w.heap.size, 3, none⟩ = some (.int .i64 t) := (af BX.out 3).trans rfl; have hz4 : wr.cell? ⟨w.heap.size, 4, none⟩ = some (.slice A4 sq.length c4) := (af BX.out 4).trans rfl; clear hs1 hsd hx0; obtain ⟨lv, hlv⟩ : ∃ lv, lv = jQ W S (cu sq (i : Int)) sh j := ⟨_, rfl⟩; rw [← hlv] at HL ⊢; clear hlv; go_wp2_with (fail)
   go_region_held3 (fun w' => w'.cell? ⟨w.heap.size, 0, none⟩ = some (.slice A1 n1 c1) ∧ w'.cell? ⟨w.heap.size, 1, none⟩ = some (.int .i64 W) ∧ w'.cell? ⟨w.heap.size, 2, none⟩ = some (.int .i64 S) ∧ w'.cell? ⟨w.heap.size, 3, none⟩ = some (.int .i64 t) ∧ w'.cell? ⟨w.heap.size, 4, none⟩ = some (.slice A4 sq.length c4) ∧ w'.cell? ⟨w.heap.size + 1, 2, none⟩ = some (.slice (some bd) sh.length ch) ∧ w'.cell? ⟨(bd.add (j * 2)).block, (bd.add (j * 2)).off + 1, none⟩ = some (.int .i64 s))
    (go_keep)
    (((with_reducible refine (H7 A1 n1 c1 W S t A4 c4 sq i s _ (Kd.aY HR.out (eF HB.out)) HIL.out HQ.out.2 HQ.out.1 HS1.out).mono ?_)
      rintro e w2 ⟨rfl, hb⟩; have BX2 := aa.mk (au (dO BX.out) hb); have BH2 := aa.mk (au (dO BH.out) hb); have HB2 := aa.mk (ax (eF HB.out) hb); have hz0' : w2.cell? ⟨w.heap.size, 0, none⟩ = some (.slice A1 n1 c1) := (af BX2.out 0).trans rfl; have hz1' : w2.cell? ⟨w.heap.size, 1, none⟩ = some (.int .i64 W) := (af BX2.out 1).trans rfl; have hz2' : w2.cell? ⟨w.heap.size, 2, none⟩ = some (.int .i64 S) := (af BX2.out 2).trans rfl; have hz3' : w2.cell? ⟨w.heap.size, 3, none⟩ = some (.int .i64 t) := (af BX2.out 3).trans rfl; have hz4' : w2.cell? ⟨w.heap.size, 4, none⟩ = some (.slice A4 sq.length c4) := (af BX2.out 4).trans rfl; have hb2' : w2.cell? ⟨w.heap.size + 1, 2, none⟩ = some (.slice (some bd) sh.length ch) := (af BH2.out 2).trans rfl; have hx1' : w2.cell? ⟨(bd.add (j * 2)).block, (bd.add (j * 2)).off + 1, none⟩ = some (.int .i64 s) := (hb.cell (World.block_lt_of_cell? _ _ hx1)).trans hx1
      clear hb))
   go_wp2
   go_roundw
   (case rel => exact ⟨j + 1, by omega, by rw [HL.out]; rfl, by go_num, HB2, BX2, BH2⟩); case measure => simp [intOf]; omega
  ·(obtain rfl : j = sh.length := by omega); (have hj1 : decide ((sh.length : Int) < (sh.length : Int)) = false := by simp); go_wp2
   go_ret
   exact ⟨rfl, HB.out⟩
def iH : List S86 → Int → Int × Bool
 | [], _ => (0, false)
 | s :: r, c => if s.f0 = c then (s.f1, true) else iH r c
theorem Jj (sh : List S86) (c : Int) (j : Nat) (h : j < sh.length) : iH (sh.drop j) c = if (ai sh (j : Int)).f0 = c then ((ai sh (j : Int)).f1, true) else iH (sh.drop (j + 1)) c := by
 rw [List.drop_eq_getElem_cons h, iH, jf sh j h]
set_option maxRecDepth 100000 in
set_option maxHeartbeats 2000000 in
theorem MR (lo hi : Int) (Ah : Option Addr) (ch : Nat) (sh : List S86) (c : Int) (w : World) (hh : k86.C w Ah sh.length sh) (hl : sh.length ≤ 8) :
 Calls Try.prog 77 #[.agg #[.int .i64 lo, .int .i64 hi, .slice Ah sh.length ch], .int .u8 c] w fun e w' => e = .returned (.tuple #[.int .i64 (iH sh c).1, .bool (iH sh c).2]) ∧ Below w.heap.size w w' := by
 have HH := aa.mk hh; have HL := aa.mk hl; clear hh hl; go_enter Try.func77, Try.ntmps77; (go_upto_region 1 with (fail)); obtain ⟨W1, hW1⟩ : ∃ W1, W1 = w.alloc (.cells #[.int .i64 lo, .int .i64 hi, .slice Ah sh.length ch] 66) := ⟨_, rfl⟩; have HB := aa.mk (show Below w.heap.size w W1 by rw [hW1]; exact aH (Below.refl _ _) _); have BH := aa.mk (show W1.heap[w.heap.size]? = some (.cells #[.int .i64 lo, .int .i64 hi, .slice Ah sh.length ch] 66 (0, 0)) by rw [hW1]; exact heap_alloc_new w _); rw [← hW1]; have hb2 : W1.cell? ⟨w.heap.size, 2, none⟩ = some (.slice Ah sh.length ch) := (af BH.out 2).trans rfl; clear hW1; go_wp2
 go_loop [6] (fun v6 => ∃ j : Nat, j ≤ sh.length ∧ v6 = .int .i64 j ∧ aa (iH sh c = iH (sh.drop j) c)) (fun v6 => sh.length - (intOf v6).toNat)
 case atStart => exact ⟨0, by omega, rfl, ⟨rfl⟩⟩
 case round =>
  obtain ⟨j, hj, rfl, HA⟩ := hrel; by_cases hjl : j < sh.length
  ·have hj1 : decide ((j : Int) < (sh.length : Int)) = true := decide_eq_true (by omega); obtain ⟨bd, e, hx0, hx1⟩ := mP (Kd.aY HH.out HB.out) (j : Int) (by omega) (by omega); cases e; rw [Int.toNat_natCast] at hx0 hx1; have HD := aa.mk (HA.out.trans (Jj sh c j hjl)); obtain ⟨s, hs⟩ : ∃ s, s = ai sh (j : Int) := ⟨_, rfl⟩; rw [← hs] at HD hx0 hx1; (have hj8 : (j : Int) < 8 := by have := HL.out; omega); (have hjlt : (j : Int) < (sh.length : Int) := by omega); clear hs HA; by_cases hc : s.f0 = c
   ·(have hc1 : (s.f0 == c) = true := by simp [hc]); have HC := aa.mk hc; clear hc; go_wp2
    go_ret2
    rw [HD.out, if_pos HC.out]; exact ⟨rfl, HB.out⟩
   ·(have hc1 : (s.f0 == c) = false := by simp [hc]); have HC := aa.mk hc; clear hc; go_wp2
    go_round
    (case rel => exact ⟨j + 1, by omega, by go_num, ⟨HD.out.trans (if_neg HC.out)⟩⟩); case measure => simp [intOf]; omega
  ·(obtain rfl : j = sh.length := by omega); (have hj1 : decide ((sh.length : Int) < (sh.length : Int)) = false := by simp); go_wp2
   go_ret2
   rw [HA.out, List.drop_length]; exact ⟨rfl, HB.out⟩
def iI (W S : Int) (q : List S27) (sh : List S86) (i : Nat) (n : Option Int) (d : kL) : Option Int :=
 match n with
 | none => none
 | some n => if d.f0 = (i : Int) then (if (iH sh d.f1).2 = true then some (mx n (sZ W S q (iH sh d.f1).1)) else none) else some n
def nC (W S : Int) (q : List S27) (sh : List S86) (i : Nat) (needs : List kL) : Option Int := needs.foldl (iI W S q sh i) (some (jQ W S q sh sh.length))
def iP (W S : Int) (sq : List (List S27)) (sh : List S86) (needs : List kL) : Nat → Option Int
 | 0 => some 0
 | i + 1 => (iP W S sq sh needs i).bind fun a => (nC W S (cu sq (i : Int)) sh i needs).bind fun n => some (a + n)
def iY (W S : Int) (sq : List (List S27)) (sh : List S86) (needs : List kL) : Int := (iP W S sq sh needs sq.length).getD 1000
theorem EA (W S : Int) (q : List S27) (sh : List S86) (i : Nat) : ∀ l : List kL, l.foldl (iI W S q sh i) none = none
 | [] => rfl
 | d :: r => by rw [List.foldl_cons, iI, EA W S q sh i r]
theorem Na (W S : Int) (q : List S27) (sh : List S86) (i : Nat) (nd : List kL) (x : Option Int) (j : Nat) (h : j < nd.length) : (nd.take (j + 1)).foldl (iI W S q sh i) x = iI W S q sh i ((nd.take j).foldl (iI W S q sh i) x) (wH nd (j : Int)) := by
 (have e : wH nd (j : Int) = nd[j] := by simp [wH, List.getD_eq_getElem?_getD, h]); rw [← List.take_append_getElem h, List.foldl_append, e]; rfl
theorem Kz (W S : Int) (q : List S27) (sh : List S86) (i : Nat) (nd : List kL) (x : Option Int) (j : Nat) (h : (nd.take j).foldl (iI W S q sh i) x = none) : nd.foldl (iI W S q sh i) x = none := by
 have := EA W S q sh i (nd.drop j); rw [← h, ← List.foldl_append, List.take_append_drop] at this; exact this.trans h
theorem Cu {W S : Int} {sq : List (List S27)} {sh : List S86} {needs : List kL} {i : Nat} (h : nC W S (cu sq (i : Int)) sh i needs = none) : ∀ n, i < n → iP W S sq sh needs n = none
 | 0, hn => by omega
 | n + 1, hn => by
  rw [iP]; by_cases he : i = n
  ·subst he; rw [h]; cases iP W S sq sh needs i <;> rfl
  ·rw [Cu h n (by omega)]; rfl
theorem BL (W S : Int) {q : List S27} (h : za q) (s : Int) (h0 : 0 ≤ s) (h1 : s < 1024) : 0 ≤ sZ W S q s ∧ sZ W S q s ≤ 1000 := by
 have := KG W S h ⟨0, s⟩ h0 h1; unfold sZ nW; split <;> omega
theorem zV (W S : Int) {q : List S27} (h : za q) {sh : List S86} (hs : pY sh) : ∀ K, K ≤ sh.length → 0 ≤ jQ W S q sh K ∧ jQ W S q sh K ≤ 1000
 | 0, _ => ⟨by simp [jQ], by simp [jQ]⟩
 | K + 1, hK => by
  have h1 := zV W S h hs K (by omega); have h2 := hs.at (i := K) (by omega); have h3 := BL W S h _ h2.1 h2.2; rw [jQ]; unfold mn; split <;> omega
theorem Ay : ∀ {sh : List S86}, (∀ s ∈ sh, 0 ≤ s.f1 ∧ s.f1 < 1024) → ∀ c, 0 ≤ (iH sh c).1 ∧ (iH sh c).1 < 1024
 | [], _, c => by simp [iH]
 | s :: r, h, c => by
  rw [iH]; split
  ·exact h s List.mem_cons_self
  ·exact Ay (fun x hx => h x (List.mem_cons_of_mem _ hx)) c
attribute [local go_sem] nM nP ql qj
set_option maxRecDepth 100000 in
set_option maxHeartbeats 4000000 in
theorem E9 (A1 : Option Addr) (n1 c1 : Nat) (W S t : Int) (A4 : Option Addr) (c4 : Nat) (sq : List (List S27)) (lo hi : Int) (Ah : Option Addr) (ch : Nat) (sh : List S86) (An : Option Addr) (cn : Nat) (nd : List kL) (w : World)
 (hr : Kd.C (Kd.slice 27 k27) w A4 sq.length sq) (hh : k86.C w Ah sh.length sh) (hn : qI.C w An nd.length nd) (hnl : nd.length ≤ 8) (hq : nZ sq) (hs : pY sh) :
 Calls Try.prog 57 #[.agg #[.slice A1 n1 c1, .int .i64 W, .int .i64 S, .int .i64 t, .slice A4 sq.length c4], .agg #[.int .i64 lo, .int .i64 hi, .slice Ah sh.length ch], .slice An nd.length cn] w fun e w' => e = .returned (.int .i64 (iY W S sq sh nd)) ∧ Below w.heap.size w w' := by
 have HR := aa.mk hr; have HH := aa.mk hh; have HN := aa.mk hn; have HNL := aa.mk hnl; have HQ := aa.mk hq; have HS := aa.mk hs; have HS8 := aa.mk hs.1; clear hr hh hn hnl hq hs; go_enter Try.func57, Try.ntmps57; go_wp2
 go_loopw [7, 8, 9, 10, 11, 12] (fun v7 v8 v9 v10 v11 v12 wr => ∃ (i : Nat) (a : Int), i ≤ sq.length ∧ v7 = .int .i64 a ∧ v8 = .int .i64 i ∧ 0 ≤ a ∧ a ≤ 100000 ∧ aa (iP W S sq sh nd i = some a ∧ a ≤ 1000 * i) ∧ aa (Below w.heap.size w wr) ∧ aa (wr.heap[w.heap.size]? = some (.cells #[.slice A1 n1 c1, .int .i64 W, .int .i64 S, .int .i64 t, .slice A4 sq.length c4] 25 (0, 0))) ∧ aa (wr.heap[w.heap.size + 1]? = some (.cells #[.int .i64 lo, .int .i64 hi, .slice Ah sh.length ch] 66 (0, 0)))) (fun _ v8 _ _ _ _ _ => sq.length - (intOf v8).toNat)
 case atStart =>
  refine ⟨0, 0, by omega, rfl, rfl, by omega, by omega, ⟨rfl, by omega⟩, ⟨aH (aH (Below.refl _ _) _) _⟩, ⟨cz (heap_alloc_new w _) _⟩, ⟨?_⟩⟩; have := heap_alloc_new (w.alloc (.cells #[.slice A1 n1 c1, .int .i64 W, .int .i64 S, .int .i64 t, .slice A4 sq.length c4] 25)) (.cells #[.int .i64 lo, .int .i64 hi, .slice Ah sh.length ch] 66)
  rwa [World.size_alloc] at this
 case round =>
  obtain ⟨i, a, hi8, rfl, rfl, ha0, ha1, HA, HB, BX, BH⟩ := hrel; have hz4 : wr.cell? ⟨w.heap.size, 4, none⟩ = some (.slice A4 sq.length c4) := (af BX.out 4).trans rfl; by_cases hil : i < sq.length
  ·have hi1 : decide ((i : Int) < (sq.length : Int)) = true := decide_eq_true (by omega); have HIL := aa.mk hil; have hz0 : wr.cell? ⟨w.heap.size, 0, none⟩ = some (.slice A1 n1 c1) := (af BX.out 0).trans rfl; have hz1 : wr.cell? ⟨w.heap.size, 1, none⟩ = some (.int .i64 W) := (af BX.out 1).trans rfl; have hz2 : wr.cell? ⟨w.heap.size, 2, none⟩ = some (.int .i64 S) := (af BX.out 2).trans rfl; have hz3 : wr.cell? ⟨w.heap.size, 3, none⟩ = some (.int .i64 t) := (af BX.out 3).trans rfl; have hb0 : wr.cell? ⟨w.heap.size + 1, 0, none⟩ = some (.int .i64 lo) := (af BH.out 0).trans rfl; have hb1 : wr.cell? ⟨w.heap.size + 1, 1, none⟩ = some (.int .i64 hi) := (af BH.out 1).trans rfl; have hb2 : wr.cell? ⟨w.heap.size + 1, 2, none⟩ = some (.slice Ah sh.length ch) := (af BH.out 2).trans rfl; (go_wp2_with (fail)); refine (Ng A1 n1 c1 W S t A4 c4 sq lo hi Ah ch sh i _ (Kd.aY HR.out HB.out) (Kd.aY HH.out HB.out) HIL.out HQ.out HS.out).mono ?_; rintro e w2 ⟨rfl, hb⟩; have HB2 := aa.mk (ax HB.out hb); have BX2 := aa.mk (au BX.out hb); have BH2 := aa.mk (au BH.out hb); have HLR := aa.mk (zV W S (HQ.out.at HIL.out).2 HS.out sh.length (Nat.le_refl _)); clear hb hz0 hz1 hz2 hz3 hz4 hb0 hb1 hb2 HB BX BH; obtain ⟨wo, rfl⟩ : ∃ wo : World, wo = w2 := ⟨_, rfl⟩; go_wp2
   go_loopw [9, 10, 11, 12] (fun v9 v10 v11 v12 wr => ∃ (j : Nat) (n : Int), j ≤ nd.length ∧ v9 = .int .i64 n ∧ v10 = .int .i64 j ∧ 0 ≤ n ∧ n ≤ 1000 ∧ aa ((nd.take j).foldl (iI W S (cu sq (i : Int)) sh i) (some (jQ W S (cu sq (i : Int)) sh sh.length)) = some n) ∧ aa (Below w.heap.size w wr) ∧ aa (wr.heap[w.heap.size]? = some (.cells #[.slice A1 n1 c1, .int .i64 W, .int .i64 S, .int .i64 t, .slice A4 sq.length c4] 25 (0, 0))) ∧ aa (wr.heap[w.heap.size + 1]? = some (.cells #[.int .i64 lo, .int .i64 hi, .slice Ah sh.length ch] 66 (0, 0)))) (fun _ v10 _ _ _ => nd.length - (intOf v10).toNat)
   case atStart => exact ⟨0, _, by omega, rfl, rfl, HLR.out.1, HLR.out.2, ⟨rfl⟩, HB2, BX2, BH2⟩
   case round =>
    clear HB2 BX2 BH2; obtain ⟨j, n, hjl, rfl, rfl, hn0, hn1, HF, HB, BX, BH⟩ := hrel; by_cases hjn : j < nd.length
    ·have hj1 : decide ((j : Int) < (nd.length : Int)) = true := decide_eq_true (by omega); obtain ⟨bd, e, hx0, hx1⟩ := UD (Kd.aY HN.out HB.out) (j : Int) (by omega) (by omega); cases e; rw [Int.toNat_natCast] at hx0 hx1; have HD := aa.mk (Na W S (cu sq (i : Int)) sh i nd (some (jQ W S (cu sq (i : Int)) sh sh.length)) j hjn); obtain ⟨d, hd⟩ : ∃ d, d = wH nd (j : Int) := ⟨_, rfl⟩; rw [← hd] at HD hx0 hx1; (have hj8 : (j : Int) < 8 := by have := HNL.out; omega); (have hjlt : (j : Int) < (nd.length : Int) := by omega); clear hd; by_cases hc : d.f0 = (i : Int)
     ·(have hc1 : (d.f0 == (i : Int)) = true := by simp [hc]); (have hc2 : (d.f0 != (i : Int)) = false := by simp [hc]); have HC := aa.mk hc; have hb0 : wr.cell? ⟨w.heap.size + 1, 0, none⟩ = some (.int .i64 lo) := (af BH.out 0).trans rfl; have hb1 : wr.cell? ⟨w.heap.size + 1, 1, none⟩ = some (.int .i64 hi) := (af BH.out 1).trans rfl; have hb2 : wr.cell? ⟨w.heap.size + 1, 2, none⟩ = some (.slice Ah sh.length ch) := (af BH.out 2).trans rfl; have HSH := aa.mk (Ay HS.out.2 d.f1); clear hc; go_wp2_with (fail)
      go_region_held3 (fun w' => w'.cell? ⟨w.heap.size + 1, 0, none⟩ = some (.int .i64 lo) ∧ w'.cell? ⟨w.heap.size + 1, 1, none⟩ = some (.int .i64 hi) ∧ w'.cell? ⟨w.heap.size + 1, 2, none⟩ = some (.slice Ah sh.length ch) ∧ w'.cell? ⟨(bd.add (j * 2)).block, (bd.add (j * 2)).off + 1, none⟩ = some (.int .u8 d.f1))
       (go_keep)
       (((with_reducible refine (MR lo hi Ah ch sh d.f1 _ (Kd.aY HH.out (eF HB.out)) HS8.out).mono ?_)
         rintro e w3 ⟨rfl, hb⟩; have HB3 := aa.mk (ax (eF HB.out) hb); have BX3 := aa.mk (au (dO BX.out) hb); have BH3 := aa.mk (au (dO BH.out) hb); have hb0' : w3.cell? ⟨w.heap.size + 1, 0, none⟩ = some (.int .i64 lo) := (af BH3.out 0).trans rfl; have hb1' : w3.cell? ⟨w.heap.size + 1, 1, none⟩ = some (.int .i64 hi) := (af BH3.out 1).trans rfl; have hb2' : w3.cell? ⟨w.heap.size + 1, 2, none⟩ = some (.slice Ah sh.length ch) := (af BH3.out 2).trans rfl; have hx1' : w3.cell? ⟨(bd.add (j * 2)).block, (bd.add (j * 2)).off + 1, none⟩ = some (.int .u8 d.f1) := (hb.cell (World.block_lt_of_cell? _ _ hx1)).trans hx1
         clear hb))
      obtain ⟨sv, hsv⟩ : ∃ sv, sv = (iH sh d.f1).1 := ⟨_, rfl⟩; obtain ⟨sb, hsb⟩ : ∃ sb, sb = (iH sh d.f1).2 := ⟨_, rfl⟩; rw [← hsv, ← hsb]; have HSV := aa.mk hsv; have HSB := aa.mk hsb; clear hsv hsb hb0 hb1 hb2 hx0 hx1 hb0' hb1' hb2' hx1'
      cases sb with
      | false =>
       go_wp2
       go_ret
       refine ⟨?_, HB3.out⟩
       have hnone : nC W S (cu sq (i : Int)) sh i nd = none := by
        refine Kz W S _ sh i nd _ (j + 1) ?_; rw [HD.out, HF.out, iI]; rw [if_pos HC.out, if_neg (by rw [← HSB.out]; simp)]
       rw [iY, Cu hnone _ HIL.out]; rfl
      | true =>
       obtain ⟨s', rfl⟩ := Int.eq_ofNat_of_zero_le (show 0 ≤ sv by rw [HSV.out]; exact HSH.out.1); have HS1 := aa.mk (show s' < 1024 by have h := HSH.out.2; rw [← HSV.out] at h; exact Int.ofNat_lt.1 h); have hz0 : w3.cell? ⟨w.heap.size, 0, none⟩ = some (.slice A1 n1 c1) := (af BX3.out 0).trans rfl; have hz1 : w3.cell? ⟨w.heap.size, 1, none⟩ = some (.int .i64 W) := (af BX3.out 1).trans rfl; have hz2 : w3.cell? ⟨w.heap.size, 2, none⟩ = some (.int .i64 S) := (af BX3.out 2).trans rfl; have hz3 : w3.cell? ⟨w.heap.size, 3, none⟩ = some (.int .i64 t) := (af BX3.out 3).trans rfl; have hz4 : w3.cell? ⟨w.heap.size, 4, none⟩ = some (.slice A4 sq.length c4) := (af BX3.out 4).trans rfl; (go_wp2_with (fail)); refine (H7 A1 n1 c1 W S t A4 c4 sq i s' _ (Kd.aY HR.out HB3.out) HIL.out (HQ.out.at HIL.out).2 (HQ.out.at HIL.out).1 HS1.out).mono ?_; rintro e w4 ⟨rfl, hb⟩; have HB4 := aa.mk (ax HB3.out hb); have BX4 := aa.mk (au BX3.out hb); have BH4 := aa.mk (au BH3.out hb); have HCR := aa.mk (BL W S (HQ.out.at HIL.out).2 (s' : Int) (Int.natCast_nonneg _) (Int.ofNat_lt.2 HS1.out))
       have HN1 := aa.mk (show (nd.take (j + 1)).foldl (iI W S (cu sq (i : Int)) sh i) (some (jQ W S (cu sq (i : Int)) sh sh.length)) = some (mx n (sZ W S (cu sq (i : Int)) (s' : Int))) by
        rw [HD.out, HF.out, iI]
        rw [if_pos HC.out, if_pos HSB.out.symm, ← HSV.out])
       clear hb hz0 hz1 hz2 hz3 hz4; obtain ⟨cv, hcv⟩ : ∃ cv, cv = sZ W S (cu sq (i : Int)) (s' : Int) := ⟨_, rfl⟩; rw [← hcv] at HCR HN1 ⊢; clear hcv; go_wp2
       go_roundw
       (case rel => exact ⟨j + 1, mx n cv, by omega, rfl, by go_num, by unfold mx; split <;> omega, by have := HCR.out; unfold mx; split <;> omega, HN1, HB4, BX4, BH4⟩); case measure => simp [intOf]; omega
     ·(have hc1 : (d.f0 == (i : Int)) = false := by simp [hc]); (have hc2 : (d.f0 != (i : Int)) = true := by simp [hc]); have HC := aa.mk hc; clear hc; go_wp2
      go_roundw
      (case rel => exact ⟨j + 1, n, by omega, rfl, by go_num, hn0, hn1, ⟨by rw [HD.out, HF.out, iI, if_neg HC.out]⟩, HB, BX, BH⟩); case measure => simp [intOf]; omega
    ·(obtain rfl : j = nd.length := by omega); (have hj1 : decide ((nd.length : Int) < (nd.length : Int)) = false := by simp); have hi9 : (i : Int) < 8 := by have := HQ.out.1; have := HIL.out; omega
     have HM := aa.mk (show iP W S sq sh nd (i + 1) = some (a + n) by
      have h := HF.out; rw [List.take_length] at h
      rw [iP, HA.out.1, Option.bind_some, nC, h, Option.bind_some])
     (have ha2 : a ≤ 10000 := by have := HA.out.2; omega); go_wp2
     go_roundw
     (case rel => exact ⟨i + 1, a + n, by omega, rfl, by go_num, by omega, by omega, ⟨HM.out, by have := HA.out.2; push_cast; omega⟩, HB, BX, BH⟩); case measure => simp [intOf]; omega
  ·(obtain rfl : i = sq.length := by omega); (have hi1 : decide ((sq.length : Int) < (sq.length : Int)) = false := by simp); go_wp2
   go_ret
   refine ⟨?_, HB.out⟩; rw [iY, HA.out.1]; rfl
def A8 (hs : List S66) : Prop := hs.length ≤ 8 ∧ ∀ h ∈ hs, pY h.f1
theorem A8.at {hs : List S66} (h : A8 hs) {i : Nat} (hi : i < hs.length) : pY (ah hs (i : Int)).f1 := by
 rw [lg hs i hi]; exact h.2 _ (List.getElem_mem hi)
def jw (W S t : Int) (sq : List (List S27)) (nd : List kL) : List S66 → Bool
 | [] => false
 | h :: r => if iY W S sq h.f1 nd ≤ t then true else jw W S t sq nd r
theorem MZ (W S t : Int) (sq : List (List S27)) (nd : List kL) (hs : List S66) (j : Nat) (h : j < hs.length) : jw W S t sq nd (hs.drop j) = if iY W S sq (ah hs (j : Int)).f1 nd ≤ t then true else jw W S t sq nd (hs.drop (j + 1)) := by
 rw [List.drop_eq_getElem_cons h, jw, lg hs j h]
set_option maxRecDepth 100000 in
set_option maxHeartbeats 4000000 in
theorem Qu (A1 : Option Addr) (c1 : Nat) (hs : List S66) (W S t : Int) (A4 : Option Addr) (c4 : Nat) (sq : List (List S27)) (An : Option Addr) (cn : Nat) (nd : List kL) (w : World)
 (hh : Kd.C k66 w A1 hs.length hs) (hr : Kd.C (Kd.slice 27 k27) w A4 sq.length sq) (hn : qI.C w An nd.length nd) (hnl : nd.length ≤ 8) (hq : nZ sq) (hho : A8 hs) :
 Calls Try.prog 81 #[.agg #[.slice A1 hs.length c1, .int .i64 W, .int .i64 S, .int .i64 t, .slice A4 sq.length c4], .slice An nd.length cn] w fun e w' => e = .returned (.bool (jw W S t sq nd hs)) ∧ Below w.heap.size w w' := by
 have HR := aa.mk hr; have HH := aa.mk hh; have HN := aa.mk hn; have HNL := aa.mk hnl; have HQ := aa.mk hq; have HS := aa.mk hho; have HS8 := aa.mk hho.1; clear hr hh hn hnl hq hho; go_enter Try.func81, Try.ntmps81; go_wp2
 go_loopw [5] (fun v5 wr => ∃ j : Nat, j ≤ hs.length ∧ v5 = .int .i64 j ∧ aa (jw W S t sq nd hs = jw W S t sq nd (hs.drop j)) ∧ aa (Below w.heap.size w wr) ∧ aa (wr.heap[w.heap.size]? = some (.cells #[.slice A1 hs.length c1, .int .i64 W, .int .i64 S, .int .i64 t, .slice A4 sq.length c4] 25 (0, 0)))) (fun v5 _ => hs.length - (intOf v5).toNat)
 case atStart => exact ⟨0, by omega, rfl, ⟨rfl⟩, ⟨aH (Below.refl _ _) _⟩, ⟨heap_alloc_new w _⟩⟩
 case round =>
  obtain ⟨j, hj, rfl, HA, HB, BX⟩ := hrel; have hz0 : wr.cell? ⟨w.heap.size, 0, none⟩ = some (.slice A1 hs.length c1) := (af BX.out 0).trans rfl; by_cases hjl : j < hs.length
  ·have hj1 : decide ((j : Int) < (hs.length : Int)) = true := decide_eq_true (by omega); (have hjlt : (j : Int) < (hs.length : Int) := by omega); (have hj8 : (j : Int) < 8 := by have := HS8.out; omega); have HD := aa.mk (HA.out.trans (MZ W S t sq nd hs j hjl)); have HSJ := aa.mk (HS.out.at hjl); obtain ⟨ad, Ah, ch, e, hx0, hx1, hx2, hl2, hi2⟩ := qf (Kd.aY HH.out HB.out) (j : Int) (by omega) (by omega); cases e; rw [Int.toNat_natCast] at hx0 hx1 hx2; obtain ⟨h, hhd⟩ : ∃ h, h = ah hs (j : Int) := ⟨_, rfl⟩; rw [← hhd] at HD HSJ hx0 hx1 hx2 hl2 hi2; have HI2 := aa.mk hi2; have hz1 : wr.cell? ⟨w.heap.size, 1, none⟩ = some (.int .i64 W) := (af BX.out 1).trans rfl; have hz2 : wr.cell? ⟨w.heap.size, 2, none⟩ = some (.int .i64 S) := (af BX.out 2).trans rfl; have hz3 : wr.cell? ⟨w.heap.size, 3, none⟩ = some (.int .i64 t) := (af BX.out 3).trans rfl; have hz4 : wr.cell? ⟨w.heap.size, 4, none⟩ = some (.slice A4 sq.length c4) := (af BX.out 4).trans rfl; clear hhd hi2 hl2 HA; go_wp2_with (fail)
   go_region_held3 (fun w' => w'.cell? ⟨w.heap.size, 0, none⟩ = some (.slice (some ad) hs.length c1) ∧ w'.cell? ⟨w.heap.size, 1, none⟩ = some (.int .i64 W) ∧ w'.cell? ⟨w.heap.size, 2, none⟩ = some (.int .i64 S) ∧ w'.cell? ⟨w.heap.size, 3, none⟩ = some (.int .i64 t) ∧ w'.cell? ⟨w.heap.size, 4, none⟩ = some (.slice A4 sq.length c4) ∧ w'.cell? (ad.add (j * 3)) = some (.int .i64 h.f0.f0) ∧ w'.cell? ⟨(ad.add (j * 3)).block, (ad.add (j * 3)).off + 1, none⟩ = some (.int .i64 h.f0.f1) ∧ w'.cell? ⟨(ad.add (j * 3)).block, (ad.add (j * 3)).off + 2, none⟩ = some (.slice Ah h.f1.length ch))
    (go_keep)
    (((with_reducible refine (E9 (some ad) hs.length c1 W S t A4 c4 sq h.f0.f0 h.f0.f1 Ah ch h.f1 An cn nd _ (Kd.aY HR.out (eF HB.out)) (Kd.aY HI2.out (eF (Below.refl _ _))) (Kd.aY HN.out (eF HB.out)) HNL.out HQ.out HSJ.out).mono ?_)
      rintro e w2 ⟨rfl, hb⟩; have HB2 := aa.mk (ax (eF HB.out) hb); have BX2 := aa.mk (au (dO BX.out) hb); have hz0' : w2.cell? ⟨w.heap.size, 0, none⟩ = some (.slice (some ad) hs.length c1) := (af BX2.out 0).trans rfl; have hz1' : w2.cell? ⟨w.heap.size, 1, none⟩ = some (.int .i64 W) := (af BX2.out 1).trans rfl; have hz2' : w2.cell? ⟨w.heap.size, 2, none⟩ = some (.int .i64 S) := (af BX2.out 2).trans rfl; have hz3' : w2.cell? ⟨w.heap.size, 3, none⟩ = some (.int .i64 t) := (af BX2.out 3).trans rfl; have hz4' : w2.cell? ⟨w.heap.size, 4, none⟩ = some (.slice A4 sq.length c4) := (af BX2.out 4).trans rfl; have hx0' : w2.cell? (ad.add (j * 3)) = some (.int .i64 h.f0.f0) := (hb.cell (World.block_lt_of_cell? _ _ hx0)).trans hx0; have hx1' : w2.cell? ⟨(ad.add (j * 3)).block, (ad.add (j * 3)).off + 1, none⟩ = some (.int .i64 h.f0.f1) := (hb.cell (World.block_lt_of_cell? _ _ hx1)).trans hx1; have hx2' : w2.cell? ⟨(ad.add (j * 3)).block, (ad.add (j * 3)).off + 2, none⟩ = some (.slice Ah h.f1.length ch) := (hb.cell (World.block_lt_of_cell? _ _ hx2)).trans hx2
      clear hb))
   obtain ⟨mv, hmv⟩ : ∃ mv, mv = iY W S sq h.f1 nd := ⟨_, rfl⟩; rw [← hmv] at HD ⊢; clear hmv hx0 hx1 hx2 hz0 hz1 hz2 hz3 hz4 hx0' hx1' hx2' hz0' hz1' hz2' hz3' hz4'; by_cases hc : mv ≤ t
   ·have hc1 : decide (mv ≤ t) = true := decide_eq_true hc; have HC := aa.mk hc; go_wp2
    go_ret
    exact ⟨by rw [HD.out, if_pos HC.out]; rfl, HB2.out⟩
   ·have hc1 : decide (mv ≤ t) = false := decide_eq_false hc; have HC := aa.mk hc; have hc2 : t < mv := Int.not_le.1 hc; clear hc; go_wp2
    go_roundw
    (case rel => exact ⟨j + 1, by omega, by go_num, ⟨HD.out.trans (if_neg HC.out)⟩, HB2, BX2⟩); case measure => simp [intOf]; omega
  ·(obtain rfl : j = hs.length := by omega); (have hj1 : decide ((hs.length : Int) < (hs.length : Int)) = false := by simp); go_wp2
   go_ret
   exact ⟨by rw [HA.out, List.drop_length]; rfl, HB.out⟩
def ik (W S t : Int) (sq : List (List S27)) : Nat → List S66 → List Int
 | _, [] => []
 | j, h :: r => if iY W S sq h.f1 [] ≤ t then (j : Int) :: ik W S t sq (j + 1) r else ik W S t sq (j + 1) r
theorem D8 (W S t : Int) (sq : List (List S27)) (hs : List S66) (j : Nat) (h : j < hs.length) : ik W S t sq j (hs.drop j) = if iY W S sq (ah hs (j : Int)).f1 [] ≤ t then (j : Int) :: ik W S t sq (j + 1) (hs.drop (j + 1)) else ik W S t sq (j + 1) (hs.drop (j + 1)) := by
 rw [List.drop_eq_getElem_cons h, ik, lg hs j h]
theorem Jv (A1 : Option Addr) (n1 c1 : Nat) (W S t : Int) (A4 : Option Addr) (c4 : Nat) (sq : List (List S27)) (lo hi : Int) (Ah : Option Addr) (ch : Nat) (sh : List S86) (w : World)
 (hr : Kd.C (Kd.slice 27 k27) w A4 sq.length sq) (hh : k86.C w Ah sh.length sh) (hq : nZ sq) (hs : pY sh) :
 Calls Try.prog 57 #[.agg #[.slice A1 n1 c1, .int .i64 W, .int .i64 S, .int .i64 t, .slice A4 sq.length c4], .agg #[.int .i64 lo, .int .i64 hi, .slice Ah sh.length ch], .slice none 0 0] w fun e w' => e = .returned (.int .i64 (iY W S sq sh [])) ∧ Below w.heap.size w w' :=
 E9 A1 n1 c1 W S t A4 c4 sq lo hi Ah ch sh none 0 [] w hr hh (Kd.OW _ _) (by decide) hq hs
set_option maxRecDepth 100000 in
set_option maxHeartbeats 4000000 in
theorem NL (A1 : Option Addr) (c1 : Nat) (hs : List S66) (W S t : Int) (A4 : Option Addr) (c4 : Nat) (sq : List (List S27)) (w : World)
 (hh : Kd.C k66 w A1 hs.length hs) (hr : Kd.C (Kd.slice 27 k27) w A4 sq.length sq) (hq : nZ sq) (hho : A8 hs) :
 Calls Try.prog 61 #[.agg #[.slice A1 hs.length c1, .int .i64 W, .int .i64 S, .int .i64 t, .slice A4 sq.length c4]] w fun e w' => ∃ v, e = .returned v ∧ Kd.R (Kd.int .i64) 3 w' w.heap.size (fun _ => True) v (ik W S t sq 0 hs) ∧ Below w.heap.size w w' := by
 have HR := aa.mk hr; have HH := aa.mk hh; have HQ := aa.mk hq; have HS := aa.mk hho; have HS8 := aa.mk hho.1; clear hr hh hq hho; go_enter Try.func61, Try.ntmps61; go_wp2
 go_loopw [3, 4] (fun v3 v4 wr => ∃ (j : Nat) (acc : List Int), j ≤ hs.length ∧ v4 = .int .i64 j ∧ aa (acc ++ ik W S t sq j (hs.drop j) = ik W S t sq 0 hs ∧ acc.length ≤ j) ∧ aa (Kd.R (Kd.int .i64) 3 wr w.heap.size (fun _ => True) v3 acc) ∧ aa (Below w.heap.size w wr) ∧ aa (wr.heap[w.heap.size]? = some (.cells #[.slice A1 hs.length c1, .int .i64 W, .int .i64 S, .int .i64 t, .slice A4 sq.length c4] 25 (0, 0)))) (fun _ v4 _ => hs.length - (intOf v4).toNat)
 case atStart => exact ⟨0, [], by omega, rfl, ⟨rfl, by simp⟩, ⟨Kd.uj _ _ _ _ _⟩, ⟨aH (Below.refl _ _) _⟩, ⟨heap_alloc_new w _⟩⟩
 case round =>
  obtain ⟨j, acc, hj, rfl, HA, HO, HB, BX⟩ := hrel; have hz0 : wr.cell? ⟨w.heap.size, 0, none⟩ = some (.slice A1 hs.length c1) := (af BX.out 0).trans rfl; by_cases hjl : j < hs.length
  ·have hj1 : decide ((j : Int) < (hs.length : Int)) = true := decide_eq_true (by omega); (have hjlt : (j : Int) < (hs.length : Int) := by omega); (have hj8 : (j : Int) < 8 := by have := HS8.out; omega); have HD := aa.mk (D8 W S t sq hs j hjl); have HSJ := aa.mk (HS.out.at hjl); obtain ⟨ad, Ah, ch, e, hx0, hx1, hx2, hl2, hi2⟩ := qf (Kd.aY HH.out HB.out) (j : Int) (by omega) (by omega); cases e; rw [Int.toNat_natCast] at hx0 hx1 hx2; obtain ⟨h, hhd⟩ : ∃ h, h = ah hs (j : Int) := ⟨_, rfl⟩; rw [← hhd] at HD HSJ hx0 hx1 hx2 hl2 hi2; have HI2 := aa.mk hi2; have hz1 : wr.cell? ⟨w.heap.size, 1, none⟩ = some (.int .i64 W) := (af BX.out 1).trans rfl; have hz2 : wr.cell? ⟨w.heap.size, 2, none⟩ = some (.int .i64 S) := (af BX.out 2).trans rfl; have hz3 : wr.cell? ⟨w.heap.size, 3, none⟩ = some (.int .i64 t) := (af BX.out 3).trans rfl; have hz4 : wr.cell? ⟨w.heap.size, 4, none⟩ = some (.slice A4 sq.length c4) := (af BX.out 4).trans rfl; clear hhd hi2 hl2; go_wp2_with (fail)
   go_region_held3 (fun w' => w'.cell? ⟨w.heap.size, 0, none⟩ = some (.slice (some ad) hs.length c1) ∧ w'.cell? ⟨w.heap.size, 1, none⟩ = some (.int .i64 W) ∧ w'.cell? ⟨w.heap.size, 2, none⟩ = some (.int .i64 S) ∧ w'.cell? ⟨w.heap.size, 3, none⟩ = some (.int .i64 t) ∧ w'.cell? ⟨w.heap.size, 4, none⟩ = some (.slice A4 sq.length c4) ∧ w'.cell? (ad.add (j * 3)) = some (.int .i64 h.f0.f0) ∧ w'.cell? ⟨(ad.add (j * 3)).block, (ad.add (j * 3)).off + 1, none⟩ = some (.int .i64 h.f0.f1) ∧ w'.cell? ⟨(ad.add (j * 3)).block, (ad.add (j * 3)).off + 2, none⟩ = some (.slice Ah h.f1.length ch))
    (go_keep)
    (((with_reducible refine (Jv (some ad) hs.length c1 W S t A4 c4 sq h.f0.f0 h.f0.f1 Ah ch h.f1 _ (Kd.aY HR.out (eF HB.out)) (Kd.aY HI2.out (eF (Below.refl _ _))) HQ.out HSJ.out).mono ?_)
      rintro e w2 ⟨rfl, hb⟩; have HB2 := aa.mk (ax (eF HB.out) hb); have BX2 := aa.mk (au (dO BX.out) hb); have HO2 := aa.mk (Kd.eX (Kd.uQ HO.out) hb); have hz0' : w2.cell? ⟨w.heap.size, 0, none⟩ = some (.slice (some ad) hs.length c1) := (af BX2.out 0).trans rfl; have hz1' : w2.cell? ⟨w.heap.size, 1, none⟩ = some (.int .i64 W) := (af BX2.out 1).trans rfl; have hz2' : w2.cell? ⟨w.heap.size, 2, none⟩ = some (.int .i64 S) := (af BX2.out 2).trans rfl; have hz3' : w2.cell? ⟨w.heap.size, 3, none⟩ = some (.int .i64 t) := (af BX2.out 3).trans rfl; have hz4' : w2.cell? ⟨w.heap.size, 4, none⟩ = some (.slice A4 sq.length c4) := (af BX2.out 4).trans rfl; have hx0' : w2.cell? (ad.add (j * 3)) = some (.int .i64 h.f0.f0) := (hb.cell (World.block_lt_of_cell? _ _ hx0)).trans hx0; have hx1' : w2.cell? ⟨(ad.add (j * 3)).block, (ad.add (j * 3)).off + 1, none⟩ = some (.int .i64 h.f0.f1) := (hb.cell (World.block_lt_of_cell? _ _ hx1)).trans hx1; have hx2' : w2.cell? ⟨(ad.add (j * 3)).block, (ad.add (j * 3)).off + 2, none⟩ = some (.slice Ah h.f1.length ch) := (hb.cell (World.block_lt_of_cell? _ _ hx2)).trans hx2
      clear hb))
   obtain ⟨mv, hmv⟩ : ∃ mv, mv = iY W S sq h.f1 [] := ⟨_, rfl⟩; rw [← hmv] at HD ⊢; clear hmv hx0 hx1 hx2 hz0 hz1 hz2 hz3 hz4 hx0' hx1' hx2' hz0' hz1' hz2' hz3' hz4'; by_cases hc : mv ≤ t
   ·have hc1 : decide (mv ≤ t) = true := decide_eq_true hc; have HC := aa.mk hc; have HLIM := aa.mk (show (acc.length + 1) * 8 ≤ 140737488355328 by have := HA.out.2; have := HS8.out; omega); (go_wp2_with (at_builtin; refine Kd.Cm (Kd.int .i64) (w0 := w) w.heap.size rfl (.tmp 22) (.tmp 24) 28 3 (.int .i64 0) 8 rfl Try.underlying28 info3 rfl (by decide) (by decide) _ acc (j : Int) [.int .i64 j] (fun _ => True) (fun _ => False) rfl rfl rfl (fun _ h => h.elim) (fun _ _ => trivial) HO2.out HB2.out HB2.out.size HLIM.out ?_; intro v1 w3 ho hb3 hg hat)); have HO3 := aa.mk ho; have BX3 := aa.mk (bQ BX2.out hg (Kd.mO HO2.out BX2.out (by decide))); have HB3 := aa.mk hb3; clear ho hb3 hg hat; go_wp2
    go_roundw
    (case rel => exact ⟨j + 1, acc ++ [(j : Int)], by omega, by go_num, ⟨by rw [← HA.out.1, HD.out, if_pos HC.out, List.append_assoc]; rfl, by have := HA.out.2; simp; omega⟩, HO3, HB3, BX3⟩); case measure => simp [intOf]; omega
   ·have hc1 : decide (mv ≤ t) = false := decide_eq_false hc; have HC := aa.mk hc; have hc2 : t < mv := Int.not_le.1 hc; clear hc; go_wp2
    go_roundw
    (case rel => exact ⟨j + 1, acc, by omega, by go_num, ⟨by rw [← HA.out.1, HD.out, if_neg HC.out], by have := HA.out.2; omega⟩, HO2, HB2, BX2⟩); case measure => simp [intOf]; omega
  ·(obtain rfl : j = hs.length := by omega); (have hj1 : decide ((hs.length : Int) < (hs.length : Int)) = false := by simp); go_wp2
   go_ret
   have h := HA.out.1; rw [List.drop_length, ik, List.append_nil] at h; rw [← h]; exact ⟨_, rfl, HO.out, HB.out⟩
theorem oK (n lo hi : Int) (w : World) : Calls Try.prog 67 #[.int .i64 n, .int .i64 lo, .int .i64 hi] w fun e w' => e = .returned (.bool (inP n lo hi)) ∧ w = w' := by
 by_cases h1 : lo ≤ n
 ·have e1 : decide (lo ≤ n) = true := decide_eq_true h1; by_cases h2 : n ≤ hi
  ·have e2 : decide (n ≤ hi) = true := decide_eq_true h2; have e3 := aa.mk (show inP n lo hi = true by rw [inP, e1, e2]; rfl); go_enter Try.func67, Try.ntmps67; go_wp2
   go_ret
   exact ⟨by rw [e3.out]; rfl, rfl⟩
  ·have e2 : decide (n ≤ hi) = false := decide_eq_false h2; have e3 := aa.mk (show inP n lo hi = false by rw [inP, e1, e2]; rfl); go_enter Try.func67, Try.ntmps67; go_wp2
   go_ret
   exact ⟨by rw [e3.out]; rfl, rfl⟩
 ·have e1 : decide (lo ≤ n) = false := decide_eq_false h1; have e3 := aa.mk (show inP n lo hi = false by rw [inP, e1]; rfl); go_enter Try.func67, Try.ntmps67; go_wp2
  go_ret
  exact ⟨by rw [e3.out]; rfl, rfl⟩
theorem Il (q : List S27) (j : Nat) (h : j < q.length) : ko (q.drop j) = if inP (eu q (j : Int)).f0 0 1023 = true ∧ inP (eu q (j : Int)).f1 0 1023 = true then (if gp (eu q (j : Int)).f1 (eu q (j : Int)).f0 = 0 then ko (q.drop (j + 1)) else 2) else 1 := by
 (have e : eu q (j : Int) = q[j] := by simp [eu, List.getD_eq_getElem?_getD, h]); rw [List.drop_eq_getElem_cons h, ko, e]
def xn (q : List S27) : Int := if q.length > 4 then 6 else ko q
set_option maxRecDepth 100000 in
set_option maxHeartbeats 2000000 in
theorem AU (A : Option Addr) (c : Nat) (q : List S27) (w : World) (hq : Kd.C k27 w A q.length q) : Calls Try.prog 68 #[.slice A q.length c] w fun e w' => e = .returned (.int .i64 (xn q)) ∧ Below w.heap.size w w' := by
 have HQ := aa.mk hq; clear hq; by_cases h4 : q.length > 4
 ·have h4' : decide (4 < (q.length : Int)) = true := decide_eq_true (by omega); have h4n : decide (4 < q.length) = true := decide_eq_true h4; have HE := aa.mk (show xn q = 6 by rw [xn, if_pos h4]); go_enter Try.func68, Try.ntmps68; go_wp2
  go_ret
  exact ⟨by rw [HE.out]; rfl, Below.refl _ _⟩
 ·have h4' : decide (4 < (q.length : Int)) = false := decide_eq_false (by omega); have h4n : decide (4 < q.length) = false := decide_eq_false h4; have HE := aa.mk (show xn q = ko q by rw [xn, if_neg h4]); have HL := aa.mk (show q.length ≤ 4 by omega); clear h4; go_enter Try.func68, Try.ntmps68; go_wp2
  go_loopw [3, 4] (fun v3 v4 wr => ∃ j : Nat, j ≤ q.length ∧ v3 = .int .i64 j ∧ aa (xn q = ko (q.drop j)) ∧ aa (Below w.heap.size w wr)) (fun v3 _ _ => q.length - (intOf v3).toNat)
  case atStart => exact ⟨0, by omega, rfl, HE, ⟨Below.refl _ _⟩⟩
  case round =>
   obtain ⟨j, hj, rfl, HA, HB⟩ := hrel; by_cases hjl : j < q.length
   ·have hj1 : decide ((j : Int) < (q.length : Int)) = true := decide_eq_true (by omega); (have hjlt : (j : Int) < (q.length : Int) := by omega); (have hj4 : (j : Int) < 4 := by have := HL.out; omega); obtain ⟨bd, e, hx0, hx1⟩ := vv (Kd.aY HQ.out HB.out) (j : Int) (by omega) (by omega); cases e; rw [Int.toNat_natCast] at hx0 hx1; have HD := aa.mk (HA.out.trans (Il q j hjl)); obtain ⟨x, hx⟩ : ∃ x, x = eu q (j : Int) := ⟨_, rfl⟩; rw [← hx] at HD hx0 hx1; clear hx HA h4n h4'; (go_wp2_with (fail)); refine (oK x.f0 0 1023 _).mono ?_; rintro e w2 ⟨rfl, rfl⟩
    cases h1 : inP x.f0 0 1023 with
    | false =>
     have H1 := aa.mk h1; clear h1; go_wp2
     go_ret
     exact ⟨by rw [HD.out, if_neg (by rw [H1.out]; simp)]; rfl, aH HB.out _⟩
    | true =>
     have H1 := aa.mk h1; clear h1; (go_wp2_with (fail)); refine (oK x.f1 0 1023 _).mono ?_; rintro e w2 ⟨rfl, rfl⟩
     cases h2 : inP x.f1 0 1023 with
     | false =>
      have H2 := aa.mk h2; clear h2; go_wp2
      go_ret
      exact ⟨by rw [HD.out, if_neg (by rw [H2.out]; simp)]; rfl, aH HB.out _⟩
     | true =>
      have H2 := aa.mk h2; clear h2; by_cases hz : gp x.f1 x.f0 = 0
      ·have HZ := aa.mk hz; (have hz1 : (Go.bits .andNot .i64 x.f1 x.f0 == 0) = true := by rw [show Go.bits .andNot .i64 x.f1 x.f0 = 0 from hz]; rfl); (have hz2 : (Go.bits .andNot .i64 x.f1 x.f0 != 0) = false := by rw [show Go.bits .andNot .i64 x.f1 x.f0 = 0 from hz]; rfl); clear hz; go_wp2
       go_roundw
       (case rel => exact ⟨j + 1, by omega, by go_num, ⟨by rw [HD.out, if_pos ⟨H1.out, H2.out⟩, if_pos HZ.out]⟩, ⟨aH HB.out _⟩⟩); case measure => simp [intOf]; omega
      ·have HZ := aa.mk hz; have hz1 : (Go.bits .andNot .i64 x.f1 x.f0 == 0) = false := beq_eq_false_iff_ne.2 hz; have hz2 : (Go.bits .andNot .i64 x.f1 x.f0 != 0) = true := bne_iff_ne.2 hz; clear hz; go_wp2
       go_ret
       exact ⟨by rw [HD.out, if_pos ⟨H1.out, H2.out⟩, if_neg HZ.out]; rfl, aH HB.out _⟩
   ·(obtain rfl : j = q.length := by omega); (have hj1 : decide ((q.length : Int) < (q.length : Int)) = false := by simp); go_wp2
    go_ret
    exact ⟨by rw [HA.out, List.drop_length]; rfl, HB.out⟩
end Go.Proofs.Ytihedeofkhapiaa.Pr
end
section
namespace Go.Proofs.Ytihedeofkhapiaa.Pr
open Go.RowKit Go.Shelf Go.Proofs.YtihedeofkhapiaaW.PrintWords Go.Proofs.YtihedeofkhapiaaW.PrintLast Go.Proofs.YtihedeofkhapiaaW.PrintMore
attribute [local go_sem] Oper.semAt_some
set_option maxRecDepth 100000 in
set_option maxHeartbeats 4000000 in
theorem dF.calls (gu : Int) (aX : Int) (uZ : Option Addr) (uX : Nat) (iW : List (S66)) (jN : Int) (jO : Int) (lS : Int) (tF : Option Addr) (tq : Nat) (fe : List (List (S27))) (r : List (List Int)) (w : World) (XC : Kd.C k66 w uZ iW.length iW) (ac2 : iW.length ≤ uX) (Xk : Kd.C (Kd.slice 27 k27) w tF fe.length fe) (aap : fe.length ≤ tq) (h : dF.f gu aX iW jN jO lS fe = some r) :
 Calls Try.prog 59 #[.agg #[.int .i64 gu, .int .u8 aX], .agg #[.slice uZ iW.length uX, .int .i64 jN, .int .i64 jO, .int .i64 lS, .slice tF fe.length tq]] w fun e w' => ∃ v0_ : Value, e = .returned (v0_) ∧ Kd.S (Kd.slice 5 (Kd.int .u8)) 88 w' w.heap.size (fun _ => True) v0_ r ∧ Below w.heap.size w w' := by
 unfold dF.f at h; by_cases hck : eH iW jN jO lS fe = 0; (case neg => rw [if_neg hck] at h; cases h); rw [if_pos hck] at h; obtain rfl := Option.some.inj h; have hsh := Eo gu aX jN jO lS iW fe; have hv := kE hck; have HV := aa.mk hv; have HS := aa.mk (uL hv.2.2.2.2.1); have HSH := aa.mk hsh; have HR0 := aa.mk XC; have HR4 := aa.mk Xk; obtain ⟨n, hn⟩ : ∃ n, n = fe.length := ⟨_, rfl⟩; (have hmk : ∀ W : World, (Instr.makeSlice 104 (.int .i64 (fe.length : Int)) (.int .i64 (fe.length : Int))).run Try.prog W = .ok (.slice (some ⟨W.heap.size, 0, none⟩) fe.length fe.length) (W.alloc (.cells (madeCells #[.slice none 0 0] fe.length) 88)) := fun W => SQ W _ hv.2.2.2.1); clear hv hck hsh h XC Xk ac2 aap; refine callsIn_wide (n := 10).1 ?_; refine callsIn_of_wp_marks Try.func59 rfl trivial ?_ rfl; simp only [Try.ntmps59, List.size_toArray, List.length_cons, List.length_nil, Nat.reduceAdd, Nat.reduceSub, Array.replicate_succ, Array.replicate_zero, List.push_toArray, List.append_toArray, List.nil_append, List.cons_append]; refine wpIn_wide.2 ?_; (go_wp2_with (fail)); refine wp_loop_ghost_k (fun gk a W => ∃ (u6 u7 u8 u9 u10 u11 u12 u13 u14 u15 u24 u25 u26 u27 u28 u29 u30 u31 u32 u33 u34 u35 u36 u37 u38 u39 u40 u41 u42 u43 u44 u45 u46 u47 u48 u49 u50 u51 u52 u53 u54 u55 u56 u57 u58 u59 u60 u61 u62 u63 u64 u65 u66 u67 u68 u69 u70 u71 u72 u73 u74 u75 u76 u77 u78 u79 u80 u81 u82 u83 u84 u85 u86 u87 u88 u89 u90 u91 u92 u93 u94 u95 u96 u97 u98 u99 u100 u101 u102 u103 u104 u105 u106 u107 u108 : Value) (i : Nat) (ds : List Deferred), gk + i = fe.length ∧ a = { tmps := #[.agg #[.int .i64 gu, .int .u8 aX], .agg #[.slice uZ iW.length uX, .int .i64 jN, .int .i64 jO, .int .i64 lS, .slice tF fe.length tq], .pointer (some ⟨w.heap.size, 0, none⟩), .pointer (some ⟨w.heap.size + 1, 0, none⟩), .slice none 0 0, .slice (some ⟨w.heap.size + 1 + 1, 0, none⟩) fe.length fe.length, u6, u7, u8, u9, u10, u11, u12, u13, u14, u15, .pointer (some ⟨w.heap.size + 1, 4, none⟩), .slice tF fe.length tq, .int .i64 fe.length, .slice (some ⟨w.heap.size + 1 + 1, 0, none⟩) fe.length fe.length, .pointer (some ⟨w.heap.size + 1, 4, none⟩), .slice tF fe.length tq, .int .i64 fe.length, .int .i64 i, u24, u25, u26, u27, u28, u29, u30, u31, u32, u33, u34, u35, u36, u37, u38, u39, u40, u41, u42, u43, u44, u45, u46, u47, u48, u49, u50, u51, u52, u53, u54, u55, u56, u57, u58, u59, u60, u61, u62, u63, u64, u65, u66, u67, u68, u69, u70, u71, u72, u73, u74, u75, u76, u77, u78, u79, u80, u81, u82, u83, u84, u85, u86, u87, u88, u89, u90, u91, u92, u93, u94, u95, u96, u97, u98, u99, u100, u101, u102, u103, u104, u105, u106, u107, u108], defers := ds } ∧ aa (rQ w gu aX uZ uX iW jN jO lS tF tq fe i ds W)) fe.length ?start ?round
 case start =>
  refine ⟨_, _, _, _, _, _, _, _, _, _, _, _, _, _, _, _, _, _, _, _, _, _, _, _, _, _, _, _, _, _, _, _, _, _, _, _, _, _, _, _, _, _, _, _, _, _, _, _, _, _, _, _, _, _, _, _, _, _, _, _, _, _, _, _, _, _, _, _, _, _, _, _, _, _, _, _, _, _, _, _, _, _, _, _, _, _, _, _, _, _, _, _, _, _, _, 0, [], by omega, rfl, ⟨⟨?_, ?_, ⟨madeCells #[.slice none 0 0] fe.length, fun _ => 0, size_madeCells _ _, ?_, ?_, fun j hj => absurd hj (by omega)⟩, ⟨fun d hd => (by cases hd), List.nodup_nil⟩, ?_⟩⟩⟩
  ·exact cz (cz (heap_alloc_new w _) _) _
  ·refine cz ?_ _; have := heap_alloc_new (w.alloc (.cells #[.int .i64 gu, .int .u8 aX] 100)) (.cells #[.slice uZ iW.length uX, .int .i64 jN, .int .i64 jO, .int .i64 lS, .slice tF fe.length tq] 25)
   rwa [World.size_alloc] at this
  ·have := heap_alloc_new ((w.alloc (.cells #[.int .i64 gu, .int .u8 aX] 100)).alloc (.cells #[.slice uZ iW.length uX, .int .i64 jN, .int .i64 jO, .int .i64 lS, .slice tF fe.length tq] 25)) (.cells (madeCells #[.slice none 0 0] fe.length) 88)
   rwa [World.size_alloc, World.size_alloc] at this
  ·intro u hu; simp [madeCells] at hu; obtain ⟨k, _, rfl⟩ := hu; rw [Nat.mod_one]; rfl
  ·exact aH (aH (aH (Below.refl _ _) _) _) _
 case round =>
  intro gk a w1 hinv; obtain ⟨u6, hinv⟩ := hinv; obtain ⟨u7, hinv⟩ := hinv; obtain ⟨u8, hinv⟩ := hinv; obtain ⟨u9, hinv⟩ := hinv; obtain ⟨u10, hinv⟩ := hinv; obtain ⟨u11, hinv⟩ := hinv; obtain ⟨u12, hinv⟩ := hinv; obtain ⟨u13, hinv⟩ := hinv; obtain ⟨u14, hinv⟩ := hinv; obtain ⟨u15, hinv⟩ := hinv; obtain ⟨u24, hinv⟩ := hinv; obtain ⟨u25, hinv⟩ := hinv; obtain ⟨u26, hinv⟩ := hinv; obtain ⟨u27, hinv⟩ := hinv; obtain ⟨u28, hinv⟩ := hinv; obtain ⟨u29, hinv⟩ := hinv; obtain ⟨u30, hinv⟩ := hinv; obtain ⟨u31, hinv⟩ := hinv; obtain ⟨u32, hinv⟩ := hinv; obtain ⟨u33, hinv⟩ := hinv; obtain ⟨u34, hinv⟩ := hinv; obtain ⟨u35, hinv⟩ := hinv; obtain ⟨u36, hinv⟩ := hinv; obtain ⟨u37, hinv⟩ := hinv; obtain ⟨u38, hinv⟩ := hinv; obtain ⟨u39, hinv⟩ := hinv; obtain ⟨u40, hinv⟩ := hinv; obtain ⟨u41, hinv⟩ := hinv; obtain ⟨u42, hinv⟩ := hinv; obtain ⟨u43, hinv⟩ := hinv; obtain ⟨u44, hinv⟩ := hinv; obtain ⟨u45, hinv⟩ := hinv; obtain ⟨u46, hinv⟩ := hinv; obtain ⟨u47, hinv⟩ := hinv; obtain ⟨u48, hinv⟩ := hinv; obtain ⟨u49, hinv⟩ := hinv; obtain ⟨u50, hinv⟩ := hinv; obtain ⟨u51, hinv⟩ := hinv; obtain ⟨u52, hinv⟩ := hinv; obtain ⟨u53, hinv⟩ := hinv; obtain ⟨u54, hinv⟩ := hinv; obtain ⟨u55, hinv⟩ := hinv; obtain ⟨u56, hinv⟩ := hinv; obtain ⟨u57, hinv⟩ := hinv; obtain ⟨u58, hinv⟩ := hinv; obtain ⟨u59, hinv⟩ := hinv; obtain ⟨u60, hinv⟩ := hinv; obtain ⟨u61, hinv⟩ := hinv; obtain ⟨u62, hinv⟩ := hinv; obtain ⟨u63, hinv⟩ := hinv; obtain ⟨u64, hinv⟩ := hinv; obtain ⟨u65, hinv⟩ := hinv; obtain ⟨u66, hinv⟩ := hinv; obtain ⟨u67, hinv⟩ := hinv; obtain ⟨u68, hinv⟩ := hinv; obtain ⟨u69, hinv⟩ := hinv; obtain ⟨u70, hinv⟩ := hinv; obtain ⟨u71, hinv⟩ := hinv; obtain ⟨u72, hinv⟩ := hinv; obtain ⟨u73, hinv⟩ := hinv; obtain ⟨u74, hinv⟩ := hinv; obtain ⟨u75, hinv⟩ := hinv; obtain ⟨u76, hinv⟩ := hinv; obtain ⟨u77, hinv⟩ := hinv; obtain ⟨u78, hinv⟩ := hinv; obtain ⟨u79, hinv⟩ := hinv; obtain ⟨u80, hinv⟩ := hinv; obtain ⟨u81, hinv⟩ := hinv; obtain ⟨u82, hinv⟩ := hinv; obtain ⟨u83, hinv⟩ := hinv; obtain ⟨u84, hinv⟩ := hinv; obtain ⟨u85, hinv⟩ := hinv; obtain ⟨u86, hinv⟩ := hinv; obtain ⟨u87, hinv⟩ := hinv; obtain ⟨u88, hinv⟩ := hinv; obtain ⟨u89, hinv⟩ := hinv; obtain ⟨u90, hinv⟩ := hinv; obtain ⟨u91, hinv⟩ := hinv; obtain ⟨u92, hinv⟩ := hinv; obtain ⟨u93, hinv⟩ := hinv; obtain ⟨u94, hinv⟩ := hinv; obtain ⟨u95, hinv⟩ := hinv; obtain ⟨u96, hinv⟩ := hinv; obtain ⟨u97, hinv⟩ := hinv; obtain ⟨u98, hinv⟩ := hinv; obtain ⟨u99, hinv⟩ := hinv; obtain ⟨u100, hinv⟩ := hinv; obtain ⟨u101, hinv⟩ := hinv; obtain ⟨u102, hinv⟩ := hinv; obtain ⟨u103, hinv⟩ := hinv; obtain ⟨u104, hinv⟩ := hinv; obtain ⟨u105, hinv⟩ := hinv; obtain ⟨u106, hinv⟩ := hinv; obtain ⟨u107, hinv⟩ := hinv; obtain ⟨u108, hinv⟩ := hinv; obtain ⟨i, ds, hgi, ha, hM⟩ := hinv; subst ha; intro J K hJ hK; (try dsimp only); clear hmk
  cases gk with
  | zero =>
   (obtain rfl : i = fe.length := by omega); (have c1 : decide (fe.length < fe.length) = false := by simp); go_wp2_with (fail)
   refine yU (C := fun W => Kd.S (Kd.slice 5 (Kd.int .u8)) 88 W w.heap.size (fun _ => True) (.slice (some ⟨w.heap.size + 1 + 1, 0, none⟩) fe.length fe.length) (fu gu aX jN jO lS iW fe) ∧ Below w.heap.size w W) (b := w.heap.size)
    ?_ ?_ ds w1 hM.out.marks ⟨rQ.all hM.out HV.out.2.2.2.1, hM.out.below⟩
   ·exact fun W D o h hb hD => ⟨Qc h.1 hD rfl, h.2.trans (belowK_b (w := w) (Nat.le_refl _) W D _ _ hb hD rfl rfl)⟩
   ·intro W h; exact ⟨_, results_tmp (show Try.f59.results = #[ResultVar.tmp 4] from rfl) _ _ _, _, rfl, h.1, h.2⟩
  | succ g0 =>
   (have c1 : decide (i < fe.length) = true := by simp; omega); have hlt : w.heap.size + 1 < w1.heap.size := bW hM.out.line; have hmm := @run_makeMap Try.prog; (go_upto_region 6 with (fail)); refine Ce (fun W => oU w1 i (fun _ => false) 0 W) ?_ ?_
   ·refine ⟨?_, ?_, ⟨DataW.map [], 0, ?_, Nat.le_refl _, fun c => rfl⟩, aH (aH (aH (Below.refl _ _) _) _) _⟩
    ·exact cz (cz (heap_alloc_new w1 _) _) _
    ·have := heap_alloc_new ((w1.alloc (.cells #[.int .i64 (i : Int)] 3)).alloc (.map #[] 0)) (.cells #[.map (some (w1.heap.size + 1))] 128)
     rwa [World.size_alloc, World.size_alloc] at this
    ·have := World.ownsMap_made (H := Unit) (w1.alloc (.cells #[.int .i64 (i : Int)] 3)) Try.prog 5 (plainElem (H := Unit) Try.prog 4); rw [World.size_alloc] at this; exact this.alloc _
   intro W hR; have HR := aa.mk hR; have HM := aa.mk (hM.out.step (hR.below)); clear hR hmm hlt; have hz0 : W.cell? ⟨w.heap.size + 1, 0, none⟩ = some (.slice uZ iW.length uX) := (af HM.out.line 0).trans rfl; have hz1 : W.cell? ⟨w.heap.size + 1, 1, none⟩ = some (.int .i64 jN) := (af HM.out.line 1).trans rfl; have hz2 : W.cell? ⟨w.heap.size + 1, 2, none⟩ = some (.int .i64 jO) := (af HM.out.line 2).trans rfl; have hz3 : W.cell? ⟨w.heap.size + 1, 3, none⟩ = some (.int .i64 lS) := (af HM.out.line 3).trans rfl; have hz4 : W.cell? ⟨w.heap.size + 1, 4, none⟩ = some (.slice tF fe.length tq) := (af HM.out.line 4).trans rfl; (go_wp2_with (fail)); refine (callsIn_wide (n := 9).1 (DI 9 _ _ _ _ _ _ _ _ _ _)).mono ?_; rintro e w2 ⟨rfl, rfl⟩; have HRL := aa.mk (HR.out.step (aH (Below.refl _ _) (.cells #[.slice uZ iW.length uX, .int .i64 jN, .int .i64 jO, .int .i64 lS, .slice tF fe.length tq] 25))); have bL := heap_alloc_new W (.cells #[.slice uZ iW.length uX, .int .i64 jN, .int .i64 jO, .int .i64 lS, .slice tF fe.length tq] 25); have hB0 := aH HM.out.below (.cells #[.slice uZ iW.length uX, .int .i64 jN, .int .i64 jO, .int .i64 lS, .slice tF fe.length tq] 25); (have hsz : (W.alloc (.cells #[.slice uZ iW.length uX, .int .i64 jN, .int .i64 jO, .int .i64 lS, .slice tF fe.length tq] 25)).heap.size = W.heap.size + 1 := by simp); have hlt1 : w1.heap.size + 1 + 1 < W.heap.size := bW HR.out.mp
   have hlt0 : w.heap.size + 1 + 1 < w1.heap.size := by
    obtain ⟨cs, fo, _, h2, _⟩ := hM.out.rows; exact bW h2
   obtain ⟨bo, hbo⟩ : ∃ bo, bo = W.heap.size := ⟨_, rfl⟩; rw [← hbo] at bL hsz hlt1 ⊢; obtain ⟨W0, hW0⟩ : ∃ W0, W0 = (W.alloc (.cells #[.slice uZ iW.length uX, .int .i64 jN, .int .i64 jO, .int .i64 lS, .slice tF fe.length tq] 25)) := ⟨_, rfl⟩; rw [← hW0] at HRL bL hsz hB0 ⊢; clear hW0 hz0 hz1 hz2 hz3 hz4 hbo HR HM; (go_wp2_with (fail)); refine (wpIn_wide (n := 10)).1 ?_
   refine wpIn_rangeFunc_ownH (n := 10) rfl (by omega) (gf := 73) (lb := #[.pointer (some ⟨bo, 0, none⟩)]) rfl trivial (enters_of Try.func73 (by kernel_rfl) rfl)
    (vV 9 (by omega) bo w1.heap.size uZ uX iW jN jO lS tF tq fe HV.out.2.2.2.1 HS.out w W0 (by omega) HR0.out HR4.out hB0 (by omega) bL) O5 (OT (by omega)) (Below.refl _ _) (fun _ => rfl)
    (fun pre W => oU w1 i (gQ gu aX jN jO lS iW fe i pre) (8 * pre.length) W ∧ bo < W.heap.size)
    (fun _ _ _ => False)
    (fun pre A B row hs hg hr => ⟨hs.1.kept hg (fun r e => by have := (hr r e).1; omega), Nat.lt_of_lt_of_le hs.2 hg.size⟩)
    (fun _ _ _ _ _ hs _ _ => hs)
    ⟨HRL.out, by omega⟩
    (fun x a' W => ∃ Bx, bo < Bx ∧ ou W Bx (dH jN jO iW fe x.1) ∧ a' = { tmps := #[.agg #[.int .i64 gu, .int .u8 aX], .agg #[.slice uZ iW.length uX, .int .i64 jN, .int .i64 jO, .int .i64 lS, .slice tF fe.length tq], .pointer (some ⟨w.heap.size, 0, none⟩), .pointer (some ⟨w.heap.size + 1, 0, none⟩), .slice none 0 0, .slice (some ⟨w.heap.size + 1 + 1, 0, none⟩) fe.length fe.length, .pointer (some ⟨w1.heap.size, 0, none⟩), .pointer (some ⟨w1.heap.size + 1 + 1, 0, none⟩), .int .i64 (x.1 : Int), .pointer (some ⟨Bx, 0, none⟩), u10, u11, u12, u13, u14, u15, .pointer (some ⟨w.heap.size + 1, 4, none⟩), .slice tF fe.length tq, .int .i64 fe.length, .slice (some ⟨w.heap.size + 1 + 1, 0, none⟩) fe.length fe.length, .pointer (some ⟨w.heap.size + 1, 4, none⟩), .slice tF fe.length tq, .int .i64 fe.length, .int .i64 i, .bool true, .int .i64 i, .map (some (w1.heap.size + 1)), .agg #[.slice uZ iW.length uX, .int .i64 jN, .int .i64 jO, .int .i64 lS, .slice tF fe.length tq], .func (.func 73) #[] #[.pointer (some ⟨bo, 0, none⟩)], .int .i64 (x.1 : Int), .agg (nums .i64 (dH jN jO iW fe x.1)).toArray, u31, u32, u33, u34, u35, u36, u37, u38, u39, u40, u41, u42, u43, u44, u45, u46, u47, u48, u49, u50, u51, u52, u53, u54, u55, u56, u57, u58, u59, u60, u61, u62, u63, u64, u65, u66, u67, u68, u69, u70, u71, u72, u73, u74, u75, u76, u77, u78, u79, u80, u81, u82, u83, u84, u85, u86, u87, u88, u89, u90, u91, u92, u93, u94, u95, u96, u97, u98, u99, u100, u101, u102, u103, u104, u105, u106, u107, u108], defers := [] })
    (fun x a' _ X Y row hs hg hr => by obtain ⟨Bx, h1, h2, h3⟩ := hs; exact ⟨Bx, h1, ⟨h2.1, uN (β := Unit) Bx _ 97 () X Y row h2.2 hg (fun r e => (hr r e).2)⟩, h3⟩)
    ?assign ?body ?done ?stop
   case assign =>
    rintro l pre x W K ⟨hI, hbW⟩ hK; dsimp only [NF]; have hlen := iL jN jO fe (ah iW (x.1 : Int)).f1 fe.length; (have hin : (Try.prog.info? 97).map (·.size) = some 64 := by kernel_rfl); have H64 := aa.mk (show (nums .i64 (dH jN jO iW fe x.1)).toArray.size = 64 by simp [nums, dH, hlen]); have HIN := aa.mk hin; have HA := aa.mk (ui (dH jN jO iW fe x.1)); have HI := aa.mk hI; have hK2 := aa.mk hK; clear hlen hin hK hI
    gi_wp2_with (refine ib rfl 97 (.tmp 9) (.tmp 30) rfl W.heap.size _ rfl rfl 97 _ (heap_alloc_new W _) (by rw [H64.out]; exact HIN.out) (by rw [H64.out]; rfl) HA.out ?_)
    rw [lQ]; have hW1 := HI.out.below.size; refine hK2.out _ _ ((KeepsOthers.alloc _ _).from _) ⟨(Below.refl _ W).alloc hW1 _, fun o ho hc => cz ho _⟩ ⟨HI.out.step (aH (Below.refl _ _) _), by simp; omega⟩ ⟨W.heap.size, hbW, ⟨iL _ _ _ _ _, heap_alloc_new W _⟩, rfl⟩
   case body =>
    rintro l pre x a' W hl ⟨r, hr⟩ ⟨hI, hbW⟩ ⟨Bx, hBx, bN, rfl⟩ hlt; (have hin : (Try.prog.info? 97).map (·.size) = some 64 := by kernel_rfl); (have hin5 : (Try.prog.info? 95).map (·.size) = some 8 := by kernel_rfl); have H64 := aa.mk (show (nums .i64 (dH jN jO iW fe x.1)).toArray.size = 64 by simp [nums, bN.1]); have HIN := aa.mk hin; have HIN5 := aa.mk hin5; have HI := aa.mk hI; have HN := aa.mk bN; have HM := aa.mk (hM.out.step hI.below); have HPL := aa.mk hlt; clear hin hin5 hI bN hlt; have hz0 : W.cell? ⟨w.heap.size + 1, 0, none⟩ = some (.slice uZ iW.length uX) := (af HM.out.line 0).trans rfl; have hz1 : W.cell? ⟨w.heap.size + 1, 1, none⟩ = some (.int .i64 jN) := (af HM.out.line 1).trans rfl; have hz2 : W.cell? ⟨w.heap.size + 1, 2, none⟩ = some (.int .i64 jO) := (af HM.out.line 2).trans rfl; have hz3 : W.cell? ⟨w.heap.size + 1, 3, none⟩ = some (.int .i64 lS) := (af HM.out.line 3).trans rfl; have hz4 : W.cell? ⟨w.heap.size + 1, 4, none⟩ = some (.slice tF fe.length tq) := (af HM.out.line 4).trans rfl; have hg0 : W.cell? ⟨w.heap.size, 0, none⟩ = some (.int .i64 gu) := (af HM.out.given 0).trans rfl; have hg1 : W.cell? ⟨w.heap.size, 1, none⟩ = some (.int .u8 aX) := (af HM.out.given 1).trans rfl
    gi_wp2_with (refine pg rfl 97 (.tmp 9) rfl Bx rfl 97 _ (0, 0) _ HN.out.2 Try.underlying97 rfl (by rw [H64.out]; exact HIN.out) ?_)
    refine ⟨trivial, (CallsIn.inRound l (callsIn_wide.2 (sums.calls gu aX uZ uX iW jN jO lS tF fe.length tq x.1 (dH jN jO iW fe x.1) W (Kd.aY HR0.out HM.out.below) x.2 HN.out.1 HV.out.2.2.2.1 (HS.out x.1 x.2)))).mono ?_⟩; rintro e w2 ⟨rfl, hb⟩; obtain ⟨es, hes⟩ : ∃ es, es = (eQ gu aX (dH jN jO iW fe x.1) (ah iW (x.1 : Int)).f1 fe.length).1 := ⟨_, rfl⟩; obtain ⟨tot, htot⟩ : ∃ tot, tot = (eQ gu aX (dH jN jO iW fe x.1) (ah iW (x.1 : Int)).f1 fe.length).2 := ⟨_, rfl⟩; rw [← hes, ← htot]; (have hel : es.length = 8 := by rw [hes]; exact jl _ _ _ _ _); have HE := aa.mk (show (nums .i64 es).toArray.size = 8 by simp [nums, hel]); have HEL := aa.mk hel; have HA := aa.mk (ui es); have HES := aa.mk (And.intro hes htot); have HB2 := aa.mk hb; have HI2 := aa.mk (HI.out.step hb); have HN2 := aa.mk (HN.out.below hb); have HM2 := aa.mk (hM.out.step HI2.out.below); clear hes htot hel hb hz0 hz1 hz2 hz3 hz4 hg0 hg1
    gi_upto_region 10 with (refine ib rfl 95 (.tmp 10) (.tmp 37) rfl w2.heap.size _ rfl rfl 95 _ (heap_alloc_new w2 _) (by rw [HE.out]; exact HIN5.out) (by rw [HE.out]; rfl) HA.out ?_; rw [lQ])
    refine BB (fun W3 => lK w1 i (gQ gu aX jN jO lS iW fe i pre) (8 * pre.length) bo W0.heap.size Bx w2.heap.size (dH jN jO iW fe x.1) es W W3) ?_ ?_
    ·exact ⟨HI2.out.step (aH (Below.refl _ _) _), HN2.out.below (aH (Below.refl _ _) _), ⟨HEL.out, heap_alloc_new w2 _⟩, ((kI HB2.out).trans (KeepsOthers.alloc _ _)).from _,
      ⟨(HB2.out.mono HI.out.below.size).alloc (Nat.le_trans HI.out.below.size HB2.out.size) _, fun o ho _ => cz ((HB2.out.block _ (bW ho)).trans ho) _⟩⟩
    intro W3 hM3; have HM3 := aa.mk hM3; have HL3 := aa.mk (hM.out.step hM3.rnd.below); obtain ⟨By, hBy⟩ : ∃ By, By = w2.heap.size := ⟨_, rfl⟩; (have hByb : w1.heap.size + 1 + 1 < By := by rw [hBy]; exact bW HI2.out.mp); rw [← hBy] at HM3 ⊢; clear hM3 HM2 HN2 HI2 HB2 hBy; have hz0 : W3.cell? ⟨w.heap.size + 1, 0, none⟩ = some (.slice uZ iW.length uX) := (af HL3.out.line 0).trans rfl; obtain ⟨ad, A2, c2, e, hx0, hx1, hx2, hl2, hi2⟩ := qf HR0.out x.1 (by omega) (by have := x.2; omega); cases e; rw [Int.toNat_natCast] at hx0 hx1 hx2; obtain ⟨sh, hsh⟩ : ∃ sh, sh = (ah iW (x.1 : Int)).f1 := ⟨_, rfl⟩; rw [← hsh] at hx2 hl2 hi2; have hx2' := (HL3.out.below.cell (World.block_lt_of_cell? w _ hx2)).trans hx2; have HI := aa.mk hi2; have HSL := aa.mk (show sh.length ≤ 8 by rw [hsh]; exact HS.out x.1 x.2); have HSHX := aa.mk hsh; have hxlt := x.2; clear hx0 hx1 hx2 hi2 hsh
    gi_wp2_with (fail)
    gi_loopg [46] sh.length (fun g v46 wr => ∃ k : Nat, k + g = sh.length ∧ v46 = .int .i64 k ∧ aa (lK w1 i (fun c => gQ gu aX jN jO lS iW fe i pre c || mF gu aX jN jO lS iW fe i x.1 k c) (8 * pre.length + k) bo W0.heap.size Bx By (dH jN jO iW fe x.1) es W wr))
    case atStart => exact ⟨0, by omega, rfl, ⟨{ HM3.out with rnd := { HM3.out.rnd with set := HM3.out.rnd.set.congr (fun c => by simp [mF]) } }⟩⟩
    case round =>
     clear hz0 hx2' HM3 HL3; obtain ⟨k, hkg, rfl, HB⟩ := hrel
     cases gk with
     | zero =>
      obtain rfl : k = sh.length := by omega
      gi_wp2_with (fail)
      refine ⟨HB.out.keeps, HB.out.kp, ⟨HB.out.rnd.sq, HB.out.rnd.mp, (HB.out.rnd.set.more ?_).congr ?_, HB.out.rnd.below⟩, Nat.lt_of_lt_of_le hbW HB.out.kp.1.size⟩
      ·have := HSL.out; simp; omega
      ·intro c; rw [Gj, ← HSHX.out]
     | succ g2 =>
      (have ck : decide (k < sh.length) = true := by simp; omega); obtain ⟨bd, e, hx0, hx1⟩ := mP HI.out k (by omega) (by omega); cases e; rw [Int.toNat_natCast] at hx0 hx1; have HL := aa.mk (hM.out.step HB.out.rnd.below); replace hx0 := (HL.out.below.cell (World.block_lt_of_cell? w _ hx0)).trans hx0; replace hx1 := (HL.out.below.cell (World.block_lt_of_cell? w _ hx1)).trans hx1; obtain ⟨sk, hsk⟩ : ∃ sk, sk = ai sh (k : Int) := ⟨_, rfl⟩; rw [← hsk] at hx0 hx1; have HSK := aa.mk hsk; clear hsk; have HN' := aa.mk hkg
      gi_upto_region 13 with (fail)
      obtain ⟨bs, hbs⟩ : ∃ bs, bs = wr.heap.size := ⟨_, rfl⟩; refine BB (fun W4 => lK w1 i (fun c => gQ gu aX jN jO lS iW fe i pre c || mF gu aX jN jO lS iW fe i x.1 k c) (8 * pre.length + k) bo W0.heap.size Bx By (dH jN jO iW fe x.1) es W W4 ∧ W4.heap[bs]? = some (.cells #[.int .u8 sk.f0, .int .i64 sk.f1] 86 (0, 0))) ⟨HB.out.step (aH (Below.refl _ _) _), by rw [hbs]; exact heap_alloc_new wr _⟩ ?_; intro W4 hM4; have HM4 := aa.mk hM4.1; have HS4 := aa.mk hM4.2; have HL4 := aa.mk (hM.out.step hM4.1.rnd.below); rw [← hbs]; clear hM4 HL HB hx0 hx1 hbs hkg; have hg0 := cell_regrown ((af HL4.out.given 0).trans rfl : W4.cell? ⟨w.heap.size, 0, none⟩ = some (.int .i64 gu)); have hg1 := cell_regrown ((af HL4.out.given 1).trans rfl : W4.cell? ⟨w.heap.size, 1, none⟩ = some (.int .u8 aX)); have hz3 := cell_regrown ((af HL4.out.line 3).trans rfl : W4.cell? ⟨w.heap.size + 1, 3, none⟩ = some (.int .i64 lS)); have hsq := cell_regrown ((af HM4.out.rnd.sq 0).trans rfl : W4.cell? ⟨w1.heap.size, 0, none⟩ = some (.int .i64 (i : Int))); have hs0 := cell_regrown ((af HS4.out 0).trans rfl : W4.cell? ⟨bs, 0, none⟩ = some (.int .u8 sk.f0)); have hs1 := cell_regrown ((af HS4.out 1).trans rfl : W4.cell? ⟨bs, 1, none⟩ = some (.int .i64 sk.f1)); (have hk8 : k < 8 := by have := HSL.out; have := HN'.out; omega); (have hi8 : i < 8 := by have := HV.out.2.2.2.1; omega); obtain ⟨nv, hnv⟩ : ∃ nv, nv = (dH jN jO iW fe x.1).getD (i * 8 + k) 0 := ⟨_, rfl⟩; obtain ⟨ev, hev⟩ : ∃ ev, ev = es.getD i 0 := ⟨_, rfl⟩; have hn0 := HM4.out.arr.cell (i * 8 + k) (by omega); have he0 := HM4.out.eac.cell i hi8; rw [← hnv] at hn0; rw [← hev] at he0; have hn := cell_regrown hn0; have he := cell_regrown he0; (have bi : (i : Int) < 8 := by omega); (have bk : (k : Int) < 8 := by omega); have HNV := aa.mk hnv; have HEV := aa.mk hev; clear hn0 he0 hnv hev
      have HH := aa.mk (show xf gu aX jN jO lS iW fe i x.1 k = (tK gu aX (i : Int) sk && decide (nv < 1048576) && decide (IntKind.i64.wrap (IntKind.i64.wrap (tot - ev) + nv) ≤ lS)) by
       rw [HSK.out, HNV.out, HEV.out, HES.out.1, HES.out.2, HSHX.out, ← w64, ← w64]; rfl)
      cases hmay : tK gu aX (i : Int) sk with
      | false =>
       refine lV (by kernel_rfl) (by kernel_rfl) (by kernel_rfl) ?_
       repeat
        (refine wpQuietIn_step (fun _ _ _ _ => trivial) (fun K hK => ?_)
         go_simp
         first
          | (refine hK _ ?_; clear hK K)
          | (apply Exists.intro
             refine ⟨fun _ => ?_, hK _ ?_⟩; (refine CallsIn.regrown_of (CallsIn.inRound l (callsIn_wide.2 (um gu aX i sk _))))
             clear hK K))
       refine wpQuietIn_nil ?_; rintro _ ⟨p, rfl⟩; obtain ⟨W5, hW5⟩ : ∃ W5, W5 = Go.Sort.grow (redrawn W4 p.d) p.os := ⟨_, rfl⟩; have hb5 := below_regrown W4 p.d p.os; rw [← hW5] at hb5 ⊢; have HM5 := aa.mk (HM4.out.step hb5); have HS5 := aa.mk ((hb5.block _ (bW HS4.out)).trans HS4.out); clear hg0 hg1 hz3 hsq hs0 hs1 hn he hb5 hW5; have HF := aa.mk (show xf gu aX jN jO lS iW fe i x.1 k = false from HH.out.trans (by simp [hmay]))
       gi_wp2_with (fail)
       gi_roundg g2
       (case measure => omega); case rel => exact ⟨k + 1, by have := HN'.out; omega, by go_num, ⟨(HM5.out.more (by omega)).congr (fun c => by rw [mF, HF.out]; simp)⟩⟩
      | true =>
       cases hc1 : decide (nv < 1048576) with
       | false =>
        refine lV (by kernel_rfl) (by kernel_rfl) (by kernel_rfl) ?_
        repeat
         (refine wpQuietIn_step (fun _ _ _ _ => trivial) (fun K hK => ?_)
          go_simp
          first
           | (refine hK _ ?_; clear hK K)
           | (apply Exists.intro
              refine ⟨fun _ => ?_, hK _ ?_⟩; (refine CallsIn.regrown_of (CallsIn.inRound l (callsIn_wide.2 (um gu aX i sk _))))
              clear hK K))
        refine wpQuietIn_nil ?_; rintro _ ⟨p, rfl⟩; obtain ⟨W5, hW5⟩ : ∃ W5, W5 = Go.Sort.grow (redrawn W4 p.d) p.os := ⟨_, rfl⟩; have hb5 := below_regrown W4 p.d p.os; rw [← hW5] at hb5 ⊢; have HM5 := aa.mk (HM4.out.step hb5); have HS5 := aa.mk ((hb5.block _ (bW HS4.out)).trans HS4.out); clear hg0 hg1 hz3 hsq hs0 hs1 hn he hb5 hW5; have HF := aa.mk (show xf gu aX jN jO lS iW fe i x.1 k = false from HH.out.trans (by simp [hmay, hc1]))
        gi_wp2_with (fail)
        gi_roundg g2
        (case measure => omega); case rel => exact ⟨k + 1, by have := HN'.out; omega, by go_num, ⟨(HM5.out.more (by omega)).congr (fun c => by rw [mF, HF.out]; simp)⟩⟩
       | true =>
        cases hc2 : decide (IntKind.i64.wrap (IntKind.i64.wrap (tot - ev) + nv) ≤ lS) with
        | false =>
         refine lV (by kernel_rfl) (by kernel_rfl) (by kernel_rfl) ?_
         repeat
          (refine wpQuietIn_step (fun _ _ _ _ => trivial) (fun K hK => ?_)
           go_simp
           first
            | (refine hK _ ?_; clear hK K)
            | (apply Exists.intro
               refine ⟨fun _ => ?_, hK _ ?_⟩; (refine CallsIn.regrown_of (CallsIn.inRound l (callsIn_wide.2 (um gu aX i sk _))))
               clear hK K))
         refine wpQuietIn_nil ?_; rintro _ ⟨p, rfl⟩; obtain ⟨W5, hW5⟩ : ∃ W5, W5 = Go.Sort.grow (redrawn W4 p.d) p.os := ⟨_, rfl⟩; have hb5 := below_regrown W4 p.d p.os; rw [← hW5] at hb5 ⊢; have HM5 := aa.mk (HM4.out.step hb5); have HS5 := aa.mk ((hb5.block _ (bW HS4.out)).trans HS4.out); clear hg0 hg1 hz3 hsq hs0 hs1 hn he hb5 hW5; have HF := aa.mk (show xf gu aX jN jO lS iW fe i x.1 k = false from HH.out.trans (by simp [hmay, hc1, hc2]))
         gi_wp2_with (fail)
         gi_roundg g2
         (case measure => omega); case rel => exact ⟨k + 1, by have := HN'.out; omega, by go_num, ⟨(HM5.out.more (by omega)).congr (fun c => by rw [mF, HF.out]; simp)⟩⟩
        | true =>
         refine lV (by kernel_rfl) (by kernel_rfl) (by kernel_rfl) ?_
         repeat
          (refine wpQuietIn_step (fun _ _ _ _ => trivial) (fun K hK => ?_)
           go_simp
           first
            | (refine hK _ ?_; clear hK K)
            | (apply Exists.intro
               refine ⟨fun _ => ?_, hK _ ?_⟩; (refine CallsIn.regrown_of (CallsIn.inRound l (callsIn_wide.2 (um gu aX i sk _))))
               clear hK K))
         refine wpQuietIn_nil ?_; rintro _ ⟨p, rfl⟩; obtain ⟨W5, hW5⟩ : ∃ W5, W5 = Go.Sort.grow (redrawn W4 p.d) p.os := ⟨_, rfl⟩; have hb5 := below_regrown W4 p.d p.os; rw [← hW5] at hb5 ⊢; have HM5 := aa.mk (HM4.out.step hb5); have HS5 := aa.mk ((hb5.block _ (bW HS4.out)).trans HS4.out); clear hg0 hg1 hz3 hsq hs0 hs1 hn he hb5 hW5; have HF := aa.mk (show xf gu aX jN jO lS iW fe i x.1 k = true from HH.out.trans (by simp [hmay, hc1, hc2])); obtain ⟨D, nn, hown, hnn, hhas⟩ := HM5.out.rnd.set; have hlet := Gf HV.out.2.2.2.2.1 x.1 k hxlt (by rw [← HSHX.out]; have := HN'.out; omega); rw [← HSHX.out, ← HSK.out] at hlet
         have hkey : keyOf Try.prog 5 (.int .u8 sk.f0) = some (.int .u8 sk.f0) := by
          have hwf : (Lit.int .u8 sk.f0).wf = true := by
           have e1 : IntKind.u8.min = 0 := rfl; have e2 : IntKind.u8.max = 255 := rfl; simp only [Lit.wf, e1, e2]; simp; omega
          simp [keyOf, mapKey, Try.underlying5, hwf]
         have hmx : nn < maxLen := by
          have := HPL.out; have := HV.out.2.1; have := HSL.out; unfold maxLen; omega
         have HOWN := aa.mk hown; have HHAS := aa.mk hhas; have hq := (af HM5.out.rnd.mp 0).trans rfl; have hs0 : W5.cell? ⟨bs, 0, none⟩ = some (.int .u8 sk.f0) := (af HS5.out 0).trans rfl; have hmp : W5.cell? ⟨w1.heap.size + 1 + 1, 0, none⟩ = some (.map (some (w1.heap.size + 1))) := hq; clear hown hhas hq
         gi_wp2_with (refine wpListIn_mapUpdate_own W5 rfl (.tmp 79) (.tmp 81) (.const (.bool true)) 128 rfl 5 4 (Maps.int_keyed Try.underlying5) Try.underlying128 (plainElem Try.prog 4) (w1.heap.size + 1) nn D rfl HOWN.out hmx (.int .u8 sk.f0) (.bool true) (.int .u8 sk.f0) rfl rfl hkey (.lit (.bool true)) [] (plainElem_bool Try.underlying4 true) ?_; intro w6 r1 r2; have R1 := aa.mk r1; have R2 := aa.mk r2; clear r1 r2)
         gi_roundg g2
         case measure => omega
         case rel =>
          refine ⟨k + 1, by have := HN'.out; omega, by go_num, ⟨(HM5.out.turn R2.out (pG.put R1.out HOWN.out.isMap (show nn + 1 ≤ 8 * pre.length + (k + 1) by omega) HHAS.out) (by omega) (by omega) (by omega) (by omega)).congr (fun c => ?_)⟩⟩; rw [mF, HF.out, ← HSHX.out, ← HSK.out]; simp [Bool.or_assoc]
   case done =>
    rintro D ys W hD rfl ⟨hR, hbW⟩ hKD; obtain ⟨DD, nn, hown, hnn, hhas⟩ := hR.set; have HOWN := aa.mk hown; have HHAS := aa.mk hhas; have HNN := aa.mk (show nn ≤ 8 * iW.length by simpa using hnn); have HR := aa.mk hR; have HKD := aa.mk hKD; have hmp : W.cell? ⟨w1.heap.size + 1 + 1, 0, none⟩ = some (.map (some (w1.heap.size + 1))) := (af hR.mp 0).trans rfl; have HDS := aa.mk (show w1.heap.size ≤ D by omega); clear hown hhas hnn hR hKD HRL bL hB0 hsz hD; go_wp2_with (at_range; refine wpList_range_own _ rfl (.tmp 83) 128 rfl 5 4 (Maps.int_keyed Try.underlying5) Try.underlying128 _ (w1.heap.size + 1) nn DD rfl HOWN.out ?_; intro w3 hrg hg3 hs3)
    go_frame
    (go_loopg [14] (Maps.size DD) (fun g v14 wr => ∃ (left : Lit → Bool) (ss : List Int), aa (wr.ranges Try.prog 5 (plainElem (H := Unit) Try.prog 4) (w1.heap.size + 1) W.heap.size nn DD left g) ∧ aa (ss.length + g ≤ Maps.size DD) ∧ aa (Kd.R (Kd.int .u8) 5 wr W.heap.size (fun k => k ≠ W.heap.size) v14 ss) ∧ aa (yf (gQ gu aX jN jO lS iW fe i (List.finRange iW.length)) left ss) ∧ aa (Below W.heap.size W wr) ∧ aa (W.heap.size < wr.heap.size))); case atStart => exact ⟨_, [], ⟨hrg⟩, ⟨by simp⟩, ⟨Kd.uj _ _ _ _ _⟩, ⟨yf.start HHAS.out⟩, ⟨(Below.refl _ _).grown hg3 (Nat.le_refl _) (fun j hj => by cases hj)⟩, ⟨by omega⟩⟩
    case round =>
     clear hrg hg3 hs3 hmp; obtain ⟨left, ss, hrg, hcs, hrow, hC, hB, hlt⟩ := hrel
     have hss : ss.length + gk ≤ 32 := by
      have h1 := hcs.out; have h2 := HOWN.out.size_le; have h3 := HNN.out; have h4 := HV.out.2.1; omega
     go_wp2_with (at_next; refine wpList_next_ranges _ rfl (.tmp 84) rfl 5 (Maps.int_keyed Try.underlying5) (plainElem Try.prog 4) (Value.int .u8) (fun v : Value => v) (fun key kl hk => by obtain ⟨x, e, _⟩ := RQ hk; exact ⟨x, e⟩) (fun v y hv => ⟨v, rfl⟩) (w1.heap.size + 1) W.heap.size nn DD left gk rfl hrg.out ?_ ?_)
     ·intro hc0 hl0; obtain ⟨T, hT⟩ : ∃ T, T = dz gu aX jN jO lS iW fe i := ⟨_, rfl⟩; have hTm : T.length ≤ 256 := HSH.out T (by rw [hT]; exact List.mem_map.2 ⟨i, by simp; omega, rfl⟩); (have hp : T.Perm ss := by rw [hT]; exact hC.out.perm hl0); (have hsl : ss.length ≤ 256 := by rw [← hp.length_eq]; exact hTm); (have hts : T.Pairwise (· ≤ ·) := by rw [hT]; exact D7 _ _ _ _ _ _ _ _); have HSORT := aa.mk (QS (fun k => k ≠ W.heap.size) u14 ss T W wr hB.out hrow.out (Nat.le_trans hsl (by decide)) hts hp); have HTT := aa.mk hT; (have hms : ∀ X : World, (Instr.makeSlice 88 (.int .i64 (T.length : Int)) (.int .i64 (T.length : Int))).run Try.prog X = .ok (.slice (some ⟨X.heap.size, 0, none⟩) T.length T.length) (X.alloc (.cells (madeCells #[.int .u8 0] T.length) 5)) := fun X => O1 X _ (by omega)); clear hp hts hsl hT hc0 hl0 hss; (go_upto_region 22 with (go_at_call 79; refine HSORT.out.mono ?_; rintro e w6 ⟨rfl, q1, q2, q3⟩; have Q1 := aa.mk q1; have Q2 := aa.mk q2; clear q1 q2 q3)); obtain ⟨A14, c14, rfl⟩ := Kd.fM Q1.out; have HR6 := aa.mk (HR.out.step Q2.out); have HM6 := aa.mk (hM.out.step HR6.out.below); obtain ⟨cs, fo, h1, h2, h3, h4⟩ := HM6.out.rows; have HC6 := aa.mk h2; have hsq : w6.cell? ⟨w1.heap.size, 0, none⟩ = some (.int .i64 (i : Int)) := (af HR6.out.sq 0).trans rfl; obtain ⟨uo, hco⟩ : ∃ uo, w6.cell? ⟨w.heap.size + 1 + 1, i, none⟩ = some uo := ⟨_, (af h2 i).trans (Array.getElem?_eq_getElem (by omega))⟩; have hfo : w6.frozen? ⟨w.heap.size + 1 + 1, i, none⟩ = false := aN h2 i; have hlt6 : w.heap.size + 1 + 1 < w6.heap.size := bW h2; have hlt7 : w1.heap.size < w6.heap.size := bW HR6.out.sq; (have hi4 : i < fe.length := by omega); (have hi5 : (i : Int) < (fe.length : Int) := by omega); clear h1 h2 h3 h4; refine Kr ?_; go_region_with (fail)
      all_goals
       have hV : (w6.setCell ⟨w.heap.size + 1 + 1, i, none⟩ (.slice (some ⟨w6.heap.size, 0, none⟩) T.length T.length)).heap.size = w6.heap.size := by simp
       have hmade := Yd (w6.setCell ⟨w.heap.size + 1 + 1, i, none⟩ (.slice (some ⟨w6.heap.size, 0, none⟩) T.length T.length)) T.length w6.heap.size (by omega) (by rw [hV]; exact Nat.le_refl _)
       rw [hV] at hmade
       have hxo : (((w6.setCell ⟨w.heap.size + 1 + 1, i, none⟩ (.slice (some ⟨w6.heap.size, 0, none⟩) T.length T.length)).alloc (.cells (madeCells #[.int .u8 0] T.length) 5)).drew).heap[w.heap.size + 1 + 1]? = some (.cells (cs.setIfInBounds i (.slice (some ⟨w6.heap.size, 0, none⟩) T.length T.length)) 88 (0, 0)) :=
        dO (cz (heap_setCell_same w6 _ i _ _ _ HC6.out) _)
       have hxb : ∀ k, k < w6.heap.size → k ≠ w.heap.size + 1 + 1 → (((w6.setCell ⟨w.heap.size + 1 + 1, i, none⟩ (.slice (some ⟨w6.heap.size, 0, none⟩) T.length T.length)).alloc (.cells (madeCells #[.int .u8 0] T.length) 5)).drew).heap[k]? = w6.heap[k]? := fun k hk hne => by
        have e1 := Below.heap_setCell w6 ⟨w.heap.size + 1 + 1, i, none⟩ (.slice (some ⟨w6.heap.size, 0, none⟩) T.length T.length) k hne; have e2 := (aH (Below.refl _ (w6.setCell ⟨w.heap.size + 1 + 1, i, none⟩ (.slice (some ⟨w6.heap.size, 0, none⟩) T.length T.length))) (.cells (madeCells #[.int .u8 0] T.length) 5)).block k (by rw [hV]; exact hk); exact e2.trans e1
       have hxw : Below w.heap.size w (((w6.setCell ⟨w.heap.size + 1 + 1, i, none⟩ (.slice (some ⟨w6.heap.size, 0, none⟩) T.length T.length)).alloc (.cells (madeCells #[.int .u8 0] T.length) 5)).drew) :=
        eF (aH (df HM6.out.below (by omega)) _)
       have hxR := Kd.uQ hmade
       have hxs : w6.heap.size < (((w6.setCell ⟨w.heap.size + 1 + 1, i, none⟩ (.slice (some ⟨w6.heap.size, 0, none⟩) T.length T.length)).alloc (.cells (madeCells #[.int .u8 0] T.length) 5)).drew).heap.size := by
        simp [World.drew]
       obtain ⟨X, hX⟩ : ∃ X, X = (((w6.setCell ⟨w.heap.size + 1 + 1, i, none⟩ (.slice (some ⟨w6.heap.size, 0, none⟩) T.length T.length)).alloc (.cells (madeCells #[.int .u8 0] T.length) 5)).drew) := ⟨_, rfl⟩
       rw [← hX] at hxo hxb hxw hxR hxs ⊢
       have hWw := HR.out.below.size
       have hlt0' : w.heap.size + 1 + 1 < w1.heap.size := hlt0
       have hxT : Kd.R (Kd.int .u8) 5 X W.heap.size (fun _ => True) (.slice A14 T.length c14) T := Kd.cO (Kd.uy (Kd.ku Q1.out) (fun k hk => hxb k hk.2.2.1 (by have := hk.2.1; omega))) (fun _ _ => trivial)
       have HXC := aa.mk (Kd.eP hxT).2.2
       have HXR := aa.mk hxR
       have HXB := aa.mk hxb
       have HXO := aa.mk hxo
       have HXW := aa.mk hxw
       have hsq' : X.cell? ⟨w1.heap.size, 0, none⟩ = some (.int .i64 (i : Int)) := (af ((hxb _ hlt7 (by omega)).trans HR6.out.sq) 0).trans rfl
       have hxv : X.cell? ⟨w.heap.size + 1 + 1, i, none⟩ = some (.slice (some ⟨w6.heap.size, 0, none⟩) T.length T.length) := by
        obtain ⟨cs', fo', g1, g2, _⟩ := HM6.out.rows; rw [HC6.out] at g2; injection g2 with g2; injection g2 with g2; subst g2; rw [af hxo i]; simp [g1, hi4]
       have hWD : W.heap[D]? = some (.deferred (some [])) := HKD.out
       have HDL := aa.mk (show D < w6.heap.size by have := bW hWD; have := Q2.out.size; omega)
       have HXD := aa.mk ((hxb D HDL.out (by have := HDS.out; omega)).trans ((Q2.out.block D (bW hWD)).trans hWD))
       clear hV hmade hxo hxb hxw hxR hX hsq hco hfo hxT hWD hms
       refine Nl ?_
       go_wp2_with (refine Kd.Y7 (enc := Value.int .u8) 0 (w0 := X) w6.heap.size rfl (.tmp 104) (.tmp 105) 88 88 5 rfl Try.underlying88 (by kernel_rfl) (.slice (some ⟨w6.heap.size, 0, none⟩) T.length T.length) (List.replicate T.length 0) T A14 T.length c14 (fun k => k = w6.heap.size) rfl rfl HXR.out HXC.out (Below.refl _ _) (Nat.le_of_lt hxs) ?_; intro w8 r8 b8 g8; have R8 := aa.mk r8; have B8 := aa.mk b8; have G8 := aa.mk g8; clear r8 b8 g8)
       have hT8 : List.take (min T.length (List.replicate T.length (0 : Int)).length) T ++ List.drop (min T.length (List.replicate T.length (0 : Int)).length) (List.replicate T.length (0 : Int)) = T := by simp
       have r8 := R8.out
       rw [hT8, HTT.out] at r8
       have hx6 : w1.heap.size ≤ w6.heap.size := Nat.le_of_lt hlt7
       rw [ym i fe.length hi4 (by have := HV.out.2.2.2.1; omega)]
       refine Handed.intro g0 (by omega) (hJ _ _ _ ⟨_, _, _, _, _, _, _, _, _, _, _, _, _, _, _, _, _, _, _, _, _, _, _, _, _, _, _, _, _, _, _, _, _, _, _, _, _, _, _, _, _, _, _, _, _, _, _, _, _, _, _, _, _, _, _, _, _, _, _, _, _, _, _, _, _, _, _, _, _, _, _, _, _, _, _, _, _, _, _, _, _, _, _, _, _, _, _, _, _, _, _, _, _, _, _, i + 1, { target := .collected D, args := #[] } :: ds, by omega, rfl, ⟨rQ.next hM.out hi4 (HXW.out.trans (B8.out.mono (by omega))) (fun k hk hne => (B8.out.block k (by omega)).trans ((HXB.out k (by omega) hne).trans (HR6.out.below.block k hk))) (fun cs' h' => ?_) rfl (by omega) (Kd.fH (Kd.cO r8 (fun _ _ => trivial)) hx6) ((B8.out.block D HDL.out).trans HXD.out) HDS.out⟩⟩)
       have e6 := (HR6.out.below.block _ hlt0').trans h'
       rw [HC6.out] at e6
       injection e6 with e6
       injection e6 with e6
       subst e6
       have hx9 := HXO.out
       rw [HTT.out] at hx9
       exact (B8.out.block _ hlt6).trans hx9
     ·intro x c kl yd yp w4 cnt2 hkey hlk hv hat hrg2 hlt2 hg2 hs2 hen; obtain ⟨x', ex, rfl, hwf⟩ := RQ hkey; (obtain rfl : x = x' := by simpa using ex); have HX := aa.mk (hC.out.step hlk ((HHAS.out x).symm.trans (Maps.has_true_of_atKey hat)) (wf_u8.1 hwf)); have hbw := hrow.out; (have hnr : ∀ k, u14.ownBlock = some k → k ≠ W.heap.size ∧ W.heap.size ≤ k := fun k e => ⟨((Kd.ku hrow.out).1 k e).1, ((Kd.ku hrow.out).1 k e).2.1⟩); have HO := aa.mk (Kd.GL hrow.out hg2 (fun k hk e => hk (by injection e))); have HB4 := aa.mk (hB.out.grown hg2 (Nat.le_of_lt hlt.out) (fun j hj => by cases hj; exact Nat.le_refl _)); have HL4 := aa.mk (show W.heap.size < w4.heap.size by rw [hs2]; exact hlt.out); have HRG := aa.mk hrg2; have HNR := aa.mk hnr; have HLT := aa.mk hlt2; clear hkey hlk hv hat hrg2 hg2 hs2 hwf hbw hnr hlt2; (go_wp2_with (refine Kd.F8 (Value.int .u8) 0 (w0 := W) W.heap.size rfl (.tmp 89) (.tmp 91) 88 5 (.int .u8 0) 1 rfl Try.underlying88 (by kernel_rfl) rfl (by decide) u14 ss [x] (some ⟨w4.heap.size, 0, none⟩) 1 1 (fun k => k ≠ W.heap.size) rfl rfl (fun k hk => by have := HL4.out; simp at hk; omega) (Kd.eX HO.out (aH (Below.refl _ _) _)) (XT ((World.cell?_alloc_at _ _ _ _ rfl).trans rfl)) (aH HB4.out _) (by have := HL4.out; simp; omega) (by omega) ?_; intro v1 w5 hr5 hb5 hg5 hat5)); have HRG5 := aa.mk ((HRG.out.alloc _).kept hg5 (fun e => by have := (HNR.out _ e.symm).2; omega) (fun e => (HNR.out _ e.symm).1 rfl)); have hs5 := hg5.size; go_roundg cnt2; (case measure => exact HLT.out); case rel => exact ⟨_, ss ++ [x], HRG5, ⟨by have := hcs.out; have := HLT.out; simp; omega⟩, ⟨hr5⟩, HX, ⟨hb5⟩, ⟨by have := HL4.out; simp at hs5; omega⟩⟩
   case stop =>
    rintro D c pre W _ _ h _; exact h.elim
end Go.Proofs.Ytihedeofkhapiaa.Pr
end
section
namespace Go.Proofs.Ytihedeofkhapiaa.Pr
open Go.RowKit Go.Proofs.YtihedeofkhapiaaW.PrintWords Go.Proofs.YtihedeofkhapiaaW.PrintLast Go.Proofs.YtihedeofkhapiaaW.PrintMore
attribute [local go_sem] nM nP ql qj ow oM qp qx
mutual
def bq.l0 : Nat → Int → Int → List (List Int) → Int → Int → List (S66) → Int → Int → Int → List (List (S27)) → Option (Int × Int × Int)
 | 0, _, _, _, _, _, _, _, _, _, _ => none
 | k + 1, x2, x3, x25, x26, x27, mQ, mZ, mY, mV, mX => if x27 < x26 then (if 0 ≤ x27 then (if x27 < (x25.length : Int) then (bq.l1 k x2 x3 x27 0 x25 x26 x27 (iX x25 x27) ((iX x25 x27).length : Int) 0 mQ mZ mY mV mX) else (none)) else (none)) else (some (x2, x3, 0))
def bq.l1 : Nat → Int → Int → Int → Int → List (List Int) → Int → Int → List Int → Int → Int → List (S66) → Int → Int → Int → List (List (S27)) → Option (Int × Int × Int)
 | 0, _, _, _, _, _, _, _, _, _, _, _, _, _, _, _ => none
 | k + 1, x2, x3, x7, x9, x25, x26, x27, x32, x33, x34, mQ, mZ, mY, mV, mX => if x34 < x33 then (if 0 ≤ x34 then (if x34 < (x32.length : Int) then ((dF.f x7 (rd x32 x34) mQ mZ mY mV mX).bind fun oN => (bq.l2 k x2 x3 x7 x9 0 x25 x26 x27 x32 x33 x34 oN (oN.length : Int) 0 mQ mZ mY mV mX)) else (none)) else (none)) else (if x7 = 0 then (bq.l0 k x7 x9 x25 x26 (wrap64 (x27 + 1)) mQ mZ mY mV mX) else (if x9 < x3 then (bq.l0 k x7 x9 x25 x26 (wrap64 (x27 + 1)) mQ mZ mY mV mX) else (bq.l0 k x2 x3 x25 x26 (wrap64 (x27 + 1)) mQ mZ mY mV mX)))
def bq.l2 : Nat → Int → Int → Int → Int → Int → List (List Int) → Int → Int → List Int → Int → Int → List (List Int) → Int → Int → List (S66) → Int → Int → Int → List (List (S27)) → Option (Int × Int × Int)
 | 0, _, _, _, _, _, _, _, _, _, _, _, _, _, _, _, _, _, _, _ => none
 | k + 1, x2, x3, x7, x9, x12, x25, x26, x27, x32, x33, x34, x42, x43, x44, mQ, mZ, mY, mV, mX => if x44 < x43 then (if 0 ≤ x44 then (if x44 < (x42.length : Int) then (if x44 = x7 then (bq.l2 k x2 x3 x7 x9 x12 x25 x26 x27 x32 x33 x34 x42 x43 (wrap64 (x44 + 1)) mQ mZ mY mV mX) else (bq.l2 k x2 x3 x7 x9 (wrap64 (x12 + ((iX x42 x44).length : Int))) x25 x26 x27 x32 x33 x34 x42 x43 (wrap64 (x44 + 1)) mQ mZ mY mV mX)) else (none)) else (none)) else (bq.l1 k x2 x3 x7 (mx x9 x12) x25 x26 x27 x32 x33 (wrap64 (x34 + 1)) mQ mZ mY mV mX)
end
def bq.f (k : Nat) (aU : List (S66)) (aX : Int) (bJ : Int) (bT : Int) (aV : List (List (S27))) : Option (Int × Int × Int) := (fA.f aU aX bJ bT aV).bind fun BV => (if BV.2 = 0 then ((dF.f (-1) 0 aU aX bJ bT aV).bind fun gI => (bq.l0 k 0 0 gI (gI.length : Int) 0 aU aX bJ bT aV)) else (some (0, 0, BV.2)))
theorem bq.gJ : ∀ k, (∀ y0 y1 y2 y3 y4 y5 y6 y7 y8 y9, LeO (bq.l0 k y0 y1 y2 y3 y4 y5 y6 y7 y8 y9) (bq.l0 (k + 1) y0 y1 y2 y3 y4 y5 y6 y7 y8 y9)) ∧ (∀ y0 y1 y2 y3 y4 y5 y6 y7 y8 y9 y10 y11 y12 y13 y14, LeO (bq.l1 k y0 y1 y2 y3 y4 y5 y6 y7 y8 y9 y10 y11 y12 y13 y14) (bq.l1 (k + 1) y0 y1 y2 y3 y4 y5 y6 y7 y8 y9 y10 y11 y12 y13 y14)) ∧ (∀ y0 y1 y2 y3 y4 y5 y6 y7 y8 y9 y10 y11 y12 y13 y14 y15 y16 y17 y18, LeO (bq.l2 k y0 y1 y2 y3 y4 y5 y6 y7 y8 y9 y10 y11 y12 y13 y14 y15 y16 y17 y18) (bq.l2 (k + 1) y0 y1 y2 y3 y4 y5 y6 y7 y8 y9 y10 y11 y12 y13 y14 y15 y16 y17 y18))
 | 0 => ⟨fun _ _ _ _ _ _ _ _ _ _ r h => by simp [bq.l0] at h, fun _ _ _ _ _ _ _ _ _ _ _ _ _ _ _ r h => by simp [bq.l1] at h, fun _ _ _ _ _ _ _ _ _ _ _ _ _ _ _ _ _ _ _ r h => by simp [bq.l2] at h⟩
 | k + 1 => by
  obtain ⟨ih0, ih1, ih2⟩ := bq.gJ k; refine ⟨?_, ?_, ?_⟩
  ·intro y0 y1 y2 y3 y4 y5 y6 y7 y8 y9; unfold bq.l0
   repeat' first | (with_reducible exact ih1 _ _ _ _ _ _ _ _ _ _ _ _ _ _ _) | (with_reducible exact LeO.refl _) | (with_reducible refine LeO.ite ?_ ?_)
  ·intro y0 y1 y2 y3 y4 y5 y6 y7 y8 y9 y10 y11 y12 y13 y14; unfold bq.l1
   repeat' first | (with_reducible exact ih0 _ _ _ _ _ _ _ _ _ _) | (with_reducible exact ih2 _ _ _ _ _ _ _ _ _ _ _ _ _ _ _ _ _ _ _) | (with_reducible exact LeO.refl _) | (with_reducible refine LeO.ite ?_ ?_) | (with_reducible refine LeO.bind ?_ (fun _ => ?_))
  ·intro y0 y1 y2 y3 y4 y5 y6 y7 y8 y9 y10 y11 y12 y13 y14 y15 y16 y17 y18; unfold bq.l2
   repeat' first | (with_reducible exact ih1 _ _ _ _ _ _ _ _ _ _ _ _ _ _ _) | (with_reducible exact ih2 _ _ _ _ _ _ _ _ _ _ _ _ _ _ _ _ _ _ _) | (with_reducible exact LeO.refl _) | (with_reducible refine LeO.ite ?_ ?_)
theorem bq.mono : ∀ a0 a1 a2 a3 a4 k, LeO (bq.f k a0 a1 a2 a3 a4) (bq.f (k + 1) a0 a1 a2 a3 a4) := by
 intro a0 a1 a2 a3 a4 k; obtain ⟨ih0, ih1, ih2⟩ := bq.gJ k; unfold bq.f
 repeat' first | (with_reducible exact ih0 _ _ _ _ _ _ _ _ _ _) | (with_reducible exact LeO.refl _) | (with_reducible refine LeO.ite ?_ ?_) | (with_reducible refine LeO.bind ?_ (fun _ => ?_))
set_option maxHeartbeats 8000000 in
set_option maxRecDepth 100000 in
theorem bq.calls (k : Nat) (eB : Option Addr) (dQ : Nat) (aU : List (S66)) (aX : Int) (bJ : Int) (bT : Int) (dZ : Option Addr) (dP : Nat) (aV : List (List (S27))) (r1 : Int) (r2 : Int) (r3 : Int) (w : World) (mG : Kd.C k66 w eB aU.length aU) (oG : aU.length ≤ dQ) (mH : Kd.C (Kd.slice 27 k27) w dZ aV.length aV) (oC : aV.length ≤ dP) (h : bq.f k aU aX bJ bT aV = some (r1, r2, r3)) :
 Calls Try.prog 45 #[.agg #[.slice eB aU.length dQ, .int .i64 aX, .int .i64 bJ, .int .i64 bT, .slice dZ aV.length dP]] w fun e w' => e = .returned (.tuple #[.int .i64 r1, .int .i64 r2, .int .i64 r3]) ∧ Below w.heap.size w w' := by
 have hu25 := Try.underlying25; have hu100 := Try.underlying100; have qP := aa.mk mG; have uf := aa.mk oG; clear mG oG; have qO := aa.mk mH; have tQ := aa.mk oC; clear mH oC; have HB := aa.mk (Below.refl w.heap.size w); have H : ((fA.f aU aX bJ bT aV).bind fun BV => (if BV.2 = 0 then ((dF.f (-1) 0 aU aX bJ bT aV).bind fun gI => (bq.l0 k 0 0 gI (gI.length : Int) 0 aU aX bJ bT aV)) else (some (0, 0, BV.2)))) = some (r1, r2, r3) := h; clear h; replace H := Option.bind_eq_some_iff.mp H; obtain ⟨⟨WN, DV⟩, A20, H⟩ := H; dsimp only at H; have A2 := aa.mk A20; clear A20; by_cases c3 : DV = 0
 ·rw [if_pos c3] at H; have xM : (DV == 0) = true := beq_iff_eq.mpr c3; have Ee : (DV != 0) = false := bne_eq_false_iff_eq.mpr c3; clear c3; replace H := Option.bind_eq_some_iff.mp H; obtain ⟨gI, A40, H⟩ := H; have A4 := aa.mk A40; clear A40; have H' := aa.mk H; clear H; go_enter Try.func45, Try.ntmps45; (go_wp2_with (first | ((with_reducible refine dm (N := 1) rfl ?_); refine dC ?hg (N := 1) ?hd (cs := #[.slice eB aU.length dQ, .int .i64 aX, .int .i64 bJ, .int .i64 bT, .slice dZ aV.length dP]) (t := 25) ?hr ?_; (case hd => rfl); (case hg => rfl); (case hr => (go_simp; done)); intro vM hg w5 hbox hb; have iZ := aa.mk (hbox); have YN := aa.mk ((by rw [hg]; exact (az (by exact HB.out)) : w.heap.size ≤ vM)); have YB := aa.mk ((by rw [hg]; exact (az (by exact HB.out)) : w.heap.size ≤ vM)); replace HB := aa.mk (ax (by exact HB.out) hb); clear hb hbox hg; obtain ⟨wy, wh, CJ, Ca, C8, vP, vw, BK, BG, DR⟩ := cells5 iZ.out) | ((with_reducible refine bH (f := 58) rfl ?_); refine eU (some 17) rfl rfl Try.func58 (by kernel_rfl) rfl #[.agg #[.slice eB aU.length dQ, .int .i64 aX, .int .i64 bJ, .int .i64 bT, .slice dZ aV.length dP]] rfl (by (simp only [List.map_toArray, List.map_cons, List.map_nil]); rfl) ?_; (with_reducible refine (fA.calls _ _ aU aX bJ bT _ _ aV WN DV _ ?side1 ?side2 ?side3 ?side4 A2.out).mono ?_); (case side1 => repeat (exact (Kd.aY qP.out HB.out))); (case side2 => exact uf.out); (case side3 => repeat (exact (Kd.aY qO.out HB.out))); (case side4 => exact tQ.out); rintro e w7 ⟨aba, rfl, ho0, hb⟩; refine ⟨_, rfl, ?_⟩; have Kt := aa.mk (Kd.fH ho0 (az (by exact HB.out))); replace iZ := aa.mk (au (bU iZ.out) hb); replace HB := aa.mk (ax (by exact HB.out) hb); clear hb; clear ho0; obtain ⟨Cy, CU, Ga, KO, JX, CK, Dq, FY, JA, KS⟩ := cells5 iZ.out) | ((with_reducible refine bH (f := 59) rfl ?_); refine eU (some 25) rfl rfl Try.func59 (by kernel_rfl) rfl #[.agg #[.int .i64 (-1), .int .u8 0], .agg #[.slice eB aU.length dQ, .int .i64 aX, .int .i64 bJ, .int .i64 bT, .slice dZ aV.length dP]] rfl (by (simp only [List.map_toArray, List.map_cons, List.map_nil]); rfl) ?_; (with_reducible refine (dF.calls (-1) 0 _ _ aU aX bJ bT _ _ aV gI _ ?side1 ?side2 ?side3 ?side4 A4.out).mono ?_); (case side1 => repeat (exact (Kd.aY qP.out HB.out))); (case side2 => exact uf.out); (case side3 => repeat (exact (Kd.aY qO.out HB.out))); (case side4 => exact tQ.out); rintro e w9 ⟨ah7, rfl, ho0, hb⟩; refine ⟨_, rfl, ?_⟩; replace Kt := aa.mk (Kd.eX (rU Kt.out) hb); have QQ := aa.mk (Kd.Fp ho0 (az (by exact HB.out))); replace iZ := aa.mk (au (bU iZ.out) hb); replace HB := aa.mk (ax (by exact HB.out) hb); clear hb; clear ho0; obtain ⟨og, nG, Km⟩ := Kd.qW QQ.out; subst Km))); (go_loopg [2, 3, 27] k (fun kq v2 v3 v27 w' => ∃ (zA : Int) (vH : Int) (fF : Int), v2 = .int .i64 zA ∧ v3 = .int .i64 vH ∧ v27 = .int .i64 fF ∧ aa (bq.l0 kq zA vH gI (gI.length : Int) fF aU aX bJ bT aV = some (r1, r2, r3)) ∧ aa (kq ≤ k) ∧ aa (Kd.S (Kd.slice 5 (Kd.int .u8)) 88 w' w.heap.size (fun _ => True) (.slice og gI.length nG) gI) ∧ aa (w'.heap[vM]? = some (.cells #[(.slice eB aU.length dQ), .int .i64 aX, .int .i64 bJ, .int .i64 bT, (.slice dZ aV.length dP)] 25 (0, 0))) ∧ aa (Below w.heap.size w w'))); case atStart => exact ⟨(0), (0), (0), (by rfl), (by rfl), (by rfl), H', ⟨Nat.le_refl _⟩, ⟨by exact QQ.out⟩, ⟨by exact iZ.out⟩, ⟨by exact HB.out⟩⟩
  case round =>
   clear H' xM Ee wy wh CJ Ca C8 Cy CU Ga KO JX vP vw BK BG DR CK Dq FY JA KS iZ; obtain ⟨zA, vH, fF, rfl, rfl, rfl, HA, HK1, rV, iZ, HB⟩ := hrel
   cases gk with
   | zero => exact absurd HA.out (by simp [bq.l0])
   | succ k1 =>
    have H := HA.out; clear HA; simp only [bq.l0] at H; by_cases c11 : fF < (gI.length : Int)
    ·rw [if_pos c11] at H; have Fb : decide (fF < (gI.length : Int)) = true := decide_eq_true c11; clear c11; by_cases c12 : 0 ≤ fF
     ·rw [if_pos c12] at H; have xC : decide (0 ≤ fF) = true := decide_eq_true c12; clear c12; by_cases c13 : fF < (gI.length : Int)
      ·rw [if_pos c13] at H; have Xv : decide (fF < (gI.length : Int)) = true := decide_eq_true c13; clear c13; have H' := aa.mk H; clear H; have IK : 0 ≤ (fF : Int) := of_decide_eq_true (by with_reducible assumption); have He : fF < (gI.length : Int) := of_decide_eq_true (by with_reducible assumption); obtain ⟨Kk, A1028_0, c1028_0, e1028, Ji, IJ, GX⟩ := L6 (Kd.qy rV.out).2.2 fF IK He; cases e1028; obtain ⟨ce1028, SA, Ta, ML⟩ := Kd.Lm rV.out [] fF IK (by exact He); obtain ⟨ve1028_0, rfl, CZ⟩ := Ta; have wu := ML 0 _ rfl; rw [Nat.add_zero, show ((Kd.slice 5 (Kd.int .u8))).sz = 1 from rfl, Nat.mul_one] at wu; replace wu := Option.some.inj (wu.symm.trans Ji); rw [wu] at CZ; have aaM := aa.mk (show Kd.R (Kd.int .u8) 5 _ _ _ _ (iX gI fF) from CZ); clear wu CZ ML SA; have nQ := aa.mk GX; have acO := aa.mk IJ; clear GX IJ; replace IK := eq_true IK; replace He := eq_true He; go_wp2; (go_loopg [9, 34] k1 (fun kq v9 v34 w' => ∃ (AZ : Int) (pQ : Int), v9 = .int .i64 AZ ∧ v34 = .int .i64 pQ ∧ aa (bq.l1 kq zA vH fF AZ gI (gI.length : Int) fF (iX gI fF) ((iX gI fF).length : Int) pQ aU aX bJ bT aV = some (r1, r2, r3)) ∧ aa (kq ≤ k1) ∧ aa (Kd.S (Kd.slice 5 (Kd.int .u8)) 88 w' w.heap.size (fun _ => True) (.slice (some Kk) gI.length nG) gI) ∧ aa (w'.heap[vM]? = some (.cells #[(.slice eB aU.length dQ), .int .i64 aX, .int .i64 bJ, .int .i64 bT, (.slice dZ aV.length dP)] 25 (0, 0))) ∧ aa (Kd.C (Kd.int .u8) w' A1028_0 (iX gI fF).length (iX gI fF)) ∧ aa (Below w.heap.size w w'))); case atStart => exact ⟨(0), (0), (by rfl), (by rfl), H', ⟨Nat.le_refl _⟩, ⟨by exact rV.out⟩, ⟨by exact iZ.out⟩, ⟨by exact nQ.out⟩, ⟨by exact HB.out⟩⟩
       case round =>
        clear H' Fb xC Xv Ji IK He iZ; obtain ⟨AZ, pQ, rfl, rfl, HA, HK2, rV, iZ, nQ, HB⟩ := hrel
        cases gk with
        | zero => exact absurd HA.out (by simp [bq.l1])
        | succ k2 =>
         have H := HA.out; clear HA; simp only [bq.l1] at H; by_cases c14 : pQ < ((iX gI fF).length : Int)
         ·rw [if_pos c14] at H; have zQ : decide (pQ < ((iX gI fF).length : Int)) = true := decide_eq_true c14; clear c14; by_cases c15 : 0 ≤ pQ
          ·rw [if_pos c15] at H; have LB : decide (0 ≤ pQ) = true := decide_eq_true c15; clear c15; by_cases c16 : pQ < ((iX gI fF).length : Int)
           ·rw [if_pos c16] at H; have WU : decide (pQ < ((iX gI fF).length : Int)) = true := decide_eq_true c16; clear c16; replace H := Option.bind_eq_some_iff.mp H; obtain ⟨oN, acm, H⟩ := H; have A17 := aa.mk acm; clear acm; have H' := aa.mk H; clear H; have LV : 0 ≤ (pQ : Int) := of_decide_eq_true (by with_reducible assumption); have K3 : pQ < ((iX gI fF).length : Int) := of_decide_eq_true (by with_reducible assumption); obtain ⟨Y5, e1029, Sn⟩ := Kd.GA nQ.out pQ LV K3; cases e1029; replace LV := eq_true LV; replace K3 := eq_true K3; obtain ⟨GH, GN, FL, Gp, GQ, GM, F9, Fs, Gc, Gs⟩ := cells5 iZ.out; (go_wp2_with (((with_reducible refine bH (f := 59) rfl ?_); refine eU (some 42) rfl rfl Try.func59 (by kernel_rfl) rfl #[.agg #[.int .i64 fF, .int .u8 (rd (iX gI fF) pQ)], .agg #[.slice eB aU.length dQ, .int .i64 aX, .int .i64 bJ, .int .i64 bT, .slice dZ aV.length dP]] rfl (by (simp only [List.map_toArray, List.map_cons, List.map_nil]); rfl) ?_; (with_reducible refine (dF.calls fF (rd (iX gI fF) pQ) _ _ aU aX bJ bT _ _ aV oN _ ?side1 ?side2 ?side3 ?side4 A17.out).mono ?_); (case side1 => repeat (exact (Kd.aY qP.out HB.out))); (case side2 => exact uf.out); (case side3 => repeat (exact (Kd.aY qO.out HB.out))); (case side4 => exact tQ.out); rintro e w19 ⟨aiW, rfl, ho0, hb⟩; refine ⟨_, rfl, ?_⟩; have Rv := aa.mk (Kd.Fp (Kd.ZF ho0 (Kd.ahX (by exact rV.out))) (az (by exact HB.out))); replace rV := aa.mk (Kd.CV (by exact rV.out) (Kd.XP ho0) hb); replace iZ := aa.mk (au (bU iZ.out) hb); replace nQ := aa.mk (Kd.aY (by exact nQ.out) hb); replace HB := aa.mk (ax (by exact HB.out) hb); clear hb; clear ho0; obtain ⟨acp, aad, ahm⟩ := Kd.qW Rv.out; subst ahm))); (go_loopg [12, 44] k2 (fun kq v12 v44 w' => ∃ (Ai : Int) (kM : Int), v12 = .int .i64 Ai ∧ v44 = .int .i64 kM ∧ aa (bq.l2 kq zA vH fF AZ Ai gI (gI.length : Int) fF (iX gI fF) ((iX gI fF).length : Int) pQ oN (oN.length : Int) kM aU aX bJ bT aV = some (r1, r2, r3)) ∧ aa (kq ≤ k2) ∧ aa (Kd.S (Kd.slice 5 (Kd.int .u8)) 88 w' w.heap.size (fun k_ => some k_ ≠ ((.slice acp oN.length aad) : Value).ownBlock) (.slice (some Kk) gI.length nG) gI) ∧ aa (Kd.S (Kd.slice 5 (Kd.int .u8)) 88 w' w.heap.size (fun k_ => some k_ ≠ ((.slice (some Kk) gI.length nG) : Value).ownBlock) (.slice acp oN.length aad) oN) ∧ aa (w'.heap[vM]? = some (.cells #[(.slice eB aU.length dQ), .int .i64 aX, .int .i64 bJ, .int .i64 bT, (.slice dZ aV.length dP)] 25 (0, 0))) ∧ aa (Kd.C (Kd.int .u8) w' (some Y5) (iX gI fF).length (iX gI fF)) ∧ aa (Below w.heap.size w w'))); case atStart => exact ⟨(0), (0), (by rfl), (by rfl), H', ⟨Nat.le_refl _⟩, ⟨by exact Kd.ni rV.out (fun _ hk => hk.2)⟩, ⟨by exact Kd.ni Rv.out (fun _ hk => hk.2)⟩, ⟨by exact iZ.out⟩, ⟨by exact nQ.out⟩, ⟨by exact HB.out⟩⟩
            case round =>
             clear H' zQ LB WU GH GN FL Gp GQ GM F9 Fs Gc Gs Sn LV K3 iZ; obtain ⟨Ai, kM, rfl, rfl, HA, HK3, rV, EC, iZ, nQ, HB⟩ := hrel
             cases gk with
             | zero => exact absurd HA.out (by simp [bq.l2])
             | succ k3 =>
              have H := HA.out; clear HA; simp only [bq.l2] at H; by_cases c21 : kM < (oN.length : Int)
              ·rw [if_pos c21] at H; have acC : decide (kM < (oN.length : Int)) = true := decide_eq_true c21; clear c21; by_cases c22 : 0 ≤ kM
               ·rw [if_pos c22] at H; have aiU : decide (0 ≤ kM) = true := decide_eq_true c22; clear c22; by_cases c23 : kM < (oN.length : Int)
                ·rw [if_pos c23] at H; have ajj : decide (kM < (oN.length : Int)) = true := decide_eq_true c23; clear c23; by_cases c24 : kM = fF
                 ·rw [if_pos c24] at H; have G5 : (kM == fF) = true := beq_iff_eq.mpr c24; have abB : (kM != fF) = false := bne_eq_false_iff_eq.mpr c24; clear c24; have H' := aa.mk H; clear H; have yD : 0 ≤ (kM : Int) := of_decide_eq_true (by with_reducible assumption); have yQ : kM < (oN.length : Int) := of_decide_eq_true (by with_reducible assumption); obtain ⟨Ye, A1033_0, c1033_0, e1033, Df, vF, wz⟩ := L6 (Kd.qy EC.out).2.2 kM yD yQ; cases e1033; obtain ⟨ce1033, Gb, Gq, zk⟩ := Kd.Lm EC.out [] kM yD (by exact yQ); obtain ⟨ve1033_0, rfl, rF⟩ := Gq; have mU := zk 0 _ rfl; rw [Nat.add_zero, show ((Kd.slice 5 (Kd.int .u8))).sz = 1 from rfl, Nat.mul_one] at mU; replace mU := Option.some.inj (mU.symm.trans Df); rw [mU] at rF; have RF := aa.mk (show Kd.R (Kd.int .u8) 5 _ _ _ _ (iX oN kM) from rF); clear mU rF zk Gb; have QL := aa.mk wz; have RX := aa.mk vF; clear wz vF; replace yD := eq_true yD; replace yQ := eq_true yQ; go_wp2; go_roundg k3; (case measure => have := HK1.out; have := HK2.out; have := HK3.out; omega); case rel => exact ⟨(Ai), (wrap64 (kM + 1)), (by rfl), (by rfl), H', ⟨by have := HK1.out; have := HK2.out; have := HK3.out; omega⟩, ⟨by exact rV.out⟩, ⟨by exact EC.out⟩, ⟨by exact iZ.out⟩, ⟨by exact nQ.out⟩, ⟨by exact HB.out⟩⟩
                 ·rw [if_neg c24] at H; have G5 : (kM == fF) = false := beq_eq_false_iff_ne.mpr c24; have abB : (kM != fF) = true := bne_iff_ne.mpr c24; have H' := aa.mk H; clear H; have yD : 0 ≤ (kM : Int) := of_decide_eq_true (by with_reducible assumption); have yQ : kM < (oN.length : Int) := of_decide_eq_true (by with_reducible assumption); obtain ⟨Ye, A1033_0, c1033_0, e1033, Df, vF, wz⟩ := L6 (Kd.qy EC.out).2.2 kM yD yQ; cases e1033; obtain ⟨ce1033, Gb, Gq, zk⟩ := Kd.Lm EC.out [] kM yD (by exact yQ); obtain ⟨ve1033_0, rfl, rF⟩ := Gq; have mU := zk 0 _ rfl; rw [Nat.add_zero, show ((Kd.slice 5 (Kd.int .u8))).sz = 1 from rfl, Nat.mul_one] at mU; replace mU := Option.some.inj (mU.symm.trans Df); rw [mU] at rF; have RF := aa.mk (show Kd.R (Kd.int .u8) 5 _ _ _ _ (iX oN kM) from rF); clear mU rF zk Gb; have QL := aa.mk wz; have RX := aa.mk vF; clear wz vF; replace yD := eq_true yD; replace yQ := eq_true yQ; go_wp2; go_roundg k3; (case measure => have := HK1.out; have := HK2.out; have := HK3.out; omega); case rel => exact ⟨(wrap64 (Ai + ((iX oN kM).length : Int))), (wrap64 (kM + 1)), (by rfl), (by rfl), H', ⟨by have := HK1.out; have := HK2.out; have := HK3.out; omega⟩, ⟨by exact rV.out⟩, ⟨by exact EC.out⟩, ⟨by exact iZ.out⟩, ⟨by exact nQ.out⟩, ⟨by exact HB.out⟩⟩
                ·rw [if_neg c23] at H; exact absurd H (by simp)
               ·rw [if_neg c22] at H; exact absurd H (by simp)
              ·rw [if_neg c21] at H; have acC : decide (kM < (oN.length : Int)) = false := decide_eq_false c21; clear c21; obtain ⟨Yw, WI⟩ : ∃ j_ : Int, (mx AZ Ai) = j_ := ⟨_, rfl⟩; (replace H : (bq.l1 k3 zA vH fF Yw gI (gI.length : Int) fF (iX gI fF) ((iX gI fF).length : Int) (wrap64 (pQ + 1)) aU aX bJ bT aV) = some (r1, r2, r3) := by (rw [WI] at H; exact H)); have ahR : (if AZ < Ai then Ai else AZ) = Yw := WI; have H' := aa.mk H; clear H; go_wp2; go_roundg k3; (case measure => have := HK1.out; have := HK2.out; have := HK3.out; omega); case rel => exact ⟨(Yw), (wrap64 (pQ + 1)), (by rfl), (by rfl), H', ⟨by have := HK1.out; have := HK2.out; have := HK3.out; omega⟩, ⟨by exact Kd.ni rV.out (fun _ hk => trivial)⟩, ⟨by exact iZ.out⟩, ⟨by exact nQ.out⟩, ⟨by exact HB.out⟩⟩
           ·rw [if_neg c16] at H; exact absurd H (by simp)
          ·rw [if_neg c15] at H; exact absurd H (by simp)
         ·rw [if_neg c14] at H; have zQ : decide (pQ < ((iX gI fF).length : Int)) = false := decide_eq_false c14; clear c14; by_cases c26 : fF = 0
          ·rw [if_pos c26] at H; have abT : (fF == 0) = true := beq_iff_eq.mpr c26; have acF : (fF != 0) = false := bne_eq_false_iff_eq.mpr c26; clear c26; have H' := aa.mk H; clear H; go_wp2; go_roundg k2; (case measure => have := HK1.out; have := HK2.out; omega); case rel => exact ⟨(fF), (AZ), (wrap64 (fF + 1)), (by rfl), (by rfl), (by rfl), H', ⟨by have := HK1.out; have := HK2.out; omega⟩, ⟨by exact rV.out⟩, ⟨by exact iZ.out⟩, ⟨by exact HB.out⟩⟩
          ·rw [if_neg c26] at H; have abT : (fF == 0) = false := beq_eq_false_iff_ne.mpr c26; have acF : (fF != 0) = true := bne_iff_ne.mpr c26; by_cases c27 : AZ < vH
           ·rw [if_pos c27] at H; have aaW : decide (AZ < vH) = true := decide_eq_true c27; clear c27; have H' := aa.mk H; clear H; go_wp2; go_roundg k2; (case measure => have := HK1.out; have := HK2.out; omega); case rel => exact ⟨(fF), (AZ), (wrap64 (fF + 1)), (by rfl), (by rfl), (by rfl), H', ⟨by have := HK1.out; have := HK2.out; omega⟩, ⟨by exact rV.out⟩, ⟨by exact iZ.out⟩, ⟨by exact HB.out⟩⟩
           ·rw [if_neg c27] at H; have aaW : decide (AZ < vH) = false := decide_eq_false c27; clear c27; have H' := aa.mk H; clear H; go_wp2; go_roundg k2; (case measure => have := HK1.out; have := HK2.out; omega); case rel => exact ⟨(zA), (vH), (wrap64 (fF + 1)), (by rfl), (by rfl), (by rfl), H', ⟨by have := HK1.out; have := HK2.out; omega⟩, ⟨by exact rV.out⟩, ⟨by exact iZ.out⟩, ⟨by exact HB.out⟩⟩
      ·rw [if_neg c13] at H; exact absurd H (by simp)
     ·rw [if_neg c12] at H; exact absurd H (by simp)
    ·rw [if_neg c11] at H; have Fb : decide (fF < (gI.length : Int)) = false := decide_eq_false c11; clear c11; simp only [Option.some.injEq, Prod.mk.injEq] at H; obtain ⟨rfl, rfl, rfl⟩ := H; go_wp2
     go_ret3
     exact ⟨by rfl, by exact HB.out⟩
 ·rw [if_neg c3] at H; have xM : (DV == 0) = false := beq_eq_false_iff_ne.mpr c3; have Ee : (DV != 0) = true := bne_iff_ne.mpr c3; simp only [Option.some.injEq, Prod.mk.injEq] at H; obtain ⟨rfl, rfl, rfl⟩ := H; go_enter Try.func45, Try.ntmps45; go_wp2_with (first | ((with_reducible refine dm (N := 1) rfl ?_); refine dC ?hg (N := 1) ?hd (cs := #[.slice eB aU.length dQ, .int .i64 aX, .int .i64 bJ, .int .i64 bT, .slice dZ aV.length dP]) (t := 25) ?hr ?_; (case hd => rfl); (case hg => rfl); (case hr => (go_simp; done)); intro vM hg w28 hbox hb; have iZ := aa.mk (hbox); have YN := aa.mk ((by rw [hg]; exact (az (by exact HB.out)) : w.heap.size ≤ vM)); have YB := aa.mk ((by rw [hg]; exact (az (by exact HB.out)) : w.heap.size ≤ vM)); replace HB := aa.mk (ax (by exact HB.out) hb); clear hb hbox hg; obtain ⟨T9, Tc, Vq, aef, ae8, V4, TA, VF, adG, aeV⟩ := cells5 iZ.out) | ((with_reducible refine bH (f := 58) rfl ?_); refine eU (some 17) rfl rfl Try.func58 (by kernel_rfl) rfl #[.agg #[.slice eB aU.length dQ, .int .i64 aX, .int .i64 bJ, .int .i64 bT, .slice dZ aV.length dP]] rfl (by (simp only [List.map_toArray, List.map_cons, List.map_nil]); rfl) ?_; (with_reducible refine (fA.calls _ _ aU aX bJ bT _ _ aV WN DV _ ?side1 ?side2 ?side3 ?side4 A2.out).mono ?_); (case side1 => repeat (exact (Kd.aY qP.out HB.out))); (case side2 => exact uf.out); (case side3 => repeat (exact (Kd.aY qO.out HB.out))); (case side4 => exact tQ.out); rintro e w30 ⟨aba, rfl, ho0, hb⟩; refine ⟨_, rfl, ?_⟩; have Kt := aa.mk (Kd.fH ho0 (az (by exact HB.out))); replace iZ := aa.mk (au (bU iZ.out) hb); replace HB := aa.mk (ax (by exact HB.out) hb); clear hb; (clear ho0)))
  go_ret3
  exact ⟨by rfl, by exact HB.out⟩
def bM.l0 : Nat → List ByteArray → List (List Int) → Int → Int → Option (List ByteArray × Int)
 | 0, _, _, _, _ => none
 | k + 1, x6, x19, x20, x21 => if x21 < x20 then (if 0 ≤ x21 then (if x21 < (x19.length : Int) then (if x6.length < 8796093022208 then (bM.l0 k (x6 ++ [strOfNums (iX x19 x21)]) x19 x20 (wrap64 (x21 + 1))) else (none)) else (none)) else (none)) else (some (x6, 0))
def bM.f (k : Nat) (aU : List (S66)) (aX : Int) (bJ : Int) (bT : Int) (aV : List (List (S27))) : Option (List ByteArray × Int) := (fA.f aU aX bJ bT aV).bind fun Jh => (if Jh.2 = 0 then ((dF.f (-1) 0 aU aX bJ bT aV).bind fun rT => (bM.l0 k ([] : List ByteArray) rT (rT.length : Int) 0)) else (some (([] : List ByteArray), Jh.2)))
theorem bM.gJ : ∀ k, (∀ y0 y1 y2 y3, LeO (bM.l0 k y0 y1 y2 y3) (bM.l0 (k + 1) y0 y1 y2 y3))
 | 0 => fun _ _ _ _ r h => by simp [bM.l0] at h
 | k + 1 => by
  have ih0 := bM.gJ k
  ·intro y0 y1 y2 y3; unfold bM.l0
   repeat' first | (with_reducible exact ih0 _ _ _ _) | (with_reducible exact LeO.refl _) | (with_reducible refine LeO.ite ?_ ?_)
theorem bM.mono : ∀ a0 a1 a2 a3 a4 k, LeO (bM.f k a0 a1 a2 a3 a4) (bM.f (k + 1) a0 a1 a2 a3 a4) := by
 intro a0 a1 a2 a3 a4 k; have ih0 := bM.gJ k; unfold bM.f
 repeat' first | (with_reducible exact ih0 _ _ _ _) | (with_reducible exact LeO.refl _) | (with_reducible refine LeO.ite ?_ ?_) | (with_reducible refine LeO.bind ?_ (fun _ => ?_))
set_option maxHeartbeats 8000000 in
set_option maxRecDepth 100000 in
theorem bM.calls (k : Nat) (eB : Option Addr) (dQ : Nat) (aU : List (S66)) (aX : Int) (bJ : Int) (bT : Int) (dZ : Option Addr) (dP : Nat) (aV : List (List (S27))) (r1 : List ByteArray) (r2 : Int) (w : World) (mG : Kd.C k66 w eB aU.length aU) (oG : aU.length ≤ dQ) (mH : Kd.C (Kd.slice 27 k27) w dZ aV.length aV) (oC : aV.length ≤ dP) (h : bM.f k aU aX bJ bT aV = some (r1, r2)) :
 Calls Try.prog 24 #[.agg #[.slice eB aU.length dQ, .int .i64 aX, .int .i64 bJ, .int .i64 bT, .slice dZ aV.length dP]] w fun e w' => ∃ v0_ : Value, e = .returned (.tuple #[v0_, .int .i64 r2]) ∧ Kd.R Kd.string 9 w' w.heap.size (fun _ => True) v0_ r1 ∧ Below w.heap.size w w' := by
 have hu25 := Try.underlying25; have hu100 := Try.underlying100; have qP := aa.mk mG; have uf := aa.mk oG; clear mG oG; have qO := aa.mk mH; have tQ := aa.mk oC; clear mH oC; have HB := aa.mk (Below.refl w.heap.size w); have H : ((fA.f aU aX bJ bT aV).bind fun Jh => (if Jh.2 = 0 then ((dF.f (-1) 0 aU aX bJ bT aV).bind fun rT => (bM.l0 k ([] : List ByteArray) rT (rT.length : Int) 0)) else (some (([] : List ByteArray), Jh.2)))) = some (r1, r2) := h; clear h; replace H := Option.bind_eq_some_iff.mp H; obtain ⟨⟨abI, KL⟩, A20, H⟩ := H; dsimp only at H; have A2 := aa.mk A20; clear A20; by_cases c3 : KL = 0
 ·rw [if_pos c3] at H; have xM : (KL == 0) = true := beq_iff_eq.mpr c3; have Ee : (KL != 0) = false := bne_eq_false_iff_eq.mpr c3; clear c3; replace H := Option.bind_eq_some_iff.mp H; obtain ⟨rT, A40, H⟩ := H; have A4 := aa.mk A40; clear A40; have H' := aa.mk H; clear H; go_enter Try.func24, Try.ntmps24; (go_wp2_with (first | ((with_reducible refine dm (N := 1) rfl ?_); refine dC ?hg (N := 1) ?hd (cs := #[.slice eB aU.length dQ, .int .i64 aX, .int .i64 bJ, .int .i64 bT, .slice dZ aV.length dP]) (t := 25) ?hr ?_; (case hd => rfl); (case hg => rfl); (case hr => (go_simp; done)); intro EQ hg w5 hbox hb; have qM := aa.mk (hbox); have abg := aa.mk ((by rw [hg]; exact (az (by exact HB.out)) : w.heap.size ≤ EQ)); have acX := aa.mk ((by rw [hg]; exact (az (by exact HB.out)) : w.heap.size ≤ EQ)); replace HB := aa.mk (ax (by exact HB.out) hb); clear hb hbox hg; obtain ⟨wy, wh, CJ, Ca, C8, vP, vw, BK, BG, DR⟩ := cells5 qM.out) | ((with_reducible refine bH (f := 58) rfl ?_); refine eU (some 11) rfl rfl Try.func58 (by kernel_rfl) rfl #[.agg #[.slice eB aU.length dQ, .int .i64 aX, .int .i64 bJ, .int .i64 bT, .slice dZ aV.length dP]] rfl (by (simp only [List.map_toArray, List.map_cons, List.map_nil]); rfl) ?_; (with_reducible refine (fA.calls _ _ aU aX bJ bT _ _ aV abI KL _ ?side1 ?side2 ?side3 ?side4 A2.out).mono ?_); (case side1 => repeat (exact (Kd.aY qP.out HB.out))); (case side2 => exact uf.out); (case side3 => repeat (exact (Kd.aY qO.out HB.out))); (case side4 => exact tQ.out); rintro e w7 ⟨ahE, rfl, ho0, hb⟩; refine ⟨_, rfl, ?_⟩; have PR := aa.mk (Kd.fH ho0 (az (by exact HB.out))); replace qM := aa.mk (au (bU qM.out) hb); replace HB := aa.mk (ax (by exact HB.out) hb); clear hb; clear ho0; obtain ⟨Cy, CU, Ga, KO, JX, CK, Dq, FY, JA, KS⟩ := cells5 qM.out) | ((with_reducible refine bH (f := 59) rfl ?_); refine eU (some 19) rfl rfl Try.func59 (by kernel_rfl) rfl #[.agg #[.int .i64 (-1), .int .u8 0], .agg #[.slice eB aU.length dQ, .int .i64 aX, .int .i64 bJ, .int .i64 bT, .slice dZ aV.length dP]] rfl (by (simp only [List.map_toArray, List.map_cons, List.map_nil]); rfl) ?_; (with_reducible refine (dF.calls (-1) 0 _ _ aU aX bJ bT _ _ aV rT _ ?side1 ?side2 ?side3 ?side4 A4.out).mono ?_); (case side1 => repeat (exact (Kd.aY qP.out HB.out))); (case side2 => exact uf.out); (case side3 => repeat (exact (Kd.aY qO.out HB.out))); (case side4 => exact tQ.out); rintro e w9 ⟨aj5, rfl, ho0, hb⟩; refine ⟨_, rfl, ?_⟩; replace PR := aa.mk (Kd.eX (rU PR.out) hb); have Wv := aa.mk (Kd.Fp ho0 (az (by exact HB.out))); replace qM := aa.mk (au (bU qM.out) hb); replace HB := aa.mk (ax (by exact HB.out) hb); clear hb; clear ho0; obtain ⟨og, nG, Km⟩ := Kd.qW Wv.out; subst Km))); (go_loopg [6, 21] k (fun kq v6 v21 w' => ∃ (kv : List ByteArray) (oD : Int), v21 = .int .i64 oD ∧ aa (bM.l0 kq kv rT (rT.length : Int) oD = some (r1, r2)) ∧ aa (kq ≤ k) ∧ aa (Kd.R Kd.string 9 w' w.heap.size (fun _ => True) v6 kv) ∧ aa (Kd.S (Kd.slice 5 (Kd.int .u8)) 88 w' w.heap.size (fun _ => True) (.slice og rT.length nG) rT) ∧ aa (w'.heap[EQ]? = some (.cells #[(.slice eB aU.length dQ), .int .i64 aX, .int .i64 bJ, .int .i64 bT, (.slice dZ aV.length dP)] 25 (0, 0))) ∧ aa (Below w.heap.size w w'))); case atStart => exact ⟨(([] : List ByteArray)), (0), (by rfl), H', ⟨Nat.le_refl _⟩, ⟨by exact Kd.uj _ _ _ _ _⟩, ⟨by (with_reducible skip); exact Wv.out⟩, ⟨by (with_reducible skip); exact qM.out⟩, ⟨by exact HB.out⟩⟩
  case round =>
   clear H' xM Ee wy wh CJ Ca C8 Cy CU Ga KO JX vP vw BK BG DR CK Dq FY JA KS; obtain ⟨kv, oD, rfl, HA, HK1, M4, Iz, qM, HB⟩ := hrel
   cases gk with
   | zero => exact absurd HA.out (by simp [bM.l0])
   | succ k1 =>
    have H := HA.out; clear HA; simp only [bM.l0] at H; by_cases c11 : oD < (rT.length : Int)
    ·rw [if_pos c11] at H; have Fb : decide (oD < (rT.length : Int)) = true := decide_eq_true c11; clear c11; by_cases c12 : 0 ≤ oD
     ·rw [if_pos c12] at H; have xC : decide (0 ≤ oD) = true := decide_eq_true c12; clear c12; by_cases c13 : oD < (rT.length : Int)
      ·rw [if_pos c13] at H; have Xv : decide (oD < (rT.length : Int)) = true := decide_eq_true c13; clear c13; by_cases c14 : kv.length < 8796093022208
       ·rw [if_pos c14] at H; have aaq := aa.mk c14; clear c14; obtain ⟨ab7, Rq⟩ : ∃ y_ : List ByteArray, y_ = (kv ++ [strOfNums (iX rT oD)]) := ⟨_, rfl⟩; (replace H : (bM.l0 k1 ab7 rT (rT.length : Int) (wrap64 (oD + 1))) = some (r1, r2) := by (rw [Rq]; with_reducible exact H)); have abY := aa.mk Rq; clear Rq; have H' := aa.mk H; clear H; have TP : 0 ≤ (oD : Int) := of_decide_eq_true (by with_reducible assumption); have Ua : oD < (rT.length : Int) := of_decide_eq_true (by with_reducible assumption); obtain ⟨aie, A254_0, c254_0, e254, UN, Mv, K9⟩ := L6 (Kd.qy Iz.out).2.2 oD TP Ua; cases e254; obtain ⟨ce254, XZ, Zf, Ry⟩ := Kd.Lm Iz.out [] oD TP (by exact Ua); obtain ⟨ve254_0, rfl, FV⟩ := Zf; have yI := Ry 0 _ rfl; rw [Nat.add_zero, show ((Kd.slice 5 (Kd.int .u8))).sz = 1 from rfl, Nat.mul_one] at yI; replace yI := Option.some.inj (yI.symm.trans UN); rw [yI] at FV; have LZ := aa.mk (show Kd.R (Kd.int .u8) 5 _ _ _ _ (iX rT oD) from FV); clear yI FV Ry XZ; have UG := aa.mk K9; have afb := aa.mk Mv; clear K9 Mv; replace TP := eq_true TP; replace Ua := eq_true Ua; have hcv15 := Kd.R6 (P := Try.prog) (A := A254_0) (c := c254_0) Try.underlying88 Try.underlying5 Try.underlying9 (by exact UG.out); (go_wp2_with (((with_reducible refine pu (b := .append) (xs := #[.tmp 25, .tmp 28]) rfl ?_); at_builtin; refine Kd.Cm Kd.string (w0 := w) w.heap.size rfl (.tmp 25) (.tmp 28) 48 9 (.string ⟨#[]⟩) 16 rfl Try.underlying48 abo rfl (by decide) (by omega) u6 kv (strOfNums (iX rT oD)) [.string (strOfNums (iX rT oD))] (fun _ => True) (fun _ => False) rfl rfl ?aP (fun _ hk => hk.elim) ?aF ?aO ?aB ?aS ?aL ?_; (case aP => exact rfl); (case aB => exact (by exact HB.out)); (case aF => exact (fun _ _ => trivial)); (case aO => exact (rU M4.out)); (case aS => exact (az (by exact HB.out))); (case aL => have := aaq.out; omega); intro ajH w16 ho hb hg hat; rw [← abY.out] at ho; replace Iz := aa.mk (Kd.FM (by (with_reducible skip); exact Iz.out) (Kd.gB (rU M4.out)) (by decide) hg); replace qM := aa.mk (bQ (bU qM.out) hg (Kd.mO M4.out qM.out (by decide))); replace LZ := aa.mk (Kd.nS (rU LZ.out) (Kd.gB (rU M4.out)) (by decide) hg); replace HB := aa.mk (hb); have acN := aa.mk (ho); clear M4 ho hb hg hat))); go_roundg k1; (case measure => have := HK1.out; omega); case rel => exact ⟨(ab7), (wrap64 (oD + 1)), (by rfl), H', ⟨by have := HK1.out; omega⟩, ⟨by (with_reducible skip); exact acN.out⟩, ⟨by (with_reducible skip); exact Iz.out⟩, ⟨by (with_reducible skip); exact qM.out⟩, ⟨by exact HB.out⟩⟩
       ·rw [if_neg c14] at H; exact absurd H (by simp)
      ·rw [if_neg c13] at H; exact absurd H (by simp)
     ·rw [if_neg c12] at H; exact absurd H (by simp)
    ·rw [if_neg c11] at H; have Fb : decide (oD < (rT.length : Int)) = false := decide_eq_false c11; clear c11; simp only [Option.some.injEq, Prod.mk.injEq] at H; obtain ⟨rfl, rfl⟩ := H; go_wp2
     go_ret2
     exact ⟨_, by rfl, by (with_reducible skip); exact M4.out, by exact HB.out⟩
 ·rw [if_neg c3] at H; have xM : (KL == 0) = false := beq_eq_false_iff_ne.mpr c3; have Ee : (KL != 0) = true := bne_iff_ne.mpr c3; simp only [Option.some.injEq, Prod.mk.injEq] at H; obtain ⟨rfl, rfl⟩ := H; go_enter Try.func24, Try.ntmps24; go_wp2_with (first | ((with_reducible refine dm (N := 1) rfl ?_); refine dC ?hg (N := 1) ?hd (cs := #[.slice eB aU.length dQ, .int .i64 aX, .int .i64 bJ, .int .i64 bT, .slice dZ aV.length dP]) (t := 25) ?hr ?_; (case hd => rfl); (case hg => rfl); (case hr => (go_simp; done)); intro EQ hg w17 hbox hb; have qM := aa.mk (hbox); have abg := aa.mk ((by rw [hg]; exact (az (by exact HB.out)) : w.heap.size ≤ EQ)); have acX := aa.mk ((by rw [hg]; exact (az (by exact HB.out)) : w.heap.size ≤ EQ)); replace HB := aa.mk (ax (by exact HB.out) hb); clear hb hbox hg; obtain ⟨GH, GN, FL, Gp, GQ, GM, F9, Fs, Gc, Gs⟩ := cells5 qM.out) | ((with_reducible refine bH (f := 58) rfl ?_); refine eU (some 11) rfl rfl Try.func58 (by kernel_rfl) rfl #[.agg #[.slice eB aU.length dQ, .int .i64 aX, .int .i64 bJ, .int .i64 bT, .slice dZ aV.length dP]] rfl (by (simp only [List.map_toArray, List.map_cons, List.map_nil]); rfl) ?_; (with_reducible refine (fA.calls _ _ aU aX bJ bT _ _ aV abI KL _ ?side1 ?side2 ?side3 ?side4 A2.out).mono ?_); (case side1 => repeat (exact (Kd.aY qP.out HB.out))); (case side2 => exact uf.out); (case side3 => repeat (exact (Kd.aY qO.out HB.out))); (case side4 => exact tQ.out); rintro e w19 ⟨ahE, rfl, ho0, hb⟩; refine ⟨_, rfl, ?_⟩; have PR := aa.mk (Kd.fH ho0 (az (by exact HB.out))); replace qM := aa.mk (au (bU qM.out) hb); replace HB := aa.mk (ax (by exact HB.out) hb); clear hb; (clear ho0)))
  go_ret2
  exact ⟨_, by rfl, by exact Kd.uj _ _ _ _ _, by exact HB.out⟩
mutual
def cZ.l0 : Nat → ByteArray → List ByteArray → Int → Int → Option (ByteArray × Int)
 | 0, _, _, _, _ => none
 | k + 1, x6, x17, x18, x19 => if x19 < x18 then (if 0 ≤ x19 then (if x19 < (x17.length : Int) then (if ((jc ByteArray.empty x17 x19).size : Int) = 2 then (cZ.j1 k x6 (jc ByteArray.empty x17 x19) x17 x18 x19 ((jc ByteArray.empty x17 x19).size : Int) (((jc ByteArray.empty x17 x19).size : Int) == 2)) else (cZ.j1 k x6 (jc ByteArray.empty x17 x19) x17 x18 x19 ((jc ByteArray.empty x17 x19).size : Int) (((jc ByteArray.empty x17 x19).size : Int) == 3))) else (none)) else (none)) else (some (x6, 0))
def cZ.j1 : Nat → ByteArray → ByteArray → List ByteArray → Int → Int → Int → Bool → Option (ByteArray × Int)
 | 0, _, _, _, _, _, _, _ => none
 | k + 1, x6, x8, x17, x18, x19, x24, x25 => if x25 = true then (if 1 + x8.size ≤ 9223372036854775807 then (if ((⟨#[123]⟩ : ByteArray) ++ x8).size + 1 ≤ 9223372036854775807 then (if x6.size + (((⟨#[123]⟩ : ByteArray) ++ x8) ++ (⟨#[125]⟩ : ByteArray)).size ≤ 9223372036854775807 then (cZ.l0 k (x6 ++ (((⟨#[123]⟩ : ByteArray) ++ x8) ++ (⟨#[125]⟩ : ByteArray))) x17 x18 (wrap64 (x19 + 1))) else (none)) else (none)) else (none)) else (if x24 = 1 then (if x6.size + x8.size ≤ 9223372036854775807 then (cZ.l0 k (x6 ++ x8) x17 x18 (wrap64 (x19 + 1))) else (none)) else (if x6.size + 1 ≤ 9223372036854775807 then (cZ.l0 k (x6 ++ (⟨#[45]⟩ : ByteArray)) x17 x18 (wrap64 (x19 + 1))) else (none)))
end
def cZ.f (k : Nat) (aU : List (S66)) (aX : Int) (bJ : Int) (bT : Int) (aV : List (List (S27))) : Option (ByteArray × Int) := (bM.f k aU aX bJ bT aV).bind fun yN => (if yN.2 = 0 then (cZ.l0 k (⟨#[]⟩ : ByteArray) yN.1 (yN.1.length : Int) 0) else (some ((⟨#[]⟩ : ByteArray), yN.2)))
theorem cZ.gJ : ∀ k, (∀ y0 y1 y2 y3, LeO (cZ.l0 k y0 y1 y2 y3) (cZ.l0 (k + 1) y0 y1 y2 y3)) ∧ (∀ y0 y1 y2 y3 y4 y5 y6, LeO (cZ.j1 k y0 y1 y2 y3 y4 y5 y6) (cZ.j1 (k + 1) y0 y1 y2 y3 y4 y5 y6))
 | 0 => ⟨fun _ _ _ _ r h => by simp [cZ.l0] at h, fun _ _ _ _ _ _ _ r h => by simp [cZ.j1] at h⟩
 | k + 1 => by
  obtain ⟨ih0, ih1⟩ := cZ.gJ k; refine ⟨?_, ?_⟩
  ·intro y0 y1 y2 y3; unfold cZ.l0
   repeat' first | (with_reducible exact ih1 _ _ _ _ _ _ _) | (with_reducible exact LeO.refl _) | (with_reducible refine LeO.ite ?_ ?_)
  ·intro y0 y1 y2 y3 y4 y5 y6; unfold cZ.j1
   repeat' first | (with_reducible exact ih0 _ _ _ _) | (with_reducible exact LeO.refl _) | (with_reducible refine LeO.ite ?_ ?_)
theorem cZ.mono : ∀ a0 a1 a2 a3 a4 k, LeO (cZ.f k a0 a1 a2 a3 a4) (cZ.f (k + 1) a0 a1 a2 a3 a4) := by
 intro a0 a1 a2 a3 a4 k; obtain ⟨ih0, ih1⟩ := cZ.gJ k; unfold cZ.f
 repeat' first | (with_reducible exact ih0 _ _ _ _) | (with_reducible exact bM.mono _ _ _ _ _ _) | (with_reducible exact LeO.refl _) | (with_reducible refine LeO.ite ?_ ?_) | (with_reducible refine LeO.bind ?_ (fun _ => ?_))
set_option maxHeartbeats 8000000 in
set_option maxRecDepth 100000 in
theorem cZ.calls (k : Nat) (eB : Option Addr) (dQ : Nat) (aU : List (S66)) (aX : Int) (bJ : Int) (bT : Int) (dZ : Option Addr) (dP : Nat) (aV : List (List (S27))) (r1 : ByteArray) (r2 : Int) (w : World) (mG : Kd.C k66 w eB aU.length aU) (oG : aU.length ≤ dQ) (mH : Kd.C (Kd.slice 27 k27) w dZ aV.length aV) (oC : aV.length ≤ dP) (h : cZ.f k aU aX bJ bT aV = some (r1, r2)) :
 Calls Try.prog 19 #[.agg #[.slice eB aU.length dQ, .int .i64 aX, .int .i64 bJ, .int .i64 bT, .slice dZ aV.length dP]] w fun e w' => e = .returned (.tuple #[.string r1, .int .i64 r2]) ∧ Below w.heap.size w w' := by
 have hu25 := Try.underlying25; have qP := aa.mk mG; have uf := aa.mk oG; clear mG oG; have qO := aa.mk mH; have tQ := aa.mk oC; clear mH oC; have HB := aa.mk (Below.refl w.heap.size w); have H : ((bM.f k aU aX bJ bT aV).bind fun yN => (if yN.2 = 0 then (cZ.l0 k (⟨#[]⟩ : ByteArray) yN.1 (yN.1.length : Int) 0) else (some ((⟨#[]⟩ : ByteArray), yN.2)))) = some (r1, r2) := h; clear h; replace H := Option.bind_eq_some_iff.mp H; obtain ⟨⟨jL, JJ⟩, A20, H⟩ := H; dsimp only at H; have A2 := aa.mk A20; clear A20; by_cases c3 : JJ = 0
 ·rw [if_pos c3] at H; have xM : (JJ == 0) = true := beq_iff_eq.mpr c3; have Ee : (JJ != 0) = false := bne_eq_false_iff_eq.mpr c3; clear c3; have H' := aa.mk H; clear H; go_enter Try.func19, Try.ntmps19; (go_wp2_with (first | ((with_reducible refine dm (N := 1) rfl ?_); refine dC ?hg (N := 1) ?hd (cs := #[.slice eB aU.length dQ, .int .i64 aX, .int .i64 bJ, .int .i64 bT, .slice dZ aV.length dP]) (t := 25) ?hr ?_; (case hd => rfl); (case hg => rfl); (case hr => (go_simp; done)); intro Di hg w4 hbox hb; have rG := aa.mk (hbox); have ZY := aa.mk ((by rw [hg]; exact (az (by exact HB.out)) : w.heap.size ≤ Di)); have abS := aa.mk ((by rw [hg]; exact (az (by exact HB.out)) : w.heap.size ≤ Di)); replace HB := aa.mk (ax (by exact HB.out) hb); clear hb hbox hg; obtain ⟨JD, J2, Kl, XV, YJ, KX, JC, JS, ZA, Zu⟩ := cells5 rG.out) | ((with_reducible refine bH (f := 24) rfl ?_); refine eU (some 11) rfl rfl Try.func24 (by kernel_rfl) rfl #[.agg #[.slice eB aU.length dQ, .int .i64 aX, .int .i64 bJ, .int .i64 bT, .slice dZ aV.length dP]] rfl (by (simp only [List.map_toArray, List.map_cons, List.map_nil]); rfl) ?_; (with_reducible refine (bM.calls k _ _ aU aX bJ bT _ _ aV jL JJ _ ?side1 ?side2 ?side3 ?side4 A2.out).mono ?_); (case side1 => repeat (exact (Kd.aY qP.out HB.out))); (case side2 => exact uf.out); (case side3 => repeat (exact (Kd.aY qO.out HB.out))); (case side4 => exact tQ.out); rintro e w6 ⟨agX, rfl, ho0, hb⟩; refine ⟨_, rfl, ?_⟩; have QW := aa.mk (Kd.fH ho0 (az (by exact HB.out))); replace rG := aa.mk (au (bU rG.out) hb); replace HB := aa.mk (ax (by exact HB.out) hb); clear hb; clear ho0; obtain ⟨Ao7, co7, eo7⟩ := Kd.fM QW.out; subst eo7))); (go_loopg [6, 19] k (fun kq v6 v19 w' => ∃ (kv : ByteArray) (gm : Int), v6 = .string kv ∧ v19 = .int .i64 gm ∧ aa (cZ.l0 kq kv jL (jL.length : Int) gm = some (r1, r2)) ∧ aa (kq ≤ k) ∧ aa (Kd.R Kd.string 9 w' w.heap.size (fun _ => True) (.slice Ao7 jL.length co7) jL) ∧ aa (w'.heap[Di]? = some (.cells #[(.slice eB aU.length dQ), .int .i64 aX, .int .i64 bJ, .int .i64 bT, (.slice dZ aV.length dP)] 25 (0, 0))) ∧ aa (Below w.heap.size w w'))); case atStart => exact ⟨((⟨#[]⟩ : ByteArray)), (0), (by rfl), (by rfl), H', ⟨Nat.le_refl _⟩, ⟨by (with_reducible skip); exact QW.out⟩, ⟨by (with_reducible skip); exact rG.out⟩, ⟨by exact HB.out⟩⟩
  case round =>
   clear H' xM Ee JD J2 Kl XV YJ KX JC JS ZA Zu; obtain ⟨kv, gm, rfl, rfl, HA, HK1, BZ, rG, HB⟩ := hrel
   cases gk with
   | zero => exact absurd HA.out (by simp [cZ.l0])
   | succ k1 =>
    have H := HA.out; clear HA; simp only [cZ.l0] at H; by_cases c8 : gm < (jL.length : Int)
    ·rw [if_pos c8] at H; have Sv : decide (gm < (jL.length : Int)) = true := decide_eq_true c8; clear c8; by_cases c9 : 0 ≤ gm
     ·rw [if_pos c9] at H; have Zi : decide (0 ≤ gm) = true := decide_eq_true c9; clear c9; by_cases c10 : gm < (jL.length : Int)
      ·rw [if_pos c10] at H; have AO : decide (gm < (jL.length : Int)) = true := decide_eq_true c10; clear c10; have YZ := aa.mk H; clear H; have VT : 0 ≤ (gm : Int) := of_decide_eq_true (by with_reducible assumption); have Ul : gm < (jL.length : Int) := of_decide_eq_true (by with_reducible assumption); obtain ⟨acx, e263, U6⟩ := Kd.zD (Kd.eP BZ.out).2.2 gm VT Ul; cases e263; replace VT := eq_true VT; replace Ul := eq_true Ul; (go_upto_if 25 with (fail)); go_cut [25] (fun v25 wc => ∃ (kq : Nat) (FF : Bool), v25 = .bool FF ∧ aa (cZ.j1 kq kv (jc ByteArray.empty jL gm) jL (jL.length : Int) gm ((jc ByteArray.empty jL gm).size : Int) FF = some (r1, r2)) ∧ aa (kq ≤ k1) ∧ aa (Kd.R Kd.string 9 wc w.heap.size (fun _ => True) (.slice (some acx) jL.length co7) jL) ∧ aa (wc.heap[Di]? = some (.cells #[(.slice eB aU.length dQ), .int .i64 aX, .int .i64 bJ, .int .i64 bT, (.slice dZ aV.length dP)] 25 (0, 0))) ∧ aa (Below w.heap.size w wc))
       case first =>
        have H := YZ.out; clear YZ; by_cases c12 : ((jc ByteArray.empty jL gm).size : Int) = 2
        ·rw [if_pos c12] at H; have xC : (((jc ByteArray.empty jL gm).size : Int) == 2) = true := beq_iff_eq.mpr c12; have LP : (((jc ByteArray.empty jL gm).size : Int) != 2) = false := bne_eq_false_iff_eq.mpr c12; clear c12; (rw [xC]); have H' := aa.mk H; clear H; go_wp2; go_meet; case rel => exact ⟨_, ((((jc ByteArray.empty jL gm).size : Int) == 2)), (by simp [*]; done), H', ⟨by have := HK1.out; omega⟩, ⟨by (with_reducible skip); exact BZ.out⟩, ⟨by (with_reducible skip); exact rG.out⟩, ⟨by exact HB.out⟩⟩
        ·rw [if_neg c12] at H; have xC : (((jc ByteArray.empty jL gm).size : Int) == 2) = false := beq_eq_false_iff_ne.mpr c12; have LP : (((jc ByteArray.empty jL gm).size : Int) != 2) = true := bne_iff_ne.mpr c12; (rw [xC]); have H' := aa.mk H; clear H; go_wp2; go_meet; case rel => exact ⟨_, ((((jc ByteArray.empty jL gm).size : Int) == 3)), (by rfl), H', ⟨by have := HK1.out; omega⟩, ⟨by (with_reducible skip); exact BZ.out⟩, ⟨by (with_reducible skip); exact rG.out⟩, ⟨by exact HB.out⟩⟩
       case rest =>
        clear YZ Sv Zi AO U6 VT Ul; obtain ⟨kq, FF, rfl, HA, HJ10, BZ, rG, HB⟩ := hcut
        cases kq with
        | zero => exact absurd HA.out (by simp [cZ.j1])
        | succ kj10 =>
         have H := HA.out; clear HA; simp only [cZ.j1] at H; by_cases c13 : FF = true
         ·subst c13; rw [if_pos rfl] at H; by_cases c14 : 1 + (jc ByteArray.empty jL gm).size ≤ 9223372036854775807
          ·rw [if_pos c14] at H; have zQ := eq_true c14; have GY : decide (1 + (jc ByteArray.empty jL gm).size ≤ 9223372036854775807) = true := decide_eq_true c14; have aiG : (9223372036854775807 < 1 + (jc ByteArray.empty jL gm).size) = False := eq_false (Nat.not_lt.2 c14); by_cases c15 : ((⟨#[123]⟩ : ByteArray) ++ (jc ByteArray.empty jL gm)).size + 1 ≤ 9223372036854775807
           ·rw [if_pos c15] at H; (have Q3 : 1 + (jc ByteArray.empty jL gm).size + 1 ≤ 9223372036854775807 := by have h := c15; rw [ByteArray.size_append] at h; exact h); have aiY := eq_true Q3; have ajm : decide (1 + (jc ByteArray.empty jL gm).size + 1 ≤ 9223372036854775807) = true := decide_eq_true Q3; have ail : (9223372036854775807 < 1 + (jc ByteArray.empty jL gm).size + 1) = False := eq_false (Nat.not_lt.2 Q3); have LB := eq_true c15; have ah4 : decide (((⟨#[123]⟩ : ByteArray) ++ (jc ByteArray.empty jL gm)).size + 1 ≤ 9223372036854775807) = true := decide_eq_true c15; have aiM : (9223372036854775807 < ((⟨#[123]⟩ : ByteArray) ++ (jc ByteArray.empty jL gm)).size + 1) = False := eq_false (Nat.not_lt.2 c15); by_cases c16 : kv.size + (((⟨#[123]⟩ : ByteArray) ++ (jc ByteArray.empty jL gm)) ++ (⟨#[125]⟩ : ByteArray)).size ≤ 9223372036854775807
            ·rw [if_pos c16] at H; (have QF : kv.size + (1 + (jc ByteArray.empty jL gm).size + 1) ≤ 9223372036854775807 := by have h := c16; rw [ByteArray.size_append, ByteArray.size_append] at h; exact h); have ajf := eq_true QF; have ajn : decide (kv.size + (1 + (jc ByteArray.empty jL gm).size + 1) ≤ 9223372036854775807) = true := decide_eq_true QF; have ai4 : (9223372036854775807 < kv.size + (1 + (jc ByteArray.empty jL gm).size + 1)) = False := eq_false (Nat.not_lt.2 QF); have WU := eq_true c16; have aji : decide (kv.size + (((⟨#[123]⟩ : ByteArray) ++ (jc ByteArray.empty jL gm)) ++ (⟨#[125]⟩ : ByteArray)).size ≤ 9223372036854775807) = true := decide_eq_true c16; have aiN : (9223372036854775807 < kv.size + (((⟨#[123]⟩ : ByteArray) ++ (jc ByteArray.empty jL gm)) ++ (⟨#[125]⟩ : ByteArray)).size) = False := eq_false (Nat.not_lt.2 c16); have H' := aa.mk H; clear H; go_wp2; go_roundg kj10; (case measure => have := HK1.out; have := HJ10.out; omega); case rel => exact ⟨(kv ++ (((⟨#[123]⟩ : ByteArray) ++ (jc ByteArray.empty jL gm)) ++ (⟨#[125]⟩ : ByteArray))), (wrap64 (gm + 1)), (by rfl), (by rfl), H', ⟨by have := HK1.out; have := HJ10.out; omega⟩, ⟨by (with_reducible skip); exact BZ.out⟩, ⟨by (with_reducible skip); exact rG.out⟩, ⟨by exact HB.out⟩⟩
            ·rw [if_neg c16] at H; exact absurd H (by simp)
           ·rw [if_neg c15] at H; exact absurd H (by simp)
          ·rw [if_neg c14] at H; exact absurd H (by simp)
         ·replace c13 := Bool.eq_false_iff.mpr c13; subst c13; rw [if_neg (show ¬ (false = true) by decide)] at H; by_cases c17 : ((jc ByteArray.empty jL gm).size : Int) = 1
          ·rw [if_pos c17] at H; have LF : (((jc ByteArray.empty jL gm).size : Int) == 1) = true := beq_iff_eq.mpr c17; have Z6 : (((jc ByteArray.empty jL gm).size : Int) != 1) = false := bne_eq_false_iff_eq.mpr c17; clear c17; by_cases c18 : kv.size + (jc ByteArray.empty jL gm).size ≤ 9223372036854775807
           ·rw [if_pos c18] at H; have Hg := eq_true c18; have aiS : decide (kv.size + (jc ByteArray.empty jL gm).size ≤ 9223372036854775807) = true := decide_eq_true c18; have aiD : (9223372036854775807 < kv.size + (jc ByteArray.empty jL gm).size) = False := eq_false (Nat.not_lt.2 c18); have H' := aa.mk H; clear H; go_wp2; go_roundg kj10; (case measure => have := HK1.out; have := HJ10.out; omega); case rel => exact ⟨(kv ++ (jc ByteArray.empty jL gm)), (wrap64 (gm + 1)), (by rfl), (by rfl), H', ⟨by have := HK1.out; have := HJ10.out; omega⟩, ⟨by (with_reducible skip); exact BZ.out⟩, ⟨by (with_reducible skip); exact rG.out⟩, ⟨by exact HB.out⟩⟩
           ·rw [if_neg c18] at H; exact absurd H (by simp)
          ·rw [if_neg c17] at H; have LF : (((jc ByteArray.empty jL gm).size : Int) == 1) = false := beq_eq_false_iff_ne.mpr c17; have Z6 : (((jc ByteArray.empty jL gm).size : Int) != 1) = true := bne_iff_ne.mpr c17; by_cases c19 : kv.size + 1 ≤ 9223372036854775807
           ·rw [if_pos c19] at H; have WE := eq_true c19; have aje : decide (kv.size + 1 ≤ 9223372036854775807) = true := decide_eq_true c19; have aiu : (9223372036854775807 < kv.size + 1) = False := eq_false (Nat.not_lt.2 c19); have H' := aa.mk H; clear H; go_wp2; go_roundg kj10; (case measure => have := HK1.out; have := HJ10.out; omega); case rel => exact ⟨(kv ++ (⟨#[45]⟩ : ByteArray)), (wrap64 (gm + 1)), (by rfl), (by rfl), H', ⟨by have := HK1.out; have := HJ10.out; omega⟩, ⟨by (with_reducible skip); exact BZ.out⟩, ⟨by (with_reducible skip); exact rG.out⟩, ⟨by exact HB.out⟩⟩
           ·rw [if_neg c19] at H; exact absurd H (by simp)
      ·rw [if_neg c10] at H; exact absurd H (by simp)
     ·rw [if_neg c9] at H; exact absurd H (by simp)
    ·rw [if_neg c8] at H; have Sv : decide (gm < (jL.length : Int)) = false := decide_eq_false c8; clear c8; simp only [Option.some.injEq, Prod.mk.injEq] at H; obtain ⟨rfl, rfl⟩ := H; go_wp2
     go_ret2
     exact ⟨by rfl, by exact HB.out⟩
 ·rw [if_neg c3] at H; have xM : (JJ == 0) = false := beq_eq_false_iff_ne.mpr c3; have Ee : (JJ != 0) = true := bne_iff_ne.mpr c3; simp only [Option.some.injEq, Prod.mk.injEq] at H; obtain ⟨rfl, rfl⟩ := H; go_enter Try.func19, Try.ntmps19; go_wp2_with (first | ((with_reducible refine dm (N := 1) rfl ?_); refine dC ?hg (N := 1) ?hd (cs := #[.slice eB aU.length dQ, .int .i64 aX, .int .i64 bJ, .int .i64 bT, .slice dZ aV.length dP]) (t := 25) ?hr ?_; (case hd => rfl); (case hg => rfl); (case hr => (go_simp; done)); intro Di hg w20 hbox hb; have rG := aa.mk (hbox); have ZY := aa.mk ((by rw [hg]; exact (az (by exact HB.out)) : w.heap.size ≤ Di)); have abS := aa.mk ((by rw [hg]; exact (az (by exact HB.out)) : w.heap.size ≤ Di)); replace HB := aa.mk (ax (by exact HB.out) hb); clear hb hbox hg; obtain ⟨SL, TQ, V6, afr, adq, Td, VW, Te, aeJ, aff⟩ := cells5 rG.out) | ((with_reducible refine bH (f := 24) rfl ?_); refine eU (some 11) rfl rfl Try.func24 (by kernel_rfl) rfl #[.agg #[.slice eB aU.length dQ, .int .i64 aX, .int .i64 bJ, .int .i64 bT, .slice dZ aV.length dP]] rfl (by (simp only [List.map_toArray, List.map_cons, List.map_nil]); rfl) ?_; (with_reducible refine (bM.calls k _ _ aU aX bJ bT _ _ aV jL JJ _ ?side1 ?side2 ?side3 ?side4 A2.out).mono ?_); (case side1 => repeat (exact (Kd.aY qP.out HB.out))); (case side2 => exact uf.out); (case side3 => repeat (exact (Kd.aY qO.out HB.out))); (case side4 => exact tQ.out); rintro e w22 ⟨agX, rfl, ho0, hb⟩; refine ⟨_, rfl, ?_⟩; have QW := aa.mk (Kd.fH ho0 (az (by exact HB.out))); replace rG := aa.mk (au (bU rG.out) hb); replace HB := aa.mk (ax (by exact HB.out) hb); clear hb; (clear ho0)))
  go_ret2
  exact ⟨by rfl, by exact HB.out⟩
def dE.f (k : Nat)  : Option (Bool) := (fK.f).bind fun ww => ((bM.f k ww.1 ww.2.1 ww.2.2.1 ww.2.2.2.1 ww.2.2.2.2).bind fun Ih => ((fK.f).bind fun wm => ((cZ.f k wm.1 wm.2.1 wm.2.2.1 wm.2.2.2.1 wm.2.2.2.2).bind fun Ja => ((jV.f 1 (([(⟨15, 15⟩ : S27)] : List (S27)))).bind fun qw => ((oI.f qw.1 qw.2.1 qw.2.2.1 qw.2.2.2.1 qw.2.2.2.2).bind fun Am => (if Ih.2 = 0 then (if Ja.2 = 0 then (if Am.2 = 0 then (if Am.1 = 1 then (if Ja.1.toList = ([65, 123, 65, 76, 125, 84] : List UInt8) then ((bE.f k Ih.1 (([(⟨#[65]⟩ : ByteArray), (⟨#[65, 76]⟩ : ByteArray), (⟨#[84]⟩ : ByteArray)] : List ByteArray))).bind fun FP => (some FP)) else (some false)) else (some false)) else (some false)) else (some false)) else (some false)))))))
theorem dE.mono : ∀ k, LeO (dE.f k ) (dE.f (k + 1) ) := by
 intro  k; unfold dE.f
 repeat' first | (with_reducible exact bE.mono _ _ _) | (with_reducible exact bM.mono _ _ _ _ _ _) | (with_reducible exact cZ.mono _ _ _ _ _ _) | (with_reducible exact LeO.refl _) | (with_reducible refine LeO.ite ?_ ?_) | (with_reducible refine LeO.bind ?_ (fun _ => ?_))
set_option maxRecDepth 100000 in
theorem RD : dE.f 60 = some true := by decide +kernel
theorem Ka {k : Nat} {r : Bool} (h : dE.f k = some r) : r = true := by
 have h1 := zt dE.mono (Nat.le_max_left k 60) h; have h2 := zt dE.mono (Nat.le_max_right k 60) RD; exact Option.some.inj (h1.symm.trans h2)
set_option maxHeartbeats 8000000 in
set_option maxRecDepth 100000 in
theorem dE.calls (k : Nat)  (r : Bool) (w : World) (h : dE.f k  = some r) :
 Calls Try.prog 14 #[] w fun e w' => e = .returned (.bool r) ∧ Below w.heap.size w w' := by
 have hrT := Ka h; have hu27 := Try.underlying27; have HB := aa.mk (Below.refl w.heap.size w); have H : ((fK.f).bind fun ww => ((bM.f k ww.1 ww.2.1 ww.2.2.1 ww.2.2.2.1 ww.2.2.2.2).bind fun Ih => ((fK.f).bind fun wm => ((cZ.f k wm.1 wm.2.1 wm.2.2.1 wm.2.2.2.1 wm.2.2.2.2).bind fun Ja => ((jV.f 1 (([(⟨15, 15⟩ : S27)] : List (S27)))).bind fun qw => ((oI.f qw.1 qw.2.1 qw.2.2.1 qw.2.2.2.1 qw.2.2.2.2).bind fun Am => (if Ih.2 = 0 then (if Ja.2 = 0 then (if Am.2 = 0 then (if Am.1 = 1 then (if Ja.1.toList = ([65, 123, 65, 76, 125, 84] : List UInt8) then ((bE.f k Ih.1 (([(⟨#[65]⟩ : ByteArray), (⟨#[65, 76]⟩ : ByteArray), (⟨#[84]⟩ : ByteArray)] : List ByteArray))).bind fun FP => (some FP)) else (some false)) else (some false)) else (some false)) else (some false)) else (some false)))))))) = some r := h; clear h; replace H := Option.bind_eq_some_iff.mp H; obtain ⟨⟨Ku, Zx, Za, Ya, KE⟩, A10, H⟩ := H; dsimp only at H; have A1 := aa.mk A10; clear A10; replace H := Option.bind_eq_some_iff.mp H; obtain ⟨⟨VO, QR⟩, A20, H⟩ := H; dsimp only at H; have A2 := aa.mk A20; clear A20; replace H := Option.bind_eq_some_iff.mp H; obtain ⟨⟨Ot, Yo, YU, Yy, Pm⟩, A30, H⟩ := H; dsimp only at H; have A3 := aa.mk A30; clear A30; replace H := Option.bind_eq_some_iff.mp H; obtain ⟨⟨Rx, Oh⟩, A40, H⟩ := H; dsimp only at H; have A4 := aa.mk A40; clear A40; obtain ⟨TT, OM⟩ : ∃ y_ : List (S27), y_ = (([(⟨15, 15⟩ : S27)] : List (S27))) := ⟨_, rfl⟩; (replace H : ((jV.f 1 TT).bind fun qw => ((oI.f qw.1 qw.2.1 qw.2.2.1 qw.2.2.2.1 qw.2.2.2.2).bind fun Am => (if QR = 0 then (if Oh = 0 then (if Am.2 = 0 then (if Am.1 = 1 then (if Rx.toList = ([65, 123, 65, 76, 125, 84] : List UInt8) then ((bE.f k VO (([(⟨#[65]⟩ : ByteArray), (⟨#[65, 76]⟩ : ByteArray), (⟨#[84]⟩ : ByteArray)] : List ByteArray))).bind fun FP => (some FP)) else (some false)) else (some false)) else (some false)) else (some false)) else (some false)))) = some r := by (rw [OM]; with_reducible exact H)); have abJ := aa.mk OM; clear OM; replace H := Option.bind_eq_some_iff.mp H; obtain ⟨⟨Zd, X5, YQ, YK, Yj⟩, A50, H⟩ := H; dsimp only at H; have A5 := aa.mk A50; clear A50; replace H := Option.bind_eq_some_iff.mp H; obtain ⟨⟨TI, V7⟩, A60, H⟩ := H; dsimp only at H; have A6 := aa.mk A60; clear A60; by_cases c7 : QR = 0
 ·rw [if_pos c7] at H; have Sm : (QR == 0) = true := beq_iff_eq.mpr c7; have aj7 : (QR != 0) = false := bne_eq_false_iff_eq.mpr c7; clear c7; by_cases c8 : Oh = 0
  ·rw [if_pos c8] at H; have Sv : (Oh == 0) = true := beq_iff_eq.mpr c8; have ajx : (Oh != 0) = false := bne_eq_false_iff_eq.mpr c8; clear c8; by_cases c9 : V7 = 0
   ·rw [if_pos c9] at H; have Zi : (V7 == 0) = true := beq_iff_eq.mpr c9; have ajB : (V7 != 0) = false := bne_eq_false_iff_eq.mpr c9; clear c9; by_cases c10 : TI = 1
    ·rw [if_pos c10] at H; have AO : (TI == 1) = true := beq_iff_eq.mpr c10; have ah9 : (TI != 1) = false := bne_eq_false_iff_eq.mpr c10; clear c10; by_cases c11 : Rx.toList = ([65, 123, 65, 76, 125, 84] : List UInt8)
     ·rw [if_pos c11] at H; have Fb : (Rx.toList == ([65, 123, 65, 76, 125, 84] : List UInt8)) = true := beq_iff_eq.mpr c11; have aiv : (Rx.toList != ([65, 123, 65, 76, 125, 84] : List UInt8)) = false := bne_eq_false_iff_eq.mpr c11; clear c11; obtain ⟨aag, PE⟩ : ∃ y_ : List ByteArray, y_ = (([(⟨#[65]⟩ : ByteArray), (⟨#[65, 76]⟩ : ByteArray), (⟨#[84]⟩ : ByteArray)] : List ByteArray)) := ⟨_, rfl⟩; (replace H : ((bE.f k VO aag).bind fun FP => (some FP)) = some r := by (rw [PE]; with_reducible exact H)); have aao := aa.mk PE; clear PE; replace H := Option.bind_eq_some_iff.mp H; obtain ⟨FP, aaG, H⟩ := H; have A12 := aa.mk aaG; clear aaG; obtain rfl := Option.some.inj H; go_enter Try.func14, Try.ntmps14; go_wp2_with (first | ((with_reducible refine bH (f := 48) rfl ?_); refine eU (some 8) rfl rfl Try.func48 (by kernel_rfl) rfl #[] rfl (by (simp only [List.map_toArray, List.map_cons, List.map_nil]); done) ?_; (with_reducible refine (fK.calls  Ku Zx Za Ya KE _ A1.out).mono ?_); rintro e w13 ⟨age, ahD, rfl, ho0, ho1, hb⟩; refine ⟨_, rfl, ?_⟩; have jS := aa.mk (Kd.nE (Kd.bK (ok' := fun k_ => some k_ ≠ (ahD : Value).ownBlock) ho0 (fun k_ hk_ => hk_.2)) (az (by exact HB.out))); have jT := aa.mk (Kd.nE (Kd.bK (ok' := fun k_ => some k_ ≠ (age : Value).ownBlock) ho1 (fun k_ hk_ => hk_.2)) (az (by exact HB.out))); replace HB := aa.mk (ax (by exact HB.out) hb); clear hb; clear ho0; clear ho1; obtain ⟨Qr, PV, ahc⟩ := Kd.kr jS.out; subst ahc; obtain ⟨FT, Fg, Yx⟩ := Kd.kr jT.out; subst Yx) | ((with_reducible refine bH (f := 24) rfl ?_); refine eU (some 9) rfl rfl Try.func24 (by kernel_rfl) rfl #[.agg #[.slice Qr Ku.length PV, .int .i64 Zx, .int .i64 Za, .int .i64 Ya, .slice FT KE.length Fg]] rfl (by (simp only [List.map_toArray, List.map_cons, List.map_nil]); rfl) ?_; (with_reducible refine (bM.calls k _ _ Ku Zx Za Ya _ _ KE VO QR _ ?side1 ?side2 ?side3 ?side4 A2.out).mono ?_); (case side1 => repeat (exact (Kd.je jS.out).2.2)); (case side2 => exact (Kd.je jS.out).2.1); (case side3 => repeat (exact (Kd.je jT.out).2.2)); (case side4 => exact (Kd.je jT.out).2.1); rintro e w16 ⟨TB, rfl, ho0, hb⟩; refine ⟨_, rfl, ?_⟩; replace jS := aa.mk (Kd.dJ (nU jS.out) (Kd.dG ho0) hb); replace jT := aa.mk (Kd.dJ (nU jT.out) (Kd.dG ho0) hb); have jZ := aa.mk (Kd.fH ho0 (az (by exact HB.out))); replace HB := aa.mk (ax (by exact HB.out) hb); clear hb; (clear ho0)) | ((with_reducible refine bH (f := 48) rfl ?_); refine eU (some 13) rfl rfl Try.func48 (by kernel_rfl) rfl #[] rfl (by (simp only [List.map_toArray, List.map_cons, List.map_nil]); done) ?_; (with_reducible refine (fK.calls  Ot Yo YU Yy Pm _ A3.out).mono ?_); rintro e w17 ⟨ahN, ahP, rfl, ho0, ho1, hb⟩; refine ⟨_, rfl, ?_⟩; have lD := aa.mk (Kd.nE (Kd.bK (ok' := fun k_ => some k_ ≠ (ahP : Value).ownBlock ∧ some k_ ≠ (.slice Qr Ku.length PV : Value).ownBlock ∧ some k_ ≠ (.slice FT KE.length Fg : Value).ownBlock ∧ some k_ ≠ (TB : Value).ownBlock) ho0 (fun k_ hk_ => ⟨hk_.2, (Kd.ic (Kd.ve (nU jS.out)) k_ hk_.1), (Kd.ic (Kd.ve (nU jT.out)) k_ hk_.1), (Kd.ic (Kd.pO (rU jZ.out)) k_ hk_.1)⟩)) (az (by exact HB.out))); have lG := aa.mk (Kd.nE (Kd.bK (ok' := fun k_ => some k_ ≠ (ahN : Value).ownBlock ∧ some k_ ≠ (.slice Qr Ku.length PV : Value).ownBlock ∧ some k_ ≠ (.slice FT KE.length Fg : Value).ownBlock ∧ some k_ ≠ (TB : Value).ownBlock) ho1 (fun k_ hk_ => ⟨hk_.2, (Kd.ic (Kd.ve (nU jS.out)) k_ hk_.1), (Kd.ic (Kd.ve (nU jT.out)) k_ hk_.1), (Kd.ic (Kd.pO (rU jZ.out)) k_ hk_.1)⟩)) (az (by exact HB.out))); replace jS := aa.mk (Kd.bK (Kd.qi (Kd.qi (Kd.EU (nU jS.out) hb) (Kd.lW ho0)) (Kd.lW ho1)) (fun _ h_ => h_.1)); replace jT := aa.mk (Kd.bK (Kd.qi (Kd.qi (Kd.EU (nU jT.out) hb) (Kd.lW ho0)) (Kd.lW ho1)) (fun _ h_ => h_.1)); replace jZ := aa.mk (Kd.eX (rU jZ.out) hb); replace HB := aa.mk (ax (by exact HB.out) hb); clear hb; clear ho0; clear ho1; obtain ⟨Y3, XX, ahv⟩ := Kd.kr lD.out; subst ahv; obtain ⟨zy, zN, YW⟩ := Kd.kr lG.out; subst YW) | ((with_reducible refine bH (f := 19) rfl ?_); refine eU (some 14) rfl rfl Try.func19 (by kernel_rfl) rfl #[.agg #[.slice Y3 Ot.length XX, .int .i64 Yo, .int .i64 YU, .int .i64 Yy, .slice zy Pm.length zN]] rfl (by (simp only [List.map_toArray, List.map_cons, List.map_nil]); rfl) ?_; (with_reducible refine (cZ.calls k _ _ Ot Yo YU Yy _ _ Pm Rx Oh _ ?side1 ?side2 ?side3 ?side4 A4.out).mono ?_); (case side1 => repeat (exact (Kd.je lD.out).2.2)); (case side2 => exact (Kd.je lD.out).2.1); (case side3 => repeat (exact (Kd.je lG.out).2.2)); (case side4 => exact (Kd.je lG.out).2.1); rintro e w20 ⟨rfl, hb⟩; refine ⟨_, rfl, ?_⟩; replace jS := aa.mk (Kd.jE (nU jS.out) hb); replace jT := aa.mk (Kd.jE (nU jT.out) hb); replace jZ := aa.mk (Kd.eX (rU jZ.out) hb); replace lD := aa.mk (Kd.jE (nU lD.out) hb); replace lG := aa.mk (Kd.jE (nU lG.out) hb); replace HB := aa.mk (ax (by exact HB.out) hb); (clear hb)) | ((with_reducible refine dm (N := 19) rfl ?_); ((refine Cb (by rfl) ?_; dsimp only)); refine Kd.tX k27 _ 27 ?hg (N := 19) ?hd (xs := ([(⟨15, 15⟩ : S27)] : List (S27))) (inner := [.int .i64 15, .int .i64 15]) (ok := fun _ => True) (okp := fun _ => True) ?hr ?hp (fun _ hk => hk) trivial (Below.refl _ _) (Nat.le_refl _) (by simp) ?_; (case hd => rfl); (case hg => rfl); (case hr => (go_simp; done)); (case hp => exact (dM.c2 (show Kd.M k27 _ _ _ (⟨15, 15⟩ : S27) [.int .i64 15, .int .i64 15] from (xR _ _ _ (⟨15, 15⟩ : S27) )) (dM.none _ _))); intro ajO w21 Js hb hg_ hnew_; clear hg_ hnew_; (rw [← abJ.out] at Js); replace jS := aa.mk (Kd.dJ (nU jS.out) (Kd.dG Js) hb); replace jT := aa.mk (Kd.dJ (nU jT.out) (Kd.dG Js) hb); replace jZ := aa.mk (Kd.eX (rU jZ.out) hb); replace lD := aa.mk (Kd.dJ (nU lD.out) (Kd.dG Js) hb); replace lG := aa.mk (Kd.dJ (nU lG.out) (Kd.dG Js) hb); have pU := aa.mk (Kd.fH Js (az (by exact HB.out))); replace HB := aa.mk (ax (by exact HB.out) hb); clear hb Js; obtain ⟨O4, O7, XQ⟩ := Kd.fM pU.out; subst XQ) | ((with_reducible refine bH (f := 49) rfl ?_); refine eU (some 20) rfl rfl Try.func49 (by kernel_rfl) rfl #[.int .i64 1, .slice O4 TT.length O7] rfl (by (simp only [List.map_toArray, List.map_cons, List.map_nil]); rfl) ?_; (with_reducible refine (jV.calls 1 (fun k_ => some k_ = (.slice O4 TT.length O7 : Value).ownBlock) _ _ TT Zd X5 YQ YK Yj _ ?side1 A5.out).mono ?_); (case side1 => exact Kd.R_V (Kd.zb rfl (Kd.bC (Kd.bC (Kd.bC (Kd.bC (Kd.bC (pU.out) (Kd.dw jS.out) (by decide)) (Kd.dw jT.out) (by decide)) (Kd.gB jZ.out) (by decide)) (Kd.dw lD.out) (by decide)) (Kd.dw lG.out) (by decide)))); rintro e w24 ⟨agR, agy, rfl, ho0, ho1, hb⟩; refine ⟨_, rfl, ?_⟩; have CP := aa.mk (Kd.nE (Kd.bK (ok' := fun k_ => some k_ ≠ (agy : Value).ownBlock ∧ some k_ ≠ (.slice Qr Ku.length PV : Value).ownBlock ∧ some k_ ≠ (.slice FT KE.length Fg : Value).ownBlock ∧ some k_ ≠ (TB : Value).ownBlock ∧ some k_ ≠ (.slice Y3 Ot.length XX : Value).ownBlock ∧ some k_ ≠ (.slice zy Pm.length zN : Value).ownBlock) ho0 (fun k_ hk_ => ⟨hk_.2, Or.elim hk_.1 (fun hs_ => ((Kd.bC (Kd.bC (Kd.bC (Kd.bC (Kd.bC (pU.out) (Kd.dw jS.out) (by decide)) (Kd.dw jT.out) (by decide)) (Kd.gB jZ.out) (by decide)) (Kd.dw lD.out) (by decide)) (Kd.dw lG.out) (by decide)).1 k_ hs_.symm).1.1.1.1.2) (fun hn_ => (Kd.ic (Kd.ve (nU jS.out)) k_ hn_)), Or.elim hk_.1 (fun hs_ => ((Kd.bC (Kd.bC (Kd.bC (Kd.bC (Kd.bC (pU.out) (Kd.dw jS.out) (by decide)) (Kd.dw jT.out) (by decide)) (Kd.gB jZ.out) (by decide)) (Kd.dw lD.out) (by decide)) (Kd.dw lG.out) (by decide)).1 k_ hs_.symm).1.1.1.2) (fun hn_ => (Kd.ic (Kd.ve (nU jT.out)) k_ hn_)), Or.elim hk_.1 (fun hs_ => ((Kd.bC (Kd.bC (Kd.bC (Kd.bC (Kd.bC (pU.out) (Kd.dw jS.out) (by decide)) (Kd.dw jT.out) (by decide)) (Kd.gB jZ.out) (by decide)) (Kd.dw lD.out) (by decide)) (Kd.dw lG.out) (by decide)).1 k_ hs_.symm).1.1.2) (fun hn_ => (Kd.ic (Kd.pO (rU jZ.out)) k_ hn_)), Or.elim hk_.1 (fun hs_ => ((Kd.bC (Kd.bC (Kd.bC (Kd.bC (Kd.bC (pU.out) (Kd.dw jS.out) (by decide)) (Kd.dw jT.out) (by decide)) (Kd.gB jZ.out) (by decide)) (Kd.dw lD.out) (by decide)) (Kd.dw lG.out) (by decide)).1 k_ hs_.symm).1.2) (fun hn_ => (Kd.ic (Kd.ve (nU lD.out)) k_ hn_)), Or.elim hk_.1 (fun hs_ => ((Kd.bC (Kd.bC (Kd.bC (Kd.bC (Kd.bC (pU.out) (Kd.dw jS.out) (by decide)) (Kd.dw jT.out) (by decide)) (Kd.gB jZ.out) (by decide)) (Kd.dw lD.out) (by decide)) (Kd.dw lG.out) (by decide)).1 k_ hs_.symm).2) (fun hn_ => (Kd.ic (Kd.ve (nU lG.out)) k_ hn_))⟩)) (az (by exact HB.out))); have DC := aa.mk (Kd.nE (Kd.bK (ok' := fun k_ => some k_ ≠ (agR : Value).ownBlock ∧ some k_ ≠ (.slice Qr Ku.length PV : Value).ownBlock ∧ some k_ ≠ (.slice FT KE.length Fg : Value).ownBlock ∧ some k_ ≠ (TB : Value).ownBlock ∧ some k_ ≠ (.slice Y3 Ot.length XX : Value).ownBlock ∧ some k_ ≠ (.slice zy Pm.length zN : Value).ownBlock) ho1 (fun k_ hk_ => ⟨hk_.2, Or.elim hk_.1 (fun hs_ => ((Kd.bC (Kd.bC (Kd.bC (Kd.bC (Kd.bC (pU.out) (Kd.dw jS.out) (by decide)) (Kd.dw jT.out) (by decide)) (Kd.gB jZ.out) (by decide)) (Kd.dw lD.out) (by decide)) (Kd.dw lG.out) (by decide)).1 k_ hs_.symm).1.1.1.1.2) (fun hn_ => (Kd.ic (Kd.ve (nU jS.out)) k_ hn_)), Or.elim hk_.1 (fun hs_ => ((Kd.bC (Kd.bC (Kd.bC (Kd.bC (Kd.bC (pU.out) (Kd.dw jS.out) (by decide)) (Kd.dw jT.out) (by decide)) (Kd.gB jZ.out) (by decide)) (Kd.dw lD.out) (by decide)) (Kd.dw lG.out) (by decide)).1 k_ hs_.symm).1.1.1.2) (fun hn_ => (Kd.ic (Kd.ve (nU jT.out)) k_ hn_)), Or.elim hk_.1 (fun hs_ => ((Kd.bC (Kd.bC (Kd.bC (Kd.bC (Kd.bC (pU.out) (Kd.dw jS.out) (by decide)) (Kd.dw jT.out) (by decide)) (Kd.gB jZ.out) (by decide)) (Kd.dw lD.out) (by decide)) (Kd.dw lG.out) (by decide)).1 k_ hs_.symm).1.1.2) (fun hn_ => (Kd.ic (Kd.pO (rU jZ.out)) k_ hn_)), Or.elim hk_.1 (fun hs_ => ((Kd.bC (Kd.bC (Kd.bC (Kd.bC (Kd.bC (pU.out) (Kd.dw jS.out) (by decide)) (Kd.dw jT.out) (by decide)) (Kd.gB jZ.out) (by decide)) (Kd.dw lD.out) (by decide)) (Kd.dw lG.out) (by decide)).1 k_ hs_.symm).1.2) (fun hn_ => (Kd.ic (Kd.ve (nU lD.out)) k_ hn_)), Or.elim hk_.1 (fun hs_ => ((Kd.bC (Kd.bC (Kd.bC (Kd.bC (Kd.bC (pU.out) (Kd.dw jS.out) (by decide)) (Kd.dw jT.out) (by decide)) (Kd.gB jZ.out) (by decide)) (Kd.dw lD.out) (by decide)) (Kd.dw lG.out) (by decide)).1 k_ hs_.symm).2) (fun hn_ => (Kd.ic (Kd.ve (nU lG.out)) k_ hn_))⟩)) (az (by exact HB.out))); replace jS := aa.mk (Kd.bK (Kd.qi (Kd.qi (Kd.EU (nU jS.out) hb) (Kd.lW ho0)) (Kd.lW ho1)) (fun _ h_ => h_.1)); replace jT := aa.mk (Kd.bK (Kd.qi (Kd.qi (Kd.EU (nU jT.out) hb) (Kd.lW ho0)) (Kd.lW ho1)) (fun _ h_ => h_.1)); replace jZ := aa.mk (Kd.eX (rU jZ.out) hb); replace lD := aa.mk (Kd.bK (Kd.qi (Kd.qi (Kd.EU (nU lD.out) hb) (Kd.lW ho0)) (Kd.lW ho1)) (fun _ h_ => h_.1)); replace lG := aa.mk (Kd.bK (Kd.qi (Kd.qi (Kd.EU (nU lG.out) hb) (Kd.lW ho0)) (Kd.lW ho1)) (fun _ h_ => h_.1)); replace pU := aa.mk (Kd.eX (rU pU.out) hb); replace HB := aa.mk (ax (by exact HB.out) hb); clear hb; clear ho0; clear ho1; obtain ⟨Tf, UM, XJ⟩ := Kd.kr CP.out; subst XJ; obtain ⟨UK, Wj, Yv⟩ := Kd.kr DC.out; subst Yv) | ((with_reducible refine bH (f := 21) rfl ?_); refine eU (some 21) rfl rfl Try.func21 (by kernel_rfl) rfl #[.agg #[.slice Tf Zd.length UM, .int .i64 X5, .int .i64 YQ, .int .i64 YK, .slice UK Yj.length Wj]] rfl (by (simp only [List.map_toArray, List.map_cons, List.map_nil]); rfl) ?_; (with_reducible refine (oI.calls _ _ Zd X5 YQ YK _ _ Yj TI V7 _ ?side1 ?side2 ?side3 ?side4 A6.out).mono ?_); (case side1 => repeat (exact (Kd.je CP.out).2.2)); (case side2 => exact (Kd.je CP.out).2.1); (case side3 => repeat (exact (Kd.je DC.out).2.2)); (case side4 => exact (Kd.je DC.out).2.1); rintro e w27 ⟨rfl, hb⟩; refine ⟨_, rfl, ?_⟩; replace jS := aa.mk (Kd.jE (nU jS.out) hb); replace jT := aa.mk (Kd.jE (nU jT.out) hb); replace jZ := aa.mk (Kd.eX (rU jZ.out) hb); replace lD := aa.mk (Kd.jE (nU lD.out) hb); replace lG := aa.mk (Kd.jE (nU lG.out) hb); replace pU := aa.mk (Kd.eX (rU pU.out) hb); replace CP := aa.mk (Kd.jE (nU CP.out) hb); replace DC := aa.mk (Kd.jE (nU DC.out) hb); replace HB := aa.mk (ax (by exact HB.out) hb); (clear hb)) | ((with_reducible refine dm (N := 44) rfl ?_); ((refine Cb (by rfl) ?_; dsimp only)); refine Kd.tX Kd.string _ 9 ?hg (N := 44) ?hd (xs := ([(⟨#[65]⟩ : ByteArray), (⟨#[65, 76]⟩ : ByteArray), (⟨#[84]⟩ : ByteArray)] : List ByteArray)) (inner := [.string (⟨#[65]⟩ : ByteArray), .string (⟨#[65, 76]⟩ : ByteArray), .string (⟨#[84]⟩ : ByteArray)]) (ok := fun _ => True) (okp := fun _ => True) ?hr ?hp (fun _ hk => hk) trivial (Below.refl _ _) (Nat.le_refl _) (by simp) ?_; (case hd => rfl); (case hg => rfl); (case hr => (go_simp; done)); (case hp => exact (dM.one (show Kd.M Kd.string _ _ _ (⟨#[65]⟩ : ByteArray) [.string (⟨#[65]⟩ : ByteArray)] from rfl) (dM.one (show Kd.M Kd.string _ _ _ (⟨#[65, 76]⟩ : ByteArray) [.string (⟨#[65, 76]⟩ : ByteArray)] from rfl) (dM.one (show Kd.M Kd.string _ _ _ (⟨#[84]⟩ : ByteArray) [.string (⟨#[84]⟩ : ByteArray)] from rfl) (dM.none _ _))))); intro ajZ w28 Ed hb hg_ hnew_; clear hg_ hnew_; (rw [← aao.out] at Ed); replace jS := aa.mk (Kd.dJ (nU jS.out) (Kd.dG Ed) hb); replace jT := aa.mk (Kd.dJ (nU jT.out) (Kd.dG Ed) hb); replace lD := aa.mk (Kd.dJ (nU lD.out) (Kd.dG Ed) hb); replace lG := aa.mk (Kd.dJ (nU lG.out) (Kd.dG Ed) hb); replace pU := aa.mk (Kd.eX (rU pU.out) hb); replace CP := aa.mk (Kd.dJ (nU CP.out) (Kd.dG Ed) hb); replace DC := aa.mk (Kd.dJ (nU DC.out) (Kd.dG Ed) hb); have Px := aa.mk (Kd.fH (Kd.qc Ed (Kd.pO (rU jZ.out))) (az (by exact HB.out))); replace jZ := aa.mk (Kd.kW (rU jZ.out) (Kd.dG Ed) hb); replace HB := aa.mk (ax (by exact HB.out) hb); clear hb Ed; obtain ⟨ajQ, ajA, ahg⟩ := Kd.fM jZ.out; subst ahg; obtain ⟨aj1, ajG, agP⟩ := Kd.fM Px.out; subst agP) | (go_at_call 42; (with_reducible refine (bE.calls k _ _ VO _ _ aag FP _ ?side1 ?side2 ?side3 ?side4 A12.out).mono ?_); (case side1 => repeat (exact (Kd.eP jZ.out).2.2)); (case side2 => exact (Kd.eP jZ.out).2.1); (case side3 => repeat (exact (Kd.eP Px.out).2.2)); (case side4 => exact (Kd.eP Px.out).2.1); rintro e w' ⟨rfl, ⟨nd, rfl⟩⟩))
      go_ret
      exact ⟨by simp [*, NH, Nw] <;> rfl, by exact lU HB.out⟩
     ·rw [if_neg c11] at H; exact absurd ((Option.some.inj H).trans hrT) (by decide)
    ·rw [if_neg c10] at H; exact absurd ((Option.some.inj H).trans hrT) (by decide)
   ·rw [if_neg c9] at H; exact absurd ((Option.some.inj H).trans hrT) (by decide)
  ·rw [if_neg c8] at H; exact absurd ((Option.some.inj H).trans hrT) (by decide)
 ·rw [if_neg c7] at H; exact absurd ((Option.some.inj H).trans hrT) (by decide)
end Go.Proofs.Ytihedeofkhapiaa.Pr
end
section
namespace Go.Proofs.Ytihedeofkhapiaa.Pr
open Go.RowKit Go.Proofs.YtihedeofkhapiaaW.PrintWords Go.Proofs.YtihedeofkhapiaaW.PrintLast Go.Proofs.YtihedeofkhapiaaW.PrintMore
theorem Ev.call {α β : Type} {o : Option α} {f : Nat → α → Option β} {a : α} {r : β} (h : o = some a) (k : Ev (fun n => f n a) r) : Ev (fun n => o.bind (f n)) r := by
 subst h; exact k
theorem Ev.pos {α : Type} {c : Prop} [Decidable c] {g f : Nat → Option α} {r : α} (h : c) (k : Ev f r) : Ev (fun n => if c then f n else g n) r :=
 Ev.congr (fun n => if_pos h) k
theorem Ev.neg {α : Type} {c : Prop} [Decidable c] {g f : Nat → Option α} {r : α} (h : ¬ c) (k : Ev g r) : Ev (fun n => if c then f n else g n) r :=
 Ev.congr (fun n => if_neg h) k
theorem rdO (T : List ByteArray) (i : Nat) (h : i < T.length) : jc ByteArray.empty T (i : Int) = T[i] := by
 simp [jc, List.getD_eq_getElem?_getD, h]
theorem J9 (L : List (List Int)) (hL : L.length ≤ 100) : ∀ (d i : Nat) (o : List ByteArray), i + d = L.length → o.length = i →
 Ev (fun k => bM.l0 k o L (L.length : Int) (i : Int)) (o ++ (L.drop i).map strOfNums, 0) := by
 intro d
 induction d with
 | zero =>
  intro i o hi ho; refine Ev.step (f := fun _ => some (o, 0)) (fun k => by rw [bM.l0, if_neg (by omega)]) ?_; rw [List.drop_eq_nil_of_le (by omega), List.map_nil, List.append_nil]; exact Ev.now _
 | succ d ih =>
  intro i o hi ho; (have e : iX L (i : Int) = L[i] := by simp [iX, List.getD_eq_getElem?_getD, show i < L.length by omega]); (have hw : wrap64 ((i : Int) + 1) = ((i + 1 : Nat) : Int) := by rw [eT (by omega) (by omega)]; omega); have q := ih (i + 1) (o ++ [strOfNums L[i]]) (by omega) (by simp; omega); rw [List.append_assoc] at q; rw [List.drop_eq_getElem_cons (show i < L.length by omega), List.map_cons]; refine Ev.step (fun k => ?_) q; rw [bM.l0, if_pos (by omega), if_pos (by omega), if_pos (by omega), if_pos (by omega), e, hw]
theorem aiq (l : List Int) (n : Int) (hl : l.length ≤ 1000) (h : n ∈ l) : Ev (fun k => eD.f k l n) true := by
 have key : ∀ (d i : Nat), i + d = l.length → n ∈ l.drop i → Ev (fun k => eD.l0 k l n (i : Int)) true := by
  intro d
  induction d with
  | zero =>
   intro i hi hm; rw [List.drop_eq_nil_of_le (by omega)] at hm; exact absurd hm List.not_mem_nil
  | succ d ih =>
   intro i hi hm; (have hil : i < l.length := by omega); (have e : rd l (i : Int) = l[i] := by simp [rd, List.getD_eq_getElem?_getD, hil]); (have hw : wrap64 ((i : Int) + 1) = ((i + 1 : Nat) : Int) := by rw [eT (by omega) (by omega)]; omega); by_cases he : l[i] = n
   ·refine Ev.step (f := fun _ => some true) (fun k => ?_) (Ev.now _); rw [eD.l0, if_pos (by omega), if_pos (by omega), e, if_pos he]
   ·rw [List.drop_eq_getElem_cons hil] at hm; have hm' := (List.mem_cons.1 hm).resolve_left (fun q => he q.symm); refine Ev.step (fun k => ?_) (ih (i + 1) (by omega) hm'); rw [eD.l0, if_pos (by omega), if_pos (by omega), e, if_neg he, hw]
 exact Ev.congr (fun k => by rw [eD.f]; rfl) (key l.length 0 (by omega) (by simpa using h))
theorem abO (l : List Int) : (strOfNums l).size = l.length := by simp [strOfNums, ByteArray.size]
theorem afP {a1 a2 a3 : Int} {r : AP} (hg : pq a1 a2 a3 r) (ht : Mt r) (h2 : a2 ≤ 8) (h3 : a3 ≤ 8) : (∀ h ∈ r.1, pI h.f1) ∧ rO r.2.2.2.2.1 := by
 refine ⟨fun h hm => ?_, ?_, fun q hq => ?_⟩
 ·have := hg.1.2.2 h hm; exact ⟨this.2.2.2.1, by have := this.2.2.2.2.2; omega⟩
 ·have := hg.2.2.2.2.2.1; omega
 ·obtain ⟨_, _, ms, cs, ⟨_, _, hA⟩, _⟩ := ht; obtain ⟨i, hi, rfl⟩ := List.getElem_of_mem hq; obtain ⟨k, v, _, _, hx, _⟩ := hA i hi; exact Ep.sm hx
theorem YD {hs : List S66} {w c t : Int} {sq : List (List S27)} (hck : eH hs w c t sq = 0) (hl : sq.length ≤ 100) {F : List Int} (hfit : fA.f hs w c t sq = some (F, 0)) :
 Ev (fun k => bM.f k hs w c t sq) ((fu (-1) 0 w c t hs sq).map strOfNums, 0) := by
 (have hLl : (fu (-1) 0 w c t hs sq).length = sq.length := by simp [fu]); refine Ev.congr (f := fun k => bM.l0 k [] (fu (-1) 0 w c t hs sq) ((fu (-1) 0 w c t hs sq).length : Int) ((0 : Nat) : Int)) (fun k => ?_) (by simpa using J9 (fu (-1) 0 w c t hs sq) (by omega) (fu (-1) 0 w c t hs sq).length 0 [] (by omega) rfl); rw [bM.f, hfit, Option.bind_some, if_pos rfl, dF.f, if_pos hck, Option.bind_some]; rfl
theorem YH {hs : List S66} {w c t : Int} {sq : List (List S27)} (hck : eH hs w c t sq = 0) (hne : mM hs w c t sq (List.finRange hs.length) ≠ []) :
 fA.f hs w c t sq = some (mM hs w c t sq (List.finRange hs.length), 0) := by
 rw [fA.f, tO, if_pos hck, if_neg hne]
theorem UO (hs : List S66) (w c t : Int) (sq : List (List S27)) (h1 : hs.length ≤ 100) (h2 : ∀ h ∈ hs, h.f1.length ≤ 100) (h3 : sq.length ≤ 100) (h4 : ∀ q ∈ sq, q.length ≤ 100) : Ev (fun k => aC.f k hs w c t sq) (hs, w, c, t, sq) := by
 have L1 : ∀ (d i : Nat) (acc : List (List S27)), i + d = sq.length → acc.length = i → acc ++ sq.drop i = sq → Ev (fun k => aC.l1 k sq (i : Int) hs w c t acc) (hs, w, c, t, sq) := by
  intro d
  induction d with
  | zero =>
   intro i acc hi hl he; rw [List.drop_eq_nil_of_le (by omega), List.append_nil] at he; subst he; exact Ev.step (f := fun _ => some (hs, w, c, t, acc)) (fun k => by rw [aC.l1, if_neg (by omega)]) (Ev.now _)
  | succ d ih =>
   intro i acc hi hl he; (have hil : i < sq.length := by omega); (have hw : wrap64 ((i : Int) + 1) = ((i + 1 : Nat) : Int) := by rw [eT (by omega) (by omega)]; omega); have hq := h4 _ (List.getElem_mem hil); rw [List.drop_eq_getElem_cons hil] at he; (have k1 : ([] : List S27).length + (sq[i]).length < 8796093022208 := by rw [List.length_nil]; omega); (have k2 : acc.length < 5864062014805 := by omega); refine Ev.step (fun k => ?_) (ih (i + 1) (acc ++ [sq[i]]) (by omega) (by simp [hl]) (by rw [List.append_assoc]; exact he)); rw [aC.l1, if_pos (by omega), Option.bind_some, if_pos (by omega), sN sq i hil, if_pos k1, if_pos k2, hw, List.nil_append]
 have L0 : ∀ (d i : Nat) (acc : List S66), i + d = hs.length → acc.length = i → acc ++ hs.drop i = hs → Ev (fun k => aC.l0 k hs sq (i : Int) acc w c t) (hs, w, c, t, sq) := by
  intro d
  induction d with
  | zero =>
   intro i acc hi hl he; rw [List.drop_eq_nil_of_le (by omega), List.append_nil] at he; subst he; refine Ev.step (fun k => ?_) (L1 sq.length 0 [] (by omega) rfl (by simp)); rw [aC.l0, if_neg (by omega)]; rfl
  | succ d ih =>
   intro i acc hi hl he; (have hil : i < hs.length := by omega); (have hw : wrap64 ((i : Int) + 1) = ((i + 1 : Nat) : Int) := by rw [eT (by omega) (by omega)]; omega); have hq := h2 _ (List.getElem_mem hil); rw [List.drop_eq_getElem_cons hil] at he; (have k1 : ([] : List S86).length + (hs[i].f1).length < 8796093022208 := by rw [List.length_nil]; omega); (have k2 : acc.length < 3518437208883 := by omega); refine Ev.step (fun k => ?_) (ih (i + 1) (acc ++ [hs[i]]) (by omega) (by simp [hl]) (by rw [List.append_assoc]; exact he)); rw [aC.l0, if_pos (by omega), if_pos (by omega), Option.bind_some, lg hs i hil, if_pos k1, if_pos k2, hw, List.nil_append]
 exact Ev.congr (fun k => by rw [aC.f]; rfl) (L0 hs.length 0 [] (by omega) rfl (by simp))
end Go.Proofs.Ytihedeofkhapiaa.Pr
end
