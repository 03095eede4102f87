/- Part 33 of 36 of the proof of: SightLooks: for every line and slice of numbers, the law returns true: the program tells which letter would be best to be known, and how many letters may still fit then, as the reference does, with the same error, and changes nothing; no condition beyond the statement's own. -/
import Derived.RangeFuncBox
import Derived.Maps.AppendAt
import Derived.Maps.OwnIn
import Derived.Maps.RangeWalk
import Derived.Sort.KeysCollected
import Derived.Laws.MakeOwn
import Derived.Laws.OwnMore
import Derived.Sort.CutIn
import Derived.Sort.LoopGhostIn
import Derived.Deep.QuietTactic
import Derived.BigQuiet
import Derived.Deep.RegionHeld3
import Derived.Test.YtihedeofkhapiaaSO5
import Derived.Test.YtihedeofkhapiaaSO21
import Derived.Test.YtihedeofkhapiaaSO23
import Derived.Test.YtihedeofkhapiaaSO24
import Derived.Test.YtihedeofkhapiaaSO30
import Derived.Test.YtihedeofkhapiaaSO31
import Derived.Test.YtihedeofkhapiaaSO32
set_option linter.unusedVariables false
set_option linter.unusedSimpArgs false
section
namespace Go.Proofs.Ytihedeofkhapiaa.Pr
open Go.RowKit Go.Shelf Go.Proofs.YtihedeofkhapiaaW.PrintWords Go.Proofs.YtihedeofkhapiaaW.PrintLast Go.Proofs.YtihedeofkhapiaaW.PrintMore
attribute [local go_sem] Oper.semAt_some
def xh (gs gl a1 a2 a3 : Int) (l0 : List S66) (l4 : List (List S27)) (i x k : Nat) : Bool :=
 let m := dI a1 a2 l0 l4 x
 let st := eQ gs gl m (ah l0 (x : Int)).f1 l4.length
 tF gs gl i (ai (ah l0 (x : Int)).f1 (k : Int)) && decide (m.getD (i * 8 + k) 0 < 1048576) && decide (wrap64 (wrap64 (st.2 - st.1.getD i 0) + m.getD (i * 8 + k) 0) ≤ a3)
def mE (gs gl a1 a2 a3 : Int) (l0 : List S66) (l4 : List (List S27)) (i x : Nat) : Nat → Int → Bool
 | 0, _ => false
 | k + 1, c => mE gs gl a1 a2 a3 l0 l4 i x k c || (xh gs gl a1 a2 a3 l0 l4 i x k && (c == (ai (ah l0 (x : Int)).f1 (k : Int)).f0))
def gT (gs gl a1 a2 a3 : Int) (l0 : List S66) (l4 : List (List S27)) (i : Nat) (pre : List (Fin l0.length)) (c : Int) : Bool :=
 pre.any fun x => mE gs gl a1 a2 a3 l0 l4 i x.1 (ah l0 (x.1 : Int)).f1.length c
def dz (gs gl a1 a2 a3 : Int) (l0 : List S66) (l4 : List (List S27)) (i : Nat) : List Int :=
 ((List.range 256).map Int.ofNat).filter (gT gs gl a1 a2 a3 l0 l4 i (List.finRange l0.length))
def fA (gs gl a1 a2 a3 : Int) (l0 : List S66) (l4 : List (List S27)) : List (List Int) := (List.range l4.length).map (dz gs gl a1 a2 a3 l0 l4)
def dG.f (gu : Int) (aY : Int) (iX : List (S66)) (jN : Int) (jR : Int) (lV : Int) (fu : List (List (S27))) : Option ((List (List Int))) :=
 if eH iX jN jR lV fu = 0 then some (fA gu aY jN jR lV iX fu) else none
theorem Ed (gs gl a1 a2 a3 : Int) (l0 : List S66) (l4 : List (List S27)) : ∀ l ∈ fA gs gl a1 a2 a3 l0 l4, l.length ≤ 256 := fun l hl => by
 obtain ⟨i, _, rfl⟩ := List.mem_map.1 hl; exact Nat.le_trans (List.length_filter_le _ _) (by simp)
theorem vI : ∀ {p : Option Int} {l : List S86}, jc p l = 0 → ∀ s ∈ l, 65 ≤ s.f0 ∧ s.f0 ≤ 90
 | _, [], _, s, hs => by cases hs
 | p, s :: r, h, t, ht => by
  simp only [jc] at h; by_cases h1 : s.f0 < 65 ∨ s.f0 > 90
  ·rw [if_pos h1] at h; cases h
  ·rw [if_neg h1] at h; by_cases h2 : inP s.f1 1 1023 = true
   ·rw [if_pos h2] at h; by_cases h3 : ∃ q, p = some q ∧ s.f0 ≤ q
    ·rw [if_pos h3] at h; cases h
    ·rw [if_neg h3] at h; rcases List.mem_cons.1 ht with rfl | ht
     ·omega
     ·exact vI h t ht
   ·rw [if_neg h2] at h; cases h
theorem FT {l0 : List S66} (h : jh l0 = 0) (x k : Nat) (hx : x < l0.length) (hk : k < (ah l0 (x : Int)).f1.length) : 65 ≤ (ai (ah l0 (x : Int)).f1 (k : Int)).f0 ∧ (ai (ah l0 (x : Int)).f1 (k : Int)).f0 ≤ 90 := by
 have h1 := EW h (ah l0 (x : Int)) (by rw [Nq, List.getD_eq_getElem?_getD, List.getElem?_eq_getElem hx]; exact List.getElem_mem _); have h2 := (Aj h1).2.2.2.2.2; refine vI h2 _ ?_; rw [Kg, List.getD_eq_getElem?_getD, List.getElem?_eq_getElem hk]; exact List.getElem_mem _
def pz (W : World) (b : Nat) (S : Int → Bool) (N : Nat) : Prop := ∃ (D : DataW Unit) (nn : Nat), W.ownsMap Try.prog 5 (plainElem Try.prog 4) b nn D ∧ nn ≤ N ∧ ∀ c, Maps.has D (.int .u8 c) = S c
theorem pz.kept {W W' : World} {b : Nat} {S : Int → Bool} {N : Nat} (h : pz W b S N) {row : Option Nat} (hg : W.grownBy W' row) (hb : row ≠ some b) : pz W' b S N := by
 obtain ⟨D, nn, h1, h2⟩ := h; exact ⟨D, nn, h1.kept hg (fun e => hb e.symm), h2⟩
theorem pz.lt {W : World} {b : Nat} {S : Int → Bool} {N : Nat} (h : pz W b S N) : b < W.heap.size := by
 obtain ⟨D, nn, h1, h2⟩ := h; exact h1.lt
theorem pz.below {W W' : World} {b : Nat} {S : Int → Bool} {N : Nat} (h : pz W b S N) (hb : Below W.heap.size W W') : pz W' b S N := h.kept (jr hb none) (by simp)
theorem pz.more {W : World} {b : Nat} {S : Int → Bool} {N N' : Nat} (h : pz W b S N) (hn : N ≤ N') : pz W b S N' := by
 obtain ⟨D, nn, h1, h2, h3⟩ := h; exact ⟨D, nn, h1, Nat.le_trans h2 hn, h3⟩
theorem pz.put {D : DataW Unit} {W : World} {b nn N : Nat} {S : Int → Bool} {c : Int} {D0 : DataW Unit} (h : W.ownsMap Try.prog 5 (plainElem Try.prog 4) b nn (D0.put (.int .u8 c) D)) (hD : Maps.IsMap D0) (hn : nn ≤ N) (hs : ∀ c, Maps.has D0 (.int .u8 c) = S c) : pz W b (fun x => S x || x == c) N := by
 refine ⟨_, nn, h, hn, fun x => ?_⟩; by_cases hx : x = c
 ·subst hx; rw [Maps.has_put_same (k := .int .u8 x) hD trivial]; simp
 ·rw [Maps.has_put_other (by simpa using hx), hs x]; simp [hx]
theorem pz.congr {W : World} {b N : Nat} {S S' : Int → Bool} (h : pz W b S N) (he : ∀ c, S c = S' c) : pz W b S' N := by
 obtain ⟨D, nn, h1, h2, h3⟩ := h; exact ⟨D, nn, h1, h2, fun c => (h3 c).trans (he c)⟩
def xX (S : Int → Bool) (left : Lit → Bool) (ss : List Int) : Prop := ss.Nodup ∧ (∀ x, x ∈ ss ↔ (S x = true ∧ left (.int .u8 x) = false)) ∧ ∀ x ∈ ss, 0 ≤ x ∧ x < 256
theorem wf_u8 {x : Int} : (Lit.int .u8 x).wf = true ↔ 0 ≤ x ∧ x < 256 := by
 have e1 : IntKind.u8.min = 0 := rfl; have e2 : IntKind.u8.max = 255 := rfl; simp only [Lit.wf, e1, e2]; simp; omega
theorem xX.start {D : DataW Unit} {S : Int → Bool} (h : ∀ c, Maps.has D (.int .u8 c) = S c) : xX S (Maps.has D) [] := ⟨List.nodup_nil, fun x => by rw [h x]; cases S x <;> simp, fun x hx => by cases hx⟩
theorem xX.step {S : Int → Bool} {left : Lit → Bool} {ss : List Int} (h : xX S left ss) {x : Int} (hl : left (.int .u8 x) = true) (hs : S x = true) (hw : 0 ≤ x ∧ x < 256) : xX S (fun z => left z && !z.sameKey (.int .u8 x)) (ss ++ [x]) := by
 (have hnew : x ∉ ss := fun hx => by have := ((h.2.1 x).1 hx).2; rw [hl] at this; cases this); refine ⟨List.nodup_append.2 ⟨h.1, by simp, fun a ha b hb => by simp at hb; subst hb; exact fun e => hnew (e ▸ ha)⟩, fun y => ?_, fun y hy => ?_⟩
 ·by_cases hy : y = x
  ·subst hy; simp [hs, Lit.sameKey]
  ·simp [h.2.1 y, hy, Lit.sameKey]
 ·rcases List.mem_append.1 hy with hy | hy
  ·exact h.2.2 y hy
  ·simp at hy; subst hy; exact hw
theorem xX.perm {gs gl a1 a2 a3 : Int} {l0 : List S66} {l4 : List (List S27)} {i : Nat} {left : Lit → Bool} {ss : List Int} (h : xX (gT gs gl a1 a2 a3 l0 l4 i (List.finRange l0.length)) left ss) (hl : ∀ kl, left kl = false) : (dz gs gl a1 a2 a3 l0 l4 i).Perm ss := by
 have hnd : ((List.range 256).map Int.ofNat).Nodup := by
  refine List.pairwise_map.2 (List.nodup_range.imp fun hne e => hne ?_); exact Int.ofNat.inj e
 (refine (List.perm_ext_iff_of_nodup (hnd.filter _) h.1).2 fun x => ?_); rw [List.mem_filter, h.2.1 x]; constructor
 ·rintro ⟨_, h2⟩; exact ⟨h2, hl _⟩
 ·rintro ⟨h1, h2⟩; have := h.2.2 x ((h.2.1 x).2 ⟨h1, h2⟩); exact ⟨List.mem_map.2 ⟨x.toNat, by simp; omega, by simp; omega⟩, h1⟩
theorem Di (gs gl a1 a2 a3 : Int) (l0 : List S66) (l4 : List (List S27)) (i : Nat) : (dz gs gl a1 a2 a3 l0 l4 i).Pairwise (· ≤ ·) := by
 refine List.Pairwise.filter _ (List.pairwise_map.2 (List.pairwise_le_range.imp fun h => ?_)); exact Int.ofNat_le.2 h
theorem O8 {key : Value} {kl : Lit} (h : keyOf Try.prog 5 key = some kl) : ∃ x : Int, key = .int .u8 x ∧ kl = .int .u8 x ∧ (Lit.int .u8 x).wf = true := Maps.keyOf_int_inv Try.underlying5 h
theorem ZJ {W : World} {g : Nat} {v : Int} (h : W.cell? ⟨g, 0, none⟩ = some (.int .u8 v)) : Kd.C (Kd.int .u8) W (some ⟨g, 0, none⟩) 1 [v] := by
 refine ⟨rfl, by simp, fun _ => ⟨_, rfl, fun j p hp => ?_⟩⟩
 cases j with
 | zero =>
  simp at hp; subst hp; refine ⟨[.int .u8 v], rfl, rfl, fun i u hu => ?_⟩
  cases i with
  | zero =>
   simp at hu; subst hu; exact h
  | succ i => simp at hu
 | succ j => simp at hp
theorem QF (W : World) (n : Nat) (hn : n ≤ 1000) : (Instr.makeSlice 88 (.int .i64 (n : Int)) (.int .i64 (n : Int))).run Try.prog W = .ok (.slice (some ⟨W.heap.size, 0, none⟩) n n) (W.alloc (.cells (madeCells #[.int .u8 0] n) 5)) := by
 obtain ⟨i, h1, h2, h3, h4⟩ := info_parts (P := Try.prog) (e := 5) (z := .int .u8 0) (size := 1) (bytes := 1) (by kernel_rfl); have h := run_makeSlice (P := Try.prog) W 88 5 i (.int .u8 0) Try.underlying88 h1 h2 .i64 .i64 n n (by omega) (by omega) (by rw [h3]; omega) (by rw [h4]; omega) (by omega); rw [h3] at h; rw [show (Value.int .u8 0).cells = #[Value.int .u8 0] from rfl] at h
 simpa using h
theorem Y8 (W : World) (n base : Nat) (hn : n ≤ 1000) (hb : base ≤ W.heap.size) : Kd.R (Kd.int .u8) 5 (W.alloc (.cells (madeCells #[.int .u8 0] n) 5)) base (fun k => k = W.heap.size) (.slice (some ⟨W.heap.size, 0, none⟩) n n) (List.replicate n 0) := by
 obtain ⟨i, h1, h2, h3, h4⟩ := info_parts (P := Try.prog) (e := 5) (z := .int .u8 0) (size := 1) (bytes := 1) (by kernel_rfl); obtain ⟨w', e1, e2, e3⟩ := run_makeSlice_full (P := Try.prog) (w := W) base 88 5 i (.int .u8 0) 1 Try.underlying88 h1 h2 h3 .i64 .i64 n (by omega) (by rw [h4]; omega) (by unfold maxLen; omega) hb; rw [QF W n hn] at e1; injection e1 with _ e1; subst e1; refine Kd.vY (enc := Value.int .u8) ?_ (fun k hk => by simp [Value.ownBlock] at hk; exact hk.symm); rw [List.length_replicate]
 have : encs (Value.int .u8) (List.replicate n (0 : Int)) = (madeCells (Value.int IntKind.u8 0).cells (n * 1)).toList := by
  rw [show (Value.int IntKind.u8 0).cells = #[Value.int .u8 0] from rfl, Nat.mul_one]; apply List.ext_getElem?; intro j; simp only [encs, madeCells, List.map_replicate]; simp; by_cases hj : j < n
  ·simp [hj, Nat.mod_one]
  ·simp [hj]
 rw [this]; exact e2
theorem Fw {gs gl a1 a2 a3 : Int} {l0 : List S66} {l4 : List (List S27)} {i : Nat} (pre : List (Fin l0.length)) (x : Fin l0.length) (c : Int) : gT gs gl a1 a2 a3 l0 l4 i (pre ++ [x]) c = (gT gs gl a1 a2 a3 l0 l4 i pre c || mE gs gl a1 a2 a3 l0 l4 i x.1 (ah l0 (x.1 : Int)).f1.length c) := by
 simp [gT, List.any_append]
theorem w64 (n : Int) : wrap64 n = IntKind.i64.wrap n := by
 simp only [IntKind.wrap, IntKind.bits, IntKind.signed, wrap64]; simp; split <;> omega
theorem VY (W : World) (n : Nat) (hn : n ≤ 8) : (Instr.makeSlice 104 (.int .i64 (n : Int)) (.int .i64 (n : Int))).run Try.prog W = .ok (.slice (some ⟨W.heap.size, 0, none⟩) n n) (W.alloc (.cells (madeCells #[.slice none 0 0] n) 88)) := by
 obtain ⟨i, h1, h2, h3, h4⟩ := info_parts (P := Try.prog) (e := 88) (z := .slice none 0 0) (size := 1) (bytes := 24) (by kernel_rfl); have h := run_makeSlice (P := Try.prog) W 104 88 i (.slice none 0 0) Try.underlying104 h1 h2 .i64 .i64 n n (by omega) (by omega) (by rw [h3]; omega) (by rw [h4]; omega) (by omega); rw [h3] at h; rw [show (Value.slice none 0 0).cells = #[Value.slice none 0 0] from rfl] at h
 simpa using h
def xY (b : Nat) (ds : List Deferred) (W : World) : Prop := (∀ d ∈ ds, ∃ D, d = { target := .collected D, args := #[] } ∧ b ≤ D ∧ W.heap[D]? = some (.deferred (some []))) ∧ ds.Nodup
theorem xS {C : World → Prop} {b : Nat} (hC : ∀ (W : World) (D : Nat) (o : Obj), C W → b ≤ D → W.heap[D]? = some (.deferred (some [])) → C (W.putObj D o)) {F : Fence} {n : Nat} {P : Program} {fn : Func} {tmps : Array Value} {R : Ending → World → Prop}
 (hend : ∀ W, C W → LeavesIn F n P fn tmps R [] .returning W) : ∀ (ds : List Deferred) (W : World), xY b ds W → C W → LeavesInM F n P fn tmps R ds .returning W
 | [], W, _, h => hend W h
 | d :: ds, W, hm, h => by
  obtain ⟨D, rfl, hb, hD⟩ := hm.1 d (List.mem_cons_self); refine ⟨by simp, .inl ⟨_, _, rfl, run_takeDeferred hD, ?_⟩⟩; refine xS hC hend ds _ ⟨fun d' hd' => ?_, (List.nodup_cons.1 hm.2).2⟩ (hC _ _ _ h hb hD); obtain ⟨D', rfl, hb', hD'⟩ := hm.1 d' (List.mem_cons_of_mem _ hd'); refine ⟨D', rfl, hb', ?_⟩
  have hne : D ≠ D' := by
   rintro rfl; exact (List.nodup_cons.1 hm.2).1 hd'
  simp only [World.putObj]; rw [Array.getElem?_setIfInBounds_ne hne]; exact hD'
theorem xY.below {b : Nat} {ds : List Deferred} {W W1 : World} (h : xY b ds W) (hb : Below W.heap.size W W1) : xY b ds W1 :=
 ⟨fun d hd => by
  obtain ⟨D, e, h1, h2⟩ := h.1 d hd
  exact ⟨D, e, h1, (hb.block D (bW h2)).trans h2⟩, h.2⟩
structure pG (w1 : World) (i : Nat) (S : Int → Bool) (N : Nat) (W : World) : Prop where
 sq : W.heap[w1.heap.size]? = some (.cells #[.int .i64 (i : Int)] 3 (0, 0))
 mp : W.heap[w1.heap.size + 1 + 1]? = some (.cells #[.map (some (w1.heap.size + 1))] 128 (0, 0))
 set : pz W (w1.heap.size + 1) S N
 below : Below w1.heap.size w1 W
theorem pG.kept {w1 : World} {i : Nat} {S : Int → Bool} {N : Nat} {W W' : World} (h : pG w1 i S N W) {row : Option Nat} (hg : W.grownBy W' row) (hr : ∀ r, row = some r → w1.heap.size + 1 + 1 < r) : pG w1 i S N W' := by
 refine ⟨(hg.block _ (bW h.sq) ?_).trans h.sq, (hg.block _ (bW h.mp) ?_).trans h.mp, h.set.kept hg ?_, h.below.grown hg h.below.size (fun j hj => ?_)⟩
 ·intro e; have := hr _ e.symm; omega
 ·intro e; have := hr _ e.symm; omega
 ·intro e; have := hr _ e; omega
 ·have := hr j hj; omega
theorem pG.step {w1 : World} {i : Nat} {S : Int → Bool} {N : Nat} {W W' : World} (h : pG w1 i S N W) (hb : Below W.heap.size W W') : pG w1 i S N W' := h.kept (jr hb none) (by simp)
structure lX (w1 : World) (i : Nat) (S : Int → Bool) (N bo B0 Bx By : Nat) (m es : List Int) (W wr : World) : Prop where
 rnd : pG w1 i S N wr
 arr : oL wr Bx m
 eac : uV wr By es
 keeps : KeepsFrom B0 W wr
 kp : KpB w1.heap.size bo W wr
theorem lX.step {w1 : World} {i : Nat} {S : Int → Bool} {N bo B0 Bx By : Nat} {m es : List Int} {W wr wn : World} (h : lX w1 i S N bo B0 Bx By m es W wr) (hb : Below wr.heap.size wr wn) : lX w1 i S N bo B0 Bx By m es W wn := by
 have hs := h.rnd.below.size; exact ⟨h.rnd.step hb, h.arr.below hb, h.eac.below hb, h.keeps.trans ((kD hb).from _), h.kp.trans ⟨hb.mono hs, fun o ho _ => (hb.block _ (bW ho)).trans ho⟩⟩
theorem lX.congr {w1 : World} {i : Nat} {S S' : Int → Bool} {N bo B0 Bx By : Nat} {m es : List Int} {W wr : World} (h : lX w1 i S N bo B0 Bx By m es W wr) (he : ∀ c, S c = S' c) : lX w1 i S' N bo B0 Bx By m es W wr :=
 { h with rnd := { h.rnd with set := h.rnd.set.congr he } }
theorem lX.more {w1 : World} {i : Nat} {S : Int → Bool} {N N' bo B0 Bx By : Nat} {m es : List Int} {W wr : World} (h : lX w1 i S N bo B0 Bx By m es W wr) (hn : N ≤ N') : lX w1 i S N' bo B0 Bx By m es W wr :=
 { h with rnd := { h.rnd with set := h.rnd.set.more hn } }
theorem lX.turn {w1 : World} {i : Nat} {S S' : Int → Bool} {N N' bo B0 Bx By : Nat} {m es : List Int} {W wr wn : World} (h : lX w1 i S N bo B0 Bx By m es W wr) (hg : wr.grownBy wn (some (w1.heap.size + 1))) (hm : pz wn (w1.heap.size + 1) S' N')
 (hB : w1.heap.size + 1 < B0) (hbo : w1.heap.size + 1 < bo) (hx : w1.heap.size + 1 < Bx) (hy : w1.heap.size + 1 < By) : lX w1 i S' N' bo B0 Bx By m es W wn := by
 have hb : Below w1.heap.size w1 wn := h.rnd.below.grown hg h.rnd.below.size (fun j hj => by cases hj; omega)
 refine ⟨⟨(hg.block _ (bW h.rnd.sq) (by simp)).trans h.rnd.sq, (hg.block _ (bW h.rnd.mp) (by simp)).trans h.rnd.mp, hm, hb⟩, ⟨h.arr.1, (hg.block _ (bW h.arr.2) (by simp; omega)).trans h.arr.2⟩, ⟨h.eac.1, (hg.block _ (bW h.eac.2) (by simp; omega)).trans h.eac.2⟩,
  h.keeps.trans (KeepsFrom.of_grownBy hg (fun j hj => by cases hj; exact hB)), h.kp.trans ⟨?_, fun o ho _ => (hg.block _ (bW ho) (by simp; omega)).trans ho⟩⟩
 have := (Below.refl w1.heap.size wr).grown hg h.rnd.below.size (fun j hj => by cases hj; omega); exact this
theorem DC {F : Fence} {n : Nat} {P : Program} {c : Code} {Q : Exit → Act → World → Prop} {a : Act} {W : World} (R : World → Prop) (h : R W) (k : ∀ W', R W' → Code.wpIn F n P c Q a W') : Code.wpIn F n P c Q a W := k W h
structure rR (w : World) (gs gl : Int) (A0 : Option Addr) (c0 : Nat) (l0 : List S66) (a1 a2 a3 : Int) (A4 : Option Addr) (c4 : Nat) (l4 : List (List S27)) (i : Nat) (ds : List Deferred) (W : World) : Prop where
 given : W.heap[w.heap.size]? = some (.cells #[.int .i64 gs, .int .u8 gl] 100 (0, 0))
 line : W.heap[w.heap.size + 1]? = some (.cells #[.slice A0 l0.length c0, .int .i64 a1, .int .i64 a2, .int .i64 a3, .slice A4 l4.length c4] 25 (0, 0))
 rows : ∃ (cs : Array Value) (fo : Nat → Nat), cs.size = l4.length ∧ W.heap[w.heap.size + 1 + 1]? = some (.cells cs 88 (0, 0)) ∧ (∀ u ∈ cs, u.oneCell' = true) ∧
  ∀ j, j < i → ∃ v, cs[j]? = some v ∧ Kd.R (Kd.int .u8) 5 W w.heap.size (fun k => fo k = j) v (dz gs gl a1 a2 a3 l0 l4 j)
 marks : xY w.heap.size ds W
 below : Below w.heap.size w W
theorem rR.step {w : World} {gs gl : Int} {A0 : Option Addr} {c0 : Nat} {l0 : List S66} {a1 a2 a3 : Int} {A4 : Option Addr} {c4 : Nat} {l4 : List (List S27)} {i : Nat} {ds : List Deferred} {W W1 : World}
 (h : rR w gs gl A0 c0 l0 a1 a2 a3 A4 c4 l4 i ds W) (hb : Below W.heap.size W W1) : rR w gs gl A0 c0 l0 a1 a2 a3 A4 c4 l4 i ds W1 := by
 refine ⟨(hb.block _ (bW h.given)).trans h.given, (hb.block _ (bW h.line)).trans h.line, ?_, h.marks.below hb, ib h.below h.below.size hb⟩; obtain ⟨cs, fo, h1, h2, h3, h4⟩ := h.rows; refine ⟨cs, fo, h1, (hb.block _ (bW h2)).trans h2, h3, fun j hj => ?_⟩; obtain ⟨v, e, hr⟩ := h4 j hj; exact ⟨v, e, Kd.eX hr hb⟩
def Lh (Q : Exit → Act → World → Prop) : Exit → Act → World → Prop
 | .panic _, _, _ => False
 | e, a, w => Q e a w
theorem N9 {Q : Exit → Act → World → Prop} {a : Act} {w : World} (h : Q .normal a w) : Lh Q .normal a w := h
theorem KP {P : Program} {c : Code} {Q : Exit → Act → World → Prop} {a : Act} {w : World} (h : c.wp P (Lh Q) a w) : c.wp P Q a w :=
 wp_mono h fun e a w h => by
  cases e with
  | panic ch => exact h.elim
  | normal => exact h
  | exit id => exact h
  | goto l => exact h
  | ret => exact h
  | outgrown => exact h
theorem rR.next {w : World} {gs gl : Int} {A0 : Option Addr} {c0 : Nat} {l0 : List S66} {a1 a2 a3 : Int} {A4 : Option Addr} {c4 : Nat} {l4 : List (List S27)} {i : Nat} {ds : List Deferred} {w1 Wn : World} {v : Value} {D : Nat}
 (h : rR w gs gl A0 c0 l0 a1 a2 a3 A4 c4 l4 i ds w1) (hi : i < l4.length) (hbelow : Below w.heap.size w Wn)
 (hbut : ∀ k, k < w1.heap.size → k ≠ w.heap.size + 1 + 1 → Wn.heap[k]? = w1.heap[k]?)
 (hout : ∀ cs, w1.heap[w.heap.size + 1 + 1]? = some (.cells cs 88 (0, 0)) → Wn.heap[w.heap.size + 1 + 1]? = some (.cells (cs.setIfInBounds i v) 88 (0, 0)))
 (hone : v.oneCell' = true) (hw1 : w.heap.size ≤ w1.heap.size) (hv : Kd.R (Kd.int .u8) 5 Wn w1.heap.size (fun _ => True) v (dz gs gl a1 a2 a3 l0 l4 i)) (hD : Wn.heap[D]? = some (.deferred (some []))) (hDw : w1.heap.size ≤ D) :
 rR w gs gl A0 c0 l0 a1 a2 a3 A4 c4 l4 (i + 1) ({ target := .collected D, args := #[] } :: ds) Wn := by
 refine ⟨(hbut _ (bW h.given) (by omega)).trans h.given, (hbut _ (bW h.line) (by omega)).trans h.line, ?_, ⟨fun d hd => ?_, ?_⟩, hbelow⟩
 ·obtain ⟨cs, fo, h1, h2, h3, h4⟩ := h.rows; refine ⟨cs.setIfInBounds i v, fun k => if w1.heap.size ≤ k then i else fo k, by simpa using h1, hout cs h2, fun u hu => ?_, fun j hj => ?_⟩
  ·rw [Array.mem_iff_getElem] at hu; obtain ⟨k, hk, rfl⟩ := hu; rw [Array.getElem_setIfInBounds]
   ·split
    ·exact hone
    ·exact h3 _ (Array.getElem_mem (by simpa using hk))
   ·simpa using hk
  ·by_cases hji : j = i
   ·subst hji; refine ⟨v, by simp [h1, hi], ?_⟩; exact Kd.fI (Kd.cO (Kd.ko hv) (fun k hk => by simp [hk.2.1])) hw1
   ·obtain ⟨u, e, hr⟩ := h4 j (by omega); refine ⟨u, by rw [Array.getElem?_setIfInBounds_ne (fun e => hji e.symm)]; exact e, ?_⟩; have hr1 := Kd.ko (Kd.dY hr h2 (fun q hq => by simp [Kd.int, Kd.scalar] at hq; subst hq; decide))
    exact Kd.cO (Kd.uR hr1 (fun k hk => hbut k hk.2.2.1 hk.1.2)) (fun k hk => by
     have h5 := hk.2.2.1; show (if w1.heap.size ≤ k then i else fo k) = j; rw [if_neg (by omega)]
     exact hk.1.1)
 ·rcases List.mem_cons.1 hd with rfl | hd
  ·exact ⟨D, rfl, Nat.le_trans hw1 hDw, hD⟩
  ·obtain ⟨D', e, h1, h2⟩ := h.marks.1 d hd; refine ⟨D', e, h1, ?_⟩; rw [hbut D' (bW h2) ?_]
   ·exact h2
   ·rintro rfl; obtain ⟨cs, fo, _, h3, _⟩ := h.rows; rw [h3] at h2; cases h2
 ·refine List.nodup_cons.2 ⟨fun hd => ?_, h.marks.2⟩; obtain ⟨D', e, h1, h2⟩ := h.marks.1 _ hd; injection e with e _; injection e with e; subst e; have := bW h2; omega
theorem rR.all {w : World} {gs gl : Int} {A0 : Option Addr} {c0 : Nat} {l0 : List S66} {a1 a2 a3 : Int} {A4 : Option Addr} {c4 : Nat} {l4 : List (List S27)} {ds : List Deferred} {W : World}
 (h : rR w gs gl A0 c0 l0 a1 a2 a3 A4 c4 l4 l4.length ds W) (h8 : l4.length ≤ 8) : Kd.S (Kd.slice 5 (Kd.int .u8)) 88 W w.heap.size (fun _ => True) (.slice (some ⟨w.heap.size + 1 + 1, 0, none⟩) l4.length l4.length) (fA gs gl a1 a2 a3 l0 l4) := by
 obtain ⟨cs, fo, h1, h2, h3, h4⟩ := h.rows; have hlen : (fA gs gl a1 a2 a3 l0 l4).length = l4.length := by simp [fA]
 obtain ⟨f, hr⟩ := Kd.Q5 (d := Kd.slice 5 (Kd.int .u8)) (w := W) (base := w.heap.size) (ok := fun k => True ∧ some k ≠ (Value.slice (some ⟨w.heap.size + 1 + 1, 0, none⟩) l4.length l4.length).ownBlock) (xs := fA gs gl a1 a2 a3 l0 l4) (inner := cs.toList)
  (fun j k => fo k = j ∧ k ≠ w.heap.size + 1 + 1) (fun i j k e1 e2 => e1.1.symm.trans e2.1) (fun j k e => ⟨trivial, by simp [Value.ownBlock]; exact e.2⟩) (by rw [hlen]; simp [Kd.slice, h1]) (fun j x hx => by
    have hj : j < l4.length := by
     rw [← hlen]; exact (List.getElem?_eq_some_iff.1 hx).1
    obtain ⟨v, e, hv⟩ := h4 j hj
    have hx' : x = dz gs gl a1 a2 a3 l0 l4 j := by
     simp [fA, hj] at hx; exact hx.symm
    subst hx'; refine ⟨v, ?_, Kd.dY hv h2 (fun q hq => by simp [Kd.int, Kd.scalar] at hq; subst hq; decide)⟩; show (cs.toList.drop (j * 1)).take 1 = [v]; (have e' : cs.toList[j]? = some v := by simpa using e); rw [Nat.mul_one]; obtain ⟨hj2, hj3⟩ := List.getElem?_eq_some_iff.1 e'; rw [List.drop_eq_getElem_cons hj2, hj3]
    rfl)
 refine ⟨f, fun _ _ => trivial, cs.toList, ?_, hr⟩; rw [List.length_zipIdx, hlen]; refine ⟨by simp [Kd.tag, Kd.slice, h1], .inr ⟨w.heap.size + 1 + 1, l4.length, cs, rfl, by omega, h2, Nat.le_refl _, by unfold maxLen; omega, by simp [Kd.tag, Kd.slice, h1], ?_⟩⟩; refine List.take_of_length_le ?_; simp [Kd.tag, Kd.slice, h1]
theorem QL {α : Type} {d : Kd α} {e : Nat} {W : World} {base : Nat} {ok : Nat → Prop} {v : Value} {xs : List α} (h : Kd.S d e W base ok v xs) {l : Nat} {o o' : Obj} (hl : W.heap[l]? = some o) (ho : o.isCells = false) : Kd.S d e (W.putObj l o') base ok v xs := by
 obtain ⟨f, h⟩ := h; exact ⟨f, I7 h hl ho⟩
end Go.Proofs.Ytihedeofkhapiaa.Pr
end
section
namespace Go.Proofs.Ytihedeofkhapiaa.Pr
open Go.RowKit Go.Proofs.YtihedeofkhapiaaW.PrintWords Go.Proofs.YtihedeofkhapiaaW.PrintLast Go.Proofs.YtihedeofkhapiaaW.PrintMore
theorem ZO {gs gl a1 a2 a3 : Int} {l0 : List S66} {l4 : List (List S27)} {i x : Nat} {k : Nat} (hh : xh gs gl a1 a2 a3 l0 l4 i x k = true) : ∀ K, k < K → mE gs gl a1 a2 a3 l0 l4 i x K (ai (ah l0 (x : Int)).f1 (k : Int)).f0 = true := by
 intro K
 induction K with
 | zero => intro h; omega
 | succ K ih =>
  intro h; rw [mE]; by_cases he : k = K
  ·subst he; rw [hh]; simp
  ·rw [ih (by omega)]; simp
def Sm5 (q : List S27) : Prop := ∀ x ∈ q, ∃ a b : Nat, a < 32 ∧ b < 32 ∧ x = ⟨(a : Int), (b : Int)⟩
theorem Et.sm {v : Nat} {q : List S27} (h : ∀ x ∈ q, Et v x) : Sm5 q := fun x hx => by
 obtain ⟨a, ha, rfl⟩ := h x hx; exact ⟨a, v &&& a, ha, Nat.lt_of_le_of_lt Nat.and_le_right ha, rfl⟩
theorem KG {q : List S27} (h : Sm5 q) : ∃ g v : Nat, g < 32 ∧ v < 32 ∧ xA q = ((g : Int), (v : Int)) := by
 have key : ∀ (r : List S27) (a b : Nat), a < 32 → b < 32 → Sm5 r → ∃ g v : Nat, g < 32 ∧ v < 32 ∧ r.foldl seenStep ((a : Int), (b : Int)) = ((g : Int), (v : Int)) := by
  intro r
  induction r with
  | nil => exact fun a b ha hb _ => ⟨a, b, ha, hb, rfl⟩
  | cons x r ih =>
   intro a b ha hb hx; obtain ⟨c, d, hc, hd, rfl⟩ := hx x List.mem_cons_self
   have e : seenStep ((a : Int), (b : Int)) ⟨(c : Int), (d : Int)⟩ = (((a ||| c : Nat) : Int), ((b ||| d : Nat) : Int)) := by
    simp only [seenStep]; rw [aaz ⟨a, ha⟩ ⟨c, hc⟩, aaz ⟨b, hb⟩ ⟨d, hd⟩]
   rw [List.foldl_cons, e]; exact ih _ _ (Xd ⟨a, ha⟩ ⟨c, hc⟩) (Xd ⟨b, hb⟩ ⟨d, hd⟩) (fun y hy => hx y (List.mem_cons_of_mem _ hy))
 exact key q 0 0 (by omega) (by omega) h
theorem NT (c : Prop) [Decidable c] (m n : Nat) (hm : m ≤ 5) (hn : n ≤ 5) : 0 ≤ (if c then wrap64 ((m : Int) + (n : Int)) else jJ) ∧ (if c then wrap64 ((m : Int) + (n : Int)) else jJ) ≤ 1048576 := by
 split
 ·rw [eT (by omega) (by omega)]; omega
 ·exact ⟨by decide, by decide⟩
theorem Kz (W S : Int) {q : List S27} (hq : Sm5 q) {s : S86} (h0 : 0 ≤ s.f1) (h1 : s.f1 ≤ 31) : 0 ≤ cellP W S (fG q) s ∧ cellP W S (fG q) s ≤ 1048576 := by
 obtain ⟨g, v, hg, hv, hA⟩ := KG hq; obtain ⟨z, hz⟩ := Int.eq_ofNat_of_zero_le h0; (have hz32 : z < 32 := by omega); have b1 : z &&& g < 32 := Nat.lt_of_le_of_lt Nat.and_le_left hz32; have b3 : (z &&& g) &&& (31 ^^^ v) < 32 := Nat.lt_of_le_of_lt Nat.and_le_left b1; have b4 : v &&& (31 ^^^ z) < 32 := Nat.lt_of_le_of_lt Nat.and_le_left hv; have p1 : pop ((z &&& g) &&& (31 ^^^ v)) ≤ 5 := QW ⟨_, b3⟩; have p2 : pop (v &&& (31 ^^^ z)) ≤ 5 := QW ⟨_, b4⟩
 have e1 : nM (gp (Go.bits .and .i64 s.f1 (g : Int)) (v : Int)) = (pop ((z &&& g) &&& (31 ^^^ v)) : Int) := by
  rw [hz, P8 ⟨z, hz32⟩ ⟨g, hg⟩, WR ⟨z &&& g, b1⟩ ⟨v, hv⟩, RP ⟨_, b3⟩]
 have e2 : nM (gp (v : Int) s.f1) = (pop (v &&& (31 ^^^ z)) : Int) := by
  rw [hz, WR ⟨v, hv⟩ ⟨z, hz32⟩, RP ⟨_, b4⟩]
 have hc : cellP W S (fG q) s = if (fG q).2.2 = true ∧ nM (gp (Go.bits .and .i64 s.f1 (g : Int)) (v : Int)) ≤ W ∧ nM (gp (v : Int) s.f1) ≤ S then wrap64 (nM (gp (Go.bits .and .i64 s.f1 (g : Int)) (v : Int)) + nM (gp (v : Int) s.f1)) else jJ := by
  (have h1 : (fG q).1 = (g : Int) := by rw [fG, hA]); (have h2 : (fG q).2.1 = (v : Int) := by rw [fG, hA]); rw [cellP, h1, h2]
 rw [hc, e1, e2]; exact NT _ _ _ p1 p2
def ny (W S : Int) (q : Int × Int × Bool) (sh : List S86) : Nat → Int
 | 0 => jJ
 | k + 1 => mn (ny W S q sh k) (cellP W S q (ai sh (k : Int)))
def xU (W S : Int) (sh : List S86) (q : List S27) : Int := ny W S (fG q) sh sh.length
def pE (sh : List S86) : Prop := Asc sh ∧ sh.length ≤ 8
def rT (sq : List (List S27)) : Prop := sq.length ≤ 8 ∧ ∀ q ∈ sq, Sm5 q
theorem Bf (i : Nat) (s : S86) : tF (-1) 0 (i : Int) s = true := by rw [tF, if_neg (by omega)]
theorem zm (W S : Int) {sh : List S86} (hsh : pE sh) {q : List S27} (hq : Sm5 q) {k : Nat} (hk : k < sh.length) : 0 ≤ cellP W S (fG q) (ai sh (k : Int)) ∧ cellP W S (fG q) (ai sh (k : Int)) ≤ 1048576 := by
 have hmem : ai sh (k : Int) ∈ sh := by
  rw [Kg, List.getD_eq_getElem?_getD, List.getElem?_eq_getElem hk]; exact List.getElem_mem _
 have := hsh.1.1 _ hmem; exact Kz W S hq (by omega) (by omega)
theorem AU (W S : Int) {sh : List S86} (hsh : pE sh) {q : List S27} (hq : Sm5 q) : ∀ K, K ≤ sh.length → 0 ≤ ny W S (fG q) sh K ∧ ny W S (fG q) sh K ≤ 1048576
 | 0, _ => ⟨by simp [ny, jJ], by simp [ny, jJ]⟩
 | K + 1, h => by
  have h1 := AU W S hsh hq K (by omega); have h2 := zm W S hsh hq (k := K) (by omega); rw [ny]; unfold mn; split <;> omega
theorem Ag (W S : Int) {sh : List S86} (hsh : pE sh) {q : List S27} (hq : Sm5 q) : 0 ≤ xU W S sh q ∧ xU W S sh q ≤ 1048576 := AU W S hsh hq _ (Nat.le_refl _)
theorem Bd (W S : Int) (q : Int × Int × Bool) (sh : List S86) : ∀ K k, k < K → ny W S q sh K ≤ cellP W S q (ai sh (k : Int))
 | 0, _, h => by omega
 | K + 1, k, h => by
  rw [ny]; unfold mn; by_cases he : k = K
  ·subst he; split <;> omega
  ·have := Bd W S q sh K k (by omega); split <;> omega
theorem Sd (W S : Int) (q : Int × Int × Bool) (sh : List S86) : ∀ K, ny W S q sh K = 1048576 ∨ ∃ k, k < K ∧ ny W S q sh K = cellP W S q (ai sh (k : Int))
 | 0 => .inl rfl
 | K + 1 => by
  rw [ny]; unfold mn; split
  ·exact .inr ⟨K, by omega, rfl⟩
  ·rcases Sd W S q sh K with h | ⟨k, hk, h⟩
   ·exact .inl h
   ·exact .inr ⟨k, by omega, h⟩
theorem vH (W S : Int) (sq : List (List S27)) (hn : sq.length ≤ 8) (sh : List S86) (hsh : sh.length ≤ 8) (i : Nat) (hi : i < sq.length) : ∀ K, K ≤ sh.length → eP (-1) 0 (dJ W S sq sh sq.length) i sh K = ny W S (fG (cu sq (i : Int))) sh K := by
 intro K
 induction K with
 | zero => intro _; rfl
 | succ K ih =>
  intro h; rw [eP, if_pos (Bf _ _), ih (by omega), ny, lN W S sq sh hsh sq.length hn i K hi (by omega)]
theorem sP (sq : List (List S27)) (i : Nat) (hi : i < sq.length) : cu sq (i : Int) = sq[i] := by
 rw [YM, List.getD_eq_getElem?_getD, List.getElem?_eq_getElem hi]; rfl
theorem uQ {f g : Nat → Int} : ∀ n, (∀ i, i < n → f i = g i) → gN f n = gN g n
 | 0, _ => rfl
 | n + 1, h => by simp only [gN]; rw [uQ n (fun i hi => h i (by omega)), h n (by omega)]
theorem zZ (W S : Int) {sq : List (List S27)} (hq : rT sq) {sh : List S86} (hsh : pE sh) :
 (eQ (-1) 0 (dJ W S sq sh sq.length) sh sq.length).2 = (sq.map (xU W S sh)).sum ∧ ∀ i (h : i < sq.length), (eQ (-1) 0 (dJ W S sq sh sq.length) sh sq.length).1.getD i 0 = xU W S sh sq[i] := by
 have hnn : ∀ i k, i < sq.length → k < sh.length → 0 ≤ (dJ W S sq sh sq.length).getD (i * 8 + k) 0 := fun i k hi hk => by
  rw [lN W S sq sh hsh.2 sq.length hq.1 i k hi hk, sP sq i hi]; exact (zm W S hsh (hq.2 _ (List.getElem_mem _)) hk).1
 obtain ⟨e1, e2⟩ := MC (dJ W S sq sh sq.length) sh sq.length hq.1 hnn
 have hE : ∀ i (h : i < sq.length), eP (-1) 0 (dJ W S sq sh sq.length) i sh sh.length = xU W S sh sq[i] := fun i h => by
  rw [vH W S sq hq.1 sh hsh.2 i h _ (Nat.le_refl _), sP sq i h]; rfl
 refine ⟨?_, fun i h => by rw [e2 i h, hE i h]⟩; rw [e1, ← OG, List.length_map]; refine uQ _ (fun i h => ?_); rw [hE i h, List.getD_eq_getElem?_getD, List.getElem?_map, List.getElem?_eq_getElem h]; rfl
def Ei (W S : Int) (sq : List (List S27)) (sh : List S86) : Int := (sq.map (xU W S sh)).sum
theorem yZ (W S : Int) (hs : List S66) {sq : List (List S27)} (hq : rT sq) (x : Nat) (hsh : pE (ah hs (x : Int)).f1) : kK hs W S sq x = Ei W S sq (ah hs (x : Int)).f1 := (zZ W S hq hsh).1
theorem CS (f : List S27 → Int) : ∀ l : List (List S27), (∀ q ∈ l, 0 ≤ f q ∧ f q ≤ 1048576) → 0 ≤ (l.map f).sum ∧ (l.map f).sum ≤ 1048576 * l.length
 | [], _ => by simp
 | q :: r, h => by
  have h1 := CS f r (fun y hy => h y (List.mem_cons_of_mem _ hy)); have h2 := h q List.mem_cons_self; rw [List.map_cons, List.sum_cons, List.length_cons]; push_cast; omega
theorem KT (W S : Int) {sq : List (List S27)} (hq : rT sq) {sh : List S86} (hsh : pE sh) : 0 ≤ Ei W S sq sh ∧ Ei W S sq sh ≤ 8388608 := by
 have h := CS (xU W S sh) sq (fun q hm => Ag W S hsh (hq.2 q hm)); have := hq.1; unfold Ei; omega
def abU (W S t : Int) (sq : List (List S27)) (q : List S27) (sh : List S86) (s : S86) : Prop := cellP W S (fG q) s < 1048576 ∧ Ei W S sq sh - xU W S sh q + cellP W S (fG q) s ≤ t
theorem DU (W S t : Int) (hs : List S66) {sq : List (List S27)} (hq : rT sq) (x : Nat) (hsh : pE (ah hs (x : Int)).f1) (i : Nat) (hi : i < sq.length) (k : Nat) (hk : k < (ah hs (x : Int)).f1.length) :
 xh (-1) 0 W S t hs sq i x k = true ↔ abU W S t sq sq[i] (ah hs (x : Int)).f1 (ai (ah hs (x : Int)).f1 (k : Int)) := by
 obtain ⟨e1, e2⟩ := zZ W S hq hsh; have h1 := KT W S hq hsh; have h2 := Ag W S hsh (hq.2 _ (List.getElem_mem hi)); have h3 := zm W S hsh (hq.2 _ (List.getElem_mem hi)) hk; have e3 := lN W S sq (ah hs (x : Int)).f1 hsh.2 sq.length hq.1 i k hi hk; rw [sP sq i hi] at e3; unfold Ei at h1; have hu : xh (-1) 0 W S t hs sq i x k = (tF (-1) 0 (i : Int) (ai (ah hs (x : Int)).f1 (k : Int)) && decide ((dJ W S sq (ah hs (x : Int)).f1 sq.length).getD (i * 8 + k) 0 < 1048576) && decide (wrap64 (wrap64 ((eQ (-1) 0 (dJ W S sq (ah hs (x : Int)).f1 sq.length) (ah hs (x : Int)).f1 sq.length).2 - (eQ (-1) 0 (dJ W S sq (ah hs (x : Int)).f1 sq.length) (ah hs (x : Int)).f1 sq.length).1.getD i 0) + (dJ W S sq (ah hs (x : Int)).f1 sq.length).getD (i * 8 + k) 0) ≤ t)) := rfl; rw [hu, Bf, e1, e2 i hi, e3, eT (x := _ - _) (by omega) (by omega), eT (by omega) (by omega)]; simp only [Bool.true_and, Bool.and_eq_true, decide_eq_true_eq]; exact Iff.rfl
theorem xH {gs gl a1 a2 a3 : Int} {l0 : List S66} {l4 : List (List S27)} {i x : Nat} (c : Int) : ∀ K, mE gs gl a1 a2 a3 l0 l4 i x K c = true ↔ ∃ k, k < K ∧ xh gs gl a1 a2 a3 l0 l4 i x k = true ∧ c = (ai (ah l0 (x : Int)).f1 (k : Int)).f0
 | 0 => by simp [mE]
 | K + 1 => by
  rw [mE, Bool.or_eq_true, xH c K, Bool.and_eq_true, beq_iff_eq]; constructor
  ·rintro (⟨k, hk, h⟩ | h)
   ·exact ⟨k, by omega, h⟩
   ·exact ⟨K, by omega, h⟩
  ·rintro ⟨k, hk, h⟩; by_cases he : k = K
   ·subst he; exact .inr h
   ·exact .inl ⟨k, by omega, h⟩
def fitsAt (W S t : Int) (hs : List S66) (sq : List (List S27)) (q : List S27) (c : Int) : Prop := ∃ h ∈ hs, ∃ s ∈ h.f1, s.f0 = c ∧ abU W S t sq q h.f1 s
theorem ll (hs : List S66) (x : Nat) (hx : x < hs.length) : ah hs (x : Int) = hs[x] := by
 rw [Nq, List.getD_eq_getElem?_getD, List.getElem?_eq_getElem hx]; rfl
theorem jg (sh : List S86) (k : Nat) (hk : k < sh.length) : ai sh (k : Int) = sh[k] := by
 rw [Kg, List.getD_eq_getElem?_getD, List.getElem?_eq_getElem hk]; rfl
theorem uz (W S t : Int) {hs : List S66} (hh : ∀ h ∈ hs, pE h.f1) {sq : List (List S27)} (hq : rT sq) (i : Nat) (hi : i < sq.length) (c : Int) :
 gT (-1) 0 W S t hs sq i (List.finRange hs.length) c = true ↔ fitsAt W S t hs sq sq[i] c := by
 rw [gT, List.any_eq_true]; constructor
 ·rintro ⟨x, _, hx⟩; obtain ⟨k, hk, h1, h2⟩ := (xH c _).1 hx; have e := ll hs x.1 x.2; have hf := hh _ (List.getElem_mem x.2); rw [← e] at hf; have h3 := (DU W S t hs hq x.1 hf i hi k hk).1 h1; refine ⟨hs[x.1]'x.2, List.getElem_mem _, ?_⟩; rw [← e]; rw [jg _ k hk] at h2 h3; exact ⟨_, List.getElem_mem hk, h2.symm, h3⟩
 ·rintro ⟨h, hm, s, hs', h1, h2⟩; obtain ⟨x, hx, rfl⟩ := List.getElem_of_mem hm; obtain ⟨k, hk, rfl⟩ := List.getElem_of_mem hs'; refine ⟨⟨x, hx⟩, List.mem_finRange _, ?_⟩; have e := ll hs x hx; have hf := hh _ (List.getElem_mem hx); rw [← e] at hf; (have hk' : k < (ah hs (x : Int)).f1.length := by rw [e]; exact hk); (have e' : ai (ah hs (x : Int)).f1 (k : Int) = (hs[x].f1)[k] := by rw [e, jg _ k hk]); refine (xH c _).2 ⟨k, hk', (DU W S t hs hq x hf i hi k hk').2 ?_, ?_⟩
  ·rw [e', e]; exact h2
  ·rw [e']; exact h1.symm
theorem RD (W S t : Int) {hs : List S66} (hh : ∀ h ∈ hs, pE h.f1) {sq : List (List S27)} (hq : rT sq) (i : Nat) (hi : i < sq.length) (c : Int) :
 c ∈ dz (-1) 0 W S t hs sq i ↔ fitsAt W S t hs sq sq[i] c := by
 rw [dz, List.mem_filter, uz W S t hh hq i hi c]; refine ⟨fun h => h.2, fun h => ⟨?_, h⟩⟩; obtain ⟨h', hm, s, hs', h1, _⟩ := h; have := (hh h' hm).1.1 s hs'; refine List.mem_map.2 ⟨c.toNat, List.mem_range.2 (by omega), ?_⟩; simp only [Int.ofNat_eq_natCast]; omega
theorem Zm {W S t W' S' t' : Int} {hs hs' : List S66} (hh : ∀ h ∈ hs, pE h.f1) (hh' : ∀ h ∈ hs', pE h.f1) {sq sq' : List (List S27)} (hq : rT sq) (hq' : rT sq') {i j : Nat} (hi : i < sq.length) (hj : j < sq'.length)
 (h : ∀ c, fitsAt W S t hs sq sq[i] c ↔ fitsAt W' S' t' hs' sq' sq'[j] c) : dz (-1) 0 W S t hs sq i = dz (-1) 0 W' S' t' hs' sq' j := by
 unfold dz; refine List.filter_congr (fun c _ => ?_); rw [Bool.eq_iff_iff, uz W S t hh hq i hi c, uz W' S' t' hh' hq' j hj c]; exact h c
theorem ZF (W S t : Int) {hs : List S66} (hh : ∀ h ∈ hs, pE h.f1) {sq : List (List S27)} (hq : rT sq) (n : Int) :
 n ∈ mJ hs W S t sq (List.finRange hs.length) ↔ ∃ x, ∃ h : x < hs.length, n = (x : Int) ∧ Ei W S sq hs[x].f1 ≤ t := by
 have key : ∀ x (h : x < hs.length), kK hs W S sq x = Ei W S sq hs[x].f1 := fun x h => by
  have e := ll hs x h; have hf := hh _ (List.getElem_mem h); rw [← e] at hf; rw [yZ W S hs hq x hf, e]
 rw [mJ, List.mem_map]; constructor
 ·rintro ⟨x, hx, rfl⟩; refine ⟨x.1, x.2, rfl, ?_⟩; rw [← key x.1 x.2]; exact of_decide_eq_true (List.mem_filter.1 hx).2
 ·rintro ⟨x, h, rfl, h1⟩; refine ⟨⟨x, h⟩, List.mem_filter.2 ⟨List.mem_finRange _, decide_eq_true ?_⟩, rfl⟩; simp only []; rw [key x h]; exact h1
theorem AL {α : Type} (t : α → Int) (T : Int) : ∀ (l : List α) (b : Int), l.foldl (fun b x => mn b (t x)) b ≤ T ↔ b ≤ T ∨ ∃ x ∈ l, t x ≤ T
 | [], b => by simp
 | x :: r, b => by
  rw [List.foldl_cons, AL t T r]; (have hm : mn b (t x) ≤ T ↔ b ≤ T ∨ t x ≤ T := by unfold mn; split <;> omega); rw [hm]; simp only [List.mem_cons, exists_eq_or_imp, or_assoc]
theorem Ww (W S : Int) {hs : List S66} (hh : ∀ h ∈ hs, pE h.f1) {sq : List (List S27)} (hq : rT sq) (T : Int) :
 pK hs W S sq (List.finRange hs.length) ≤ T ↔ 1048576 ≤ T ∨ ∃ h ∈ hs, Ei W S sq h.f1 ≤ T := by
 have key : ∀ x (h : x < hs.length), kK hs W S sq x = Ei W S sq hs[x].f1 := fun x h => by
  have e := ll hs x h; have hf := hh _ (List.getElem_mem h); rw [← e] at hf; rw [yZ W S hs hq x hf, e]
 rw [pK, AL]; refine or_congr Iff.rfl ⟨?_, ?_⟩
 ·rintro ⟨x, _, h⟩; exact ⟨_, List.getElem_mem x.2, by rw [← key x.1 x.2]; exact h⟩
 ·rintro ⟨h, hm, h1⟩; obtain ⟨x, hx, rfl⟩ := List.getElem_of_mem hm; exact ⟨⟨x, hx⟩, List.mem_finRange _, by rw [key x hx]; exact h1⟩
set_option maxRecDepth 100000
theorem wrapN {n : Nat} (h : n < 1024) : IntKind.i64.wrap (n : Int) = (n : Int) := wrap_small (by omega)
theorem bvN {n : Nat} (h : n < 1024) : (BitVec.ofInt IntKind.i64.bits (n : Int)).toNat = n := by
 show (BitVec.ofInt 64 (n : Int)).toNat = n; rw [BitVec.ofInt_natCast, BitVec.toNat_ofNat]; exact Nat.mod_eq_of_lt (by omega)
theorem yl {a b : Nat} (ha : a < 1024) : a &&& b < 1024 := Nat.lt_of_le_of_lt Nat.and_le_left ha
theorem DX {a b : Nat} (ha : a < 1024) (hb : b < 1024) : a ||| b < 1024 := Nat.or_lt_two_pow (n := 10) ha hb
theorem GZ {a b : Nat} (ha : a < 1024) (hb : b < 1024) : a ^^^ b < 1024 := Nat.xor_lt_two_pow (n := 10) ha hb
theorem uJ {a b : Nat} (ha : a < 1024) (hb : b < 1024) : Go.bits .and .i64 (a : Int) (b : Int) = ((a &&& b : Nat) : Int) := by
 show IntKind.i64.wrap (((BitVec.ofInt IntKind.i64.bits (a : Int)) &&& (BitVec.ofInt IntKind.i64.bits (b : Int))).toNat : Int) = _; rw [BitVec.toNat_and, bvN ha, bvN hb, wrapN (yl ha)]
theorem zA {a b : Nat} (ha : a < 1024) (hb : b < 1024) : Go.bits .or .i64 (a : Int) (b : Int) = ((a ||| b : Nat) : Int) := by
 show IntKind.i64.wrap (((BitVec.ofInt IntKind.i64.bits (a : Int)) ||| (BitVec.ofInt IntKind.i64.bits (b : Int))).toNat : Int) = _; rw [BitVec.toNat_or, bvN ha, bvN hb, wrapN (DX ha hb)]
theorem MJ {a b : Nat} (ha : a < 1024) (hb : b < 1024) : Go.bits .xor .i64 (a : Int) (b : Int) = ((a ^^^ b : Nat) : Int) := by
 show IntKind.i64.wrap (((BitVec.ofInt IntKind.i64.bits (a : Int)) ^^^ (BitVec.ofInt IntKind.i64.bits (b : Int))).toNat : Int) = _; rw [BitVec.toNat_xor, bvN ha, bvN hb, wrapN (GZ ha hb)]
theorem yI {a b : Nat} (ha : a < 1024) (hb : b < 1024) : ∃ c : Nat, c < 1024 ∧ gp (a : Int) (b : Int) = (c : Int) ∧ (c = 0 → a &&& b = a) := by
 have h : (((BitVec.ofInt IntKind.i64.bits (a : Int)) &&& ~~~(BitVec.ofInt IntKind.i64.bits (b : Int))).toNat) ≤ a := by
  rw [BitVec.toNat_and, bvN ha]; exact Nat.and_le_left
 refine ⟨_, Nat.lt_of_le_of_lt h ha, ?_, fun hz => ?_⟩
 ·show IntKind.i64.wrap (((BitVec.ofInt IntKind.i64.bits (a : Int)) &&& ~~~(BitVec.ofInt IntKind.i64.bits (b : Int))).toNat : Int) = _; rw [wrapN (Nat.lt_of_le_of_lt h ha)]
 ·have hz' : (BitVec.ofInt IntKind.i64.bits (a : Int)) &&& ~~~(BitVec.ofInt IntKind.i64.bits (b : Int)) = 0#_ := BitVec.eq_of_toNat_eq (by rw [hz]; rfl)
  have h2 : (BitVec.ofInt IntKind.i64.bits (a : Int)) &&& (BitVec.ofInt IntKind.i64.bits (b : Int)) = BitVec.ofInt IntKind.i64.bits (a : Int) := by
   ext i hi; have := congrArg (fun x : BitVec IntKind.i64.bits => x[i]) hz'; simp only [BitVec.getElem_and, BitVec.getElem_not, BitVec.getElem_zero] at this ⊢
   revert this
   cases (BitVec.ofInt IntKind.i64.bits (a : Int))[i] <;> cases (BitVec.ofInt IntKind.i64.bits (b : Int))[i] <;> simp
  have h3 := congrArg BitVec.toNat h2
  rwa [BitVec.toNat_and, bvN ha, bvN hb] at h3
def zx : Nat → Nat → Nat
 | 0, _ => 0
 | k + 1, n => n % 2 + zx k (n / 2)
theorem Ff : ∀ a : Fin 1024, nM (a.1 : Int) = (zx 10 a.1 : Int) := by decide +kernel
theorem Fz : ∀ k n, zx k n ≤ k
 | 0, _ => Nat.le_refl _
 | k + 1, n => by
  have := Fz k (n / 2); rw [zx]; omega
theorem yM {a : Nat} (ha : a < 1024) : ∃ m : Nat, m ≤ 10 ∧ nM (a : Int) = (m : Int) := ⟨zx 10 a, Fz _ _, Ff ⟨a, ha⟩⟩
def yJ (q : List S27) : Prop := ∀ x ∈ q, ∃ s n : Nat, s < 1024 ∧ n < 1024 ∧ x = ⟨(s : Int), (n : Int)⟩ ∧ n &&& s = n
def tq : Int → Int → List S27 → Bool
 | _, _, [] => true
 | g, p, x :: r => if Go.bits .and .i64 (Go.bits .xor .i64 p x.f1) (Go.bits .and .i64 g x.f0) ≠ 0 then false else tq (Go.bits .or .i64 g x.f0) (Go.bits .or .i64 p x.f1) r
theorem RI {P p n g s : Nat} (hpg : p &&& g = p) (hns : n &&& s = n) : ((p ^^^ n) &&& (g &&& s) = 0 ∧ P &&& (g ||| s) = p ||| n) ↔ (P &&& g = p ∧ P &&& s = n) := by
 (have t : ∀ {x y : Nat}, x = y ↔ ∀ i, x.testBit i = y.testBit i := fun {x y} => ⟨fun h i => by rw [h], fun h => Nat.eq_of_testBit_eq h⟩); rw [t] at hpg hns; rw [t, t, t, t]; simp only [Nat.testBit_and, Nat.testBit_or, Nat.testBit_xor, Nat.zero_testBit] at hpg hns ⊢; constructor
 ·rintro ⟨h1, h2⟩; refine ⟨fun i => ?_, fun i => ?_⟩
  all_goals
   have a := hpg i
   have b := hns i
   have c := h1 i
   have d := h2 i
   revert a b c d
   cases P.testBit i <;> cases p.testBit i <;> cases n.testBit i <;> cases g.testBit i <;> cases s.testBit i <;> simp
 ·rintro ⟨h1, h2⟩; refine ⟨fun i => ?_, fun i => ?_⟩
  all_goals
   have a := hpg i
   have b := hns i
   have c := h1 i
   have d := h2 i
   revert a b c d
   cases P.testBit i <;> cases p.testBit i <;> cases n.testBit i <;> cases g.testBit i <;> cases s.testBit i <;> simp
theorem ZC {p n g s : Nat} (hpg : p &&& g = p) (hns : n &&& s = n) : (p ||| n) &&& (g ||| s) = p ||| n := by
 (have t : ∀ {x y : Nat}, x = y ↔ ∀ i, x.testBit i = y.testBit i := fun {x y} => ⟨fun h i => by rw [h], fun h => Nat.eq_of_testBit_eq h⟩); rw [t] at hpg hns ⊢; simp only [Nat.testBit_and, Nat.testBit_or] at hpg hns ⊢; intro i; have a := hpg i; have b := hns i
 revert a b
 cases p.testBit i <;> cases n.testBit i <;> cases g.testBit i <;> cases s.testBit i <;> simp
theorem NW {q : List S27} (h : yJ q) : ∀ (g p : Nat), g < 1024 → p < 1024 → p &&& g = p → ∃ G P : Nat, G < 1024 ∧ P < 1024 ∧ q.foldl seenStep ((g : Int), (p : Int)) = ((G : Int), (P : Int)) ∧
 (tq (g : Int) (p : Int) q = true ↔ P &&& g = p ∧ ∀ x ∈ q, Go.bits .and .i64 (P : Int) x.f0 = x.f1) := by
 induction q with
 | nil => exact fun g p hg hp hs => ⟨g, p, hg, hp, rfl, by simp [tq, hs]⟩
 | cons x r ih =>
  intro g p hg hp hs; obtain ⟨s, n, hs1, hn1, rfl, hsn⟩ := h x List.mem_cons_self; obtain ⟨G, P, hG, hP, hf, hiff⟩ := ih (fun y hy => h y (List.mem_cons_of_mem _ hy)) (g ||| s) (p ||| n) (DX hg hs1) (DX hp hn1) (ZC hs hsn); refine ⟨G, P, hG, hP, ?_, ?_⟩
  ·rw [List.foldl_cons]
   have e : seenStep ((g : Int), (p : Int)) ⟨(s : Int), (n : Int)⟩ = (((g ||| s : Nat) : Int), ((p ||| n : Nat) : Int)) := by
    simp only [seenStep]; rw [zA hg hs1, zA hp hn1]
   rw [e, hf]
  ·have e1 : Go.bits .and .i64 (Go.bits .xor .i64 (p : Int) (n : Int)) (Go.bits .and .i64 (g : Int) (s : Int)) = (((p ^^^ n) &&& (g &&& s) : Nat) : Int) := by
    rw [MJ hp hn1, uJ hg hs1, uJ (GZ hp hn1) (yl hg)]
   have e2 : Go.bits .and .i64 (P : Int) (s : Int) = ((P &&& s : Nat) : Int) := uJ hP hs1; have hb := RI (P := P) hs hsn; simp only [tq]; rw [e1, zA hg hs1, zA hp hn1]; simp only [List.mem_cons, forall_eq_or_imp]; rw [e2]; by_cases hz : (p ^^^ n) &&& (g &&& s) = 0
   ·rw [if_neg (by simp [hz]), hiff]; constructor
    ·rintro ⟨h1, h2⟩; obtain ⟨h3, h4⟩ := hb.1 ⟨hz, h1⟩; exact ⟨h3, by exact_mod_cast h4, h2⟩
    ·rintro ⟨h1, h2, h3⟩; exact ⟨(hb.2 ⟨h1, by exact_mod_cast h2⟩).2, h3⟩
   ·rw [if_pos (by exact_mod_cast hz)]; constructor
    ·intro h; cases h
    ·rintro ⟨h1, h2, h3⟩; exact absurd (hb.2 ⟨h1, by exact_mod_cast h2⟩).1 hz
theorem Ce (P : Int) : ∀ (q : List S27) (b : Bool), q.foldl (vV P) b = true ↔ b = true ∧ ∀ x ∈ q, Go.bits .and .i64 P x.f0 = x.f1
 | [], b => by simp
 | x :: r, b => by
  rw [List.foldl_cons, Ce P r]; simp only [vV, List.mem_cons, forall_eq_or_imp]; cases b <;> simp
theorem Cw {q : List S27} (h : yJ q) : ∃ G P : Nat, G < 1024 ∧ P < 1024 ∧ fG q = ((G : Int), (P : Int), tq 0 0 q) := by
 obtain ⟨G, P, hG, hP, hf, hiff⟩ := NW h 0 0 (by omega) (by omega) rfl; refine ⟨G, P, hG, hP, ?_⟩; have hA : xA q = ((G : Int), (P : Int)) := hf; rw [fG, hA]; simp only []
 have : q.foldl (vV (P : Int)) true = tq 0 0 q := by
  rw [Bool.eq_iff_iff, Ce]; have hiff' : tq 0 0 q = true ↔ P &&& 0 = 0 ∧ ∀ x ∈ q, Go.bits .and .i64 (P : Int) x.f0 = x.f1 := hiff; rw [hiff']; simp
 rw [this]
def og (x : Int) : Int := if x < 1048576 then x else 1000
theorem Yk (c : Prop) [Decidable c] (m n : Nat) (hm : m ≤ 10) (hn : n ≤ 10) : 0 ≤ (if c then wrap64 ((m : Int) + (n : Int)) else jJ) ∧ ((if c then wrap64 ((m : Int) + (n : Int)) else jJ) ≤ 20 ∨ (if c then wrap64 ((m : Int) + (n : Int)) else jJ) = 1048576) := by
 split
 ·rw [eT (by omega) (by omega)]; omega
 ·exact ⟨by decide, .inr rfl⟩
theorem Ko (W S : Int) {q : List S27} (h : yJ q) (s : S86) (h0 : 0 ≤ s.f1) (h1 : s.f1 < 1024) : 0 ≤ cellP W S (fG q) s ∧ (cellP W S (fG q) s ≤ 20 ∨ cellP W S (fG q) s = 1048576) := by
 obtain ⟨G, P, hG, hP, hs⟩ := Cw h; obtain ⟨z, hz⟩ := Int.eq_ofNat_of_zero_le h0; (have hz2 : z < 1024 := by omega); obtain ⟨c, hc, e1, _⟩ := yI (yl (b := G) hz2) hP; obtain ⟨d, hd, e2, _⟩ := yI hP hz2; obtain ⟨m, hm, e3⟩ := yM hc; obtain ⟨k, hk, e4⟩ := yM hd; rw [cellP, hs]; simp only []; rw [hz, uJ hz2 hG, e1, e2, e3, e4]; exact Yk _ m k hm hk
theorem EC (x : Int) (h0 : 0 ≤ x) (h1 : x < 1024) (w : World) : Calls Try.prog 84 #[.int .i64 x] w fun e w' => e = .returned (.int .i64 (nM x)) ∧ w = w' := by
 obtain ⟨n, rfl⟩ := Int.eq_ofNat_of_zero_le h0; (have hn : n < 1024 := by omega); have HP := aa.mk (show nM (n : Int) = (zx 10 n : Int) from Ff ⟨n, hn⟩); have hx : n < 2 ^ 10 := hn; have HX := aa.mk hx; clear h0 h1 hn hx; go_enter Try.func84, Try.ntmps84; go_wp2
 go_loop [0, 3] (fun v0 v3 => ∃ f m r : Nat, f ≤ 10 ∧ v0 = .int .i64 m ∧ v3 = .int .i64 r ∧ m < 1024 ∧ r ≤ 10 ∧ aa (m < 2 ^ f ∧ r + zx f m = zx 10 n)) (fun v0 _ => (intOf v0).toNat)
 case atStart => exact ⟨10, n, 0, by omega, rfl, rfl, HX.out, by omega, ⟨HX.out, by omega⟩⟩
 case round =>
  obtain ⟨f, m, r, hf, rfl, rfl, hm, hr, HA⟩ := hrel; by_cases hz : m = 0
  ·subst hz; go_wp2
   go_ret
   refine ⟨?_, rfl⟩; have h := HA.out.2
   have e : zx f 0 = 0 := by
    clear HA h hf
    induction f with
    | zero => rfl
    | succ f ih => rw [zx, ih]
   rw [HP.out, ← h, e]; rfl
  ·have hb : decide (0 < (m : Int)) = true := decide_eq_true (by omega)
   obtain ⟨f', rfl⟩ : ∃ f', f = f' + 1 := by
    cases f with
    | zero => exact absurd HA.out.1 (by simp; omega)
    | succ f' => exact ⟨f', rfl⟩
   have h2 := HA.out.2; rw [zx] at h2; have h1 := HA.out.1; rw [Nat.pow_succ] at h1; have hl := Fz 10 n; have HB := aa.mk (show m / 2 < 2 ^ f' ∧ (r + m % 2) + zx f' (m / 2) = zx 10 n ∧ r + m % 2 ≤ 10 by omega); clear h1 h2 HA hl; (have hm0 : 0 ≤ (m : Int) := by omega); (have hr0 : 0 ≤ (r : Int) := by omega); go_wp2
   go_round
   (case rel => exact ⟨f', m / 2, r + m % 2, by omega, by go_num, by go_num, by omega, HB.out.2.2, ⟨HB.out.1, HB.out.2.1⟩⟩); case measure => simp [intOf]; omega
theorem KE (q : List S27) (g p : Int) (j : Nat) (h : j < q.length) : tq g p (q.drop j) = if Go.bits .and .i64 (Go.bits .xor .i64 p (q[j]).f1) (Go.bits .and .i64 g (q[j]).f0) ≠ 0 then false else tq (Go.bits .or .i64 g (q[j]).f0) (Go.bits .or .i64 p (q[j]).f1) (q.drop (j + 1)) := by
 rw [List.drop_eq_getElem_cons h]; rfl
theorem MX (q : List S27) (g p : Int) (j : Nat) (h : j < q.length) (hf : (q.take j).foldl seenStep (0, 0) = (g, p)) : (q.take (j + 1)).foldl seenStep (0, 0) = (Go.bits .or .i64 g (q[j]).f0, Go.bits .or .i64 p (q[j]).f1) := by
 rw [← List.take_append_getElem h, List.foldl_append, hf]; rfl
def sH (W S : Int) (q : List S27) (s : Int) : Int := og (cellP W S (fG q) ⟨0, s⟩)
theorem Ox {W S : Int} {q : List S27} (h : yJ q) (s : Int) (hb : tq 0 0 q = false) : sH W S q s = 1000 := by
 obtain ⟨G, P, _, _, hs⟩ := Cw h; rw [sH, cellP, hs, if_neg (by simp [hb])]; rfl
theorem MV {W S : Int} {q : List S27} (h : yJ q) (s : Int) {g p : Int} (hA : xA q = (g, p)) (hb : tq 0 0 q = true) {m n : Int} (h1 : nM (gp (Go.bits .and .i64 s g) p) = m) (h2 : nM (gp p s) = n) (hm : 0 ≤ m ∧ m ≤ 10) (hn : 0 ≤ n ∧ n ≤ 10) :
 sH W S q s = if W < m ∨ S < n then 1000 else m + n := by
 obtain ⟨G, P, _, _, hs⟩ := Cw h
 have e : fG q = (g, p, true) := by
  have h3 : (fG q).1 = (xA q).1 := rfl; have h4 : (fG q).2.1 = (xA q).2 := rfl; rw [hA, hs] at h3 h4; simp only [] at h3 h4; rw [hs, hb, h3, h4]
 rw [sH, cellP, e]; simp only []; rw [h1, h2]; by_cases hc : W < m ∨ S < n
 ·rw [if_pos hc, if_neg (fun h => by have h1 := h.2.1; have h2 := h.2.2; omega)]; rfl
 ·rw [if_neg hc, if_pos ⟨trivial, by omega, by omega⟩, eT (by omega) (by omega), og, if_pos (by omega)]
set_option maxRecDepth 100000 in
set_option maxHeartbeats 2000000 in
theorem IY (A1 : Option Addr) (n1 c1 : Nat) (W S t : Int) (A4 : Option Addr) (c4 : Nat) (sq : List (List S27)) (i : Nat) (s : Nat) (w : World) (hr : Kd.C (Kd.slice 27 k27) w A4 sq.length sq) (hi : i < sq.length) (hq : yJ (cu sq (i : Int))) (hql : (cu sq (i : Int)).length ≤ 4) (hs : s < 1024) :
 Calls Try.prog 78 #[.agg #[.slice A1 n1 c1, .int .i64 W, .int .i64 S, .int .i64 t, .slice A4 sq.length c4], .int .i64 i, .int .i64 s] w fun e w' => e = .returned (.int .i64 (sH W S (cu sq (i : Int)) s)) ∧ Below w.heap.size w w' := by
 obtain ⟨ad, B, cB, rfl, hx, hlB, hrB⟩ := xz hr (i : Int) (by omega) (by omega); rw [Int.toNat_natCast] at hx; obtain ⟨q, hqd⟩ : ∃ q, q = cu sq (i : Int) := ⟨_, rfl⟩; rw [← hqd] at hx hlB hrB hq hql ⊢; have HQ := aa.mk hq; have HL := aa.mk hql; have HRB := aa.mk hrB; (have hi' : (i : Int) < (sq.length : Int) := by omega); clear hr hqd hq hql hrB hlB hi; go_enter Try.func78, Try.ntmps78; (go_upto_region 1 with (fail)); obtain ⟨W1, hW1⟩ : ∃ W1, W1 = w.alloc (.cells #[.slice A1 n1 c1, .int .i64 W, .int .i64 S, .int .i64 t, .slice (some ad) sq.length c4] 25) := ⟨_, rfl⟩; have HB1 := aa.mk (show Below w.heap.size w W1 by rw [hW1]; exact aD (Below.refl _ _) _); have BX1 := aa.mk (show W1.heap[w.heap.size]? = some (.cells #[.slice A1 n1 c1, .int .i64 W, .int .i64 S, .int .i64 t, .slice (some ad) sq.length c4] 25 (0, 0)) by rw [hW1]; exact heap_alloc_new w _); rw [← hW1]; have hx1 := (HB1.out.cell (World.block_lt_of_cell? w _ hx)).trans hx; have hz4 : W1.cell? ⟨w.heap.size, 4, none⟩ = some (.slice (some ad) sq.length c4) := (af BX1.out 4).trans rfl; clear hW1 hx; go_wp2
 go_loopw [8, 9, 10] (fun v8 v9 v10 wr => ∃ (j g p : Nat), j ≤ q.length ∧ g < 1024 ∧ p < 1024 ∧ v8 = .int .i64 g ∧ v9 = .int .i64 p ∧ v10 = .int .i64 j ∧ aa (tq 0 0 q = tq g p (q.drop j) ∧ (q.take j).foldl seenStep (0, 0) = ((g : Int), (p : Int))) ∧ aa (Below w.heap.size w wr) ∧ aa (wr.heap[w.heap.size]? = some (.cells #[.slice A1 n1 c1, .int .i64 W, .int .i64 S, .int .i64 t, .slice (some ad) sq.length c4] 25 (0, 0)))) (fun _ _ v10 _ => q.length - (intOf v10).toNat)
 case atStart => exact ⟨0, 0, 0, by omega, by omega, by omega, rfl, rfl, rfl, ⟨rfl, rfl⟩, HB1, BX1⟩
 case round =>
  clear hz4 hx1 HB1 BX1; obtain ⟨j, g, p, hj, hg, hp, rfl, rfl, rfl, HA, HB, BX⟩ := hrel; by_cases hjl : j < q.length
  ·obtain ⟨s', n', hs', hn', hxe, hsn⟩ := HQ.out _ (List.getElem_mem hjl); obtain ⟨bd, e, hx0, hx1⟩ := vB (Kd.aX HRB.out HB.out) (j : Int) (by omega) (by omega); cases e; (have er : eB q (j : Int) = q[j] := by simp [eB, List.getD_eq_getElem?_getD, hjl]); rw [er, hxe, Int.toNat_natCast] at hx0 hx1; have e1 := uJ hg hs'; have e2 := MJ hp hn'; have e3 := uJ (GZ hp hn') (yl (b := s') hg); have e4 := zA hg hs'; have e5 := zA hp hn'; have hd := KE q (g : Int) (p : Int) j hjl; have hf := MX q (g : Int) (p : Int) j hjl HA.out.2; rw [hxe] at hd hf; simp only [] at hd hf; rw [e1, e2, e3, e4, e5] at hd; rw [e4, e5] at hf; have hb4 := DX hg hs'; have hb5 := DX hp hn'; obtain ⟨d, hdd⟩ : ∃ d, d = (p ^^^ n') &&& (g &&& s') := ⟨_, rfl⟩; obtain ⟨g', hgd⟩ : ∃ d, d = g ||| s' := ⟨_, rfl⟩; obtain ⟨p', hpd⟩ : ∃ d, d = p ||| n' := ⟨_, rfl⟩; rw [← hdd] at e3 hd; rw [← hgd] at e4 hd hf hb4; rw [← hpd] at e5 hd hf hb5; have HD := aa.mk hd; have HF := aa.mk hf; have hj1 : decide ((j : Int) < (q.length : Int)) = true := decide_eq_true (by omega); (have hj4 : (j : Int) < 4 := by have := HL.out; omega); clear er hxe hsn hd hf hdd hgd hpd; by_cases hz : d = 0
   ·(have hz1 : ((d : Int) == 0) = true := by rw [hz]; rfl); (have hz2 : ((d : Int) != 0) = false := by rw [hz]; rfl); have HZ := aa.mk hz; clear hz; go_wp2; go_quiet (fail); go_wp2
    go_roundw
    (case rel => exact ⟨j + 1, g', p', by omega, hb4, hb5, rfl, rfl, by go_num, ⟨HA.out.1.trans (HD.out.trans (if_neg (by have := HZ.out; omega))), HF.out⟩, ⟨dn HB.out _⟩, ⟨fC BX.out _⟩⟩); case measure => simp [intOf]; omega
   ·(have hz1 : ((d : Int) == 0) = false := by simp; omega); (have hz2 : ((d : Int) != 0) = true := by simp; omega); go_wp2
    go_ret
    refine ⟨?_, HB.out⟩; rw [Ox HQ.out _ (HA.out.1.trans (HD.out.trans (if_pos (by omega))))]; rfl
  ·(obtain rfl : j = q.length := by omega); (have hA : xA q = ((g : Int), (p : Int)) := by have := HA.out.2; rwa [List.take_length] at this); (have hok : tq 0 0 q = true := by rw [HA.out.1, List.drop_length]; rfl); have e1 := uJ hs hg; obtain ⟨x, hx, e2, -⟩ := yI (yl (b := g) hs) hp; obtain ⟨y, hy, e3, -⟩ := yI hp hs; obtain ⟨m, hm, e4⟩ := yM hx; obtain ⟨k, hk, e5⟩ := yM hy; have HR := aa.mk (MV (W := W) (S := S) HQ.out (s : Int) hA hok (by rw [e1, e2, e4]) (by rw [e3, e5]) ⟨Int.natCast_nonneg m, Int.ofNat_le.2 hm⟩ ⟨Int.natCast_nonneg k, Int.ofNat_le.2 hk⟩); unfold gp at e2 e3; (have hj1 : decide ((q.length : Int) < (q.length : Int)) = false := by simp); have hz1 : wr.cell? ⟨w.heap.size, 1, none⟩ = some (.int .i64 W) := (af BX.out 1).trans rfl; have hz2 : wr.cell? ⟨w.heap.size, 2, none⟩ = some (.int .i64 S) := (af BX.out 2).trans rfl; clear hA hok; (go_wp2_with (fail)); refine (EC (x : Int) (Int.natCast_nonneg x) (Int.ofNat_lt.2 hx) _).mono ?_; rintro e w' ⟨he, rfl⟩; rw [e4] at he; subst he; (go_wp2_with (fail)); refine (EC (y : Int) (Int.natCast_nonneg y) (Int.ofNat_lt.2 hy) _).mono ?_; rintro e w' ⟨he, rfl⟩; rw [e5] at he; subst he; have hm0 : 0 ≤ (m : Int) := Int.natCast_nonneg m; have hm1 : (m : Int) ≤ 10 := Int.ofNat_le.2 hm; have hk0 : 0 ≤ (k : Int) := Int.natCast_nonneg k; have hk1 : (k : Int) ≤ 10 := Int.ofNat_le.2 hk; clear e1 e2 e3 e4 e5; by_cases c1 : W < (m : Int)
   ·have hc1 : decide (W < (m : Int)) = true := decide_eq_true c1; go_wp2
    go_ret
    refine ⟨?_, HB.out⟩; rw [HR.out, if_pos (.inl c1)]; rfl
   ·have hc1 : decide (W < (m : Int)) = false := decide_eq_false c1; by_cases c2 : S < (k : Int)
    ·have hc2 : decide (S < (k : Int)) = true := decide_eq_true c2; go_wp2
     go_ret
     refine ⟨?_, HB.out⟩; rw [HR.out, if_pos (.inr c2)]; rfl
    ·have hc2 : decide (S < (k : Int)) = false := decide_eq_false c2; go_wp2
     go_ret
     refine ⟨?_, HB.out⟩; rw [HR.out, if_neg (fun h => h.elim (Int.not_lt.2 c1) (Int.not_lt.2 c2))]; rfl
def pY (sh : List S86) : Prop := sh.length ≤ 8 ∧ ∀ s ∈ sh, 0 ≤ s.f1 ∧ s.f1 < 1024
def oo (sq : List (List S27)) : Prop := sq.length ≤ 8 ∧ ∀ q ∈ sq, q.length ≤ 4 ∧ yJ q
theorem oo.at {sq : List (List S27)} (h : oo sq) {i : Nat} (hi : i < sq.length) : (cu sq (i : Int)).length ≤ 4 ∧ yJ (cu sq (i : Int)) := by
 rw [sP sq i hi]; exact h.2 _ (List.getElem_mem hi)
theorem pY.at {sh : List S86} (h : pY sh) {i : Nat} (hi : i < sh.length) : 0 ≤ (ai sh (i : Int)).f1 ∧ (ai sh (i : Int)).f1 < 1024 := by
 rw [jg sh i hi]; exact h.2 _ (List.getElem_mem hi)
def jO (W S : Int) (q : List S27) (sh : List S86) : Nat → Int
 | 0 => 1000
 | k + 1 => mn (jO W S q sh k) (sH W S q (ai sh (k : Int)).f1)
theorem wF (W S : Int) (q : List S27) (s : S86) : sH W S q s.f1 = og (cellP W S (fG q) s) := rfl
theorem VB {a b : Int} (ha : 0 ≤ a ∧ (a ≤ 20 ∨ a = 1048576)) (hb : 0 ≤ b ∧ (b ≤ 20 ∨ b = 1048576)) : mn (og a) (og b) = og (mn a b) := by
 unfold mn og; rcases ha with ⟨a0, a1 | a1⟩ <;> rcases hb with ⟨b0, b1 | b1⟩ <;> (repeat' split) <;> omega
theorem Yn {a b : Int} (ha : 0 ≤ a ∧ (a ≤ 20 ∨ a = 1048576)) (hb : 0 ≤ b ∧ (b ≤ 20 ∨ b = 1048576)) : 0 ≤ mn a b ∧ (mn a b ≤ 20 ∨ mn a b = 1048576) := by
 unfold mn; split
 ·exact hb
 ·exact ha
theorem sj (W S : Int) {q : List S27} (hq : yJ q) {sh : List S86} (hsh : pY sh) : ∀ K, K ≤ sh.length → jO W S q sh K = og (ny W S (fG q) sh K) ∧ 0 ≤ ny W S (fG q) sh K ∧ (ny W S (fG q) sh K ≤ 20 ∨ ny W S (fG q) sh K = 1048576)
 | 0, _ => ⟨rfl, by simp [ny, jJ], .inr rfl⟩
 | K + 1, hK => by
  obtain ⟨h1, h2⟩ := sj W S hq hsh K (by omega); have hs := hsh.at (i := K) (by omega); have h3 := Ko W S hq (ai sh (K : Int)) hs.1 hs.2; rw [jO, ny, h1, wF, VB h2 h3]; exact ⟨rfl, Yn h2 h3⟩
attribute [local go_sem] nQ nT qp qo
set_option maxRecDepth 100000 in
set_option maxHeartbeats 2000000 in
theorem Np (A1 : Option Addr) (n1 c1 : Nat) (W S t : Int) (A4 : Option Addr) (c4 : Nat) (sq : List (List S27)) (lo hi : Int) (Ah : Option Addr) (ch : Nat) (sh : List S86) (i : Nat) (w : World) (hr : Kd.C (Kd.slice 27 k27) w A4 sq.length sq) (hh : k86.C w Ah sh.length sh) (hil : i < sq.length) (hq : oo sq) (hs : pY sh) :
 Calls Try.prog 76 #[.agg #[.slice A1 n1 c1, .int .i64 W, .int .i64 S, .int .i64 t, .slice A4 sq.length c4], .agg #[.int .i64 lo, .int .i64 hi, .slice Ah sh.length ch], .int .i64 i] w fun e w' => e = .returned (.int .i64 (jO W S (cu sq (i : Int)) sh sh.length)) ∧ Below w.heap.size w w' := by
 have HR := aa.mk hr; have HH := aa.mk hh; have HQ := aa.mk (hq.at hil); have HS := aa.mk hs; have HIL := aa.mk hil; clear hr hh hq hs hil; go_enter Try.func76, Try.ntmps76; go_wp2
 go_loopw [7, 8] (fun v7 v8 wr => ∃ j : Nat, j ≤ sh.length ∧ v7 = .int .i64 (jO W S (cu sq (i : Int)) sh j) ∧ v8 = .int .i64 j ∧ aa (Below w.heap.size w wr) ∧ aa (wr.heap[w.heap.size]? = some (.cells #[.slice A1 n1 c1, .int .i64 W, .int .i64 S, .int .i64 t, .slice A4 sq.length c4] 25 (0, 0))) ∧ aa (wr.heap[w.heap.size + 1]? = some (.cells #[.int .i64 lo, .int .i64 hi, .slice Ah sh.length ch] 66 (0, 0)))) (fun _ v8 _ => sh.length - (intOf v8).toNat)
 case atStart =>
  refine ⟨0, by omega, rfl, rfl, ⟨aD (aD (Below.refl _ _) _) _⟩, ⟨cz (heap_alloc_new w _) _⟩, ⟨?_⟩⟩; have := heap_alloc_new (w.alloc (.cells #[.slice A1 n1 c1, .int .i64 W, .int .i64 S, .int .i64 t, .slice A4 sq.length c4] 25)) (.cells #[.int .i64 lo, .int .i64 hi, .slice Ah sh.length ch] 66)
  rwa [World.size_alloc] at this
 case round =>
  obtain ⟨j, hj, rfl, rfl, HB, BX, BH⟩ := hrel; have hb2 : wr.cell? ⟨w.heap.size + 1, 2, none⟩ = some (.slice Ah sh.length ch) := (af BH.out 2).trans rfl; by_cases hjl : j < sh.length
  ·have hj1 : decide ((j : Int) < (sh.length : Int)) = true := decide_eq_true (by omega); obtain ⟨bd, e, hx0, hx1⟩ := mX (Kd.aX HH.out HB.out) (j : Int) (by omega) (by omega); cases e; rw [Int.toNat_natCast] at hx0 hx1; obtain ⟨s, hsd⟩ := Int.eq_ofNat_of_zero_le (HS.out.at hjl).1; have hs1 := (HS.out.at hjl).2; have HL := aa.mk (show jO W S (cu sq (i : Int)) sh (j + 1) = mn (jO W S (cu sq (i : Int)) sh j) (sH W S (cu sq (i : Int)) (s : Int)) by rw [jO, hsd]); rw [hsd] at hx1 hs1; have HS1 := aa.mk (show s < 1024 by omega); (have hj8 : (j : Int) < 8 := by have := HS.out.1; omega); (have hjlt : (j : Int) < (sh.length : Int) := by omega); have hz0 : wr.cell? ⟨w.heap.size, 0, none⟩ = some (.slice A1 n1 c1) := (af BX.out 0).trans rfl; have hz1 : wr.cell? ⟨w.heap.size, 1, none⟩ = some (.int .i64 W) := (af BX.out 1).trans rfl; have hz2 : wr.cell? ⟨w.heap.size, 2, none⟩ = some (.int .i64 S) := (af BX.out 2).trans rfl; have hz3 : wr.cell? ⟨w.heap.size, 3, none⟩ = some (.int .i64 t) := (af BX.out 3).trans rfl; have hz4 : wr.cell? ⟨w.heap.size, 4, none⟩ = some (.slice A4 sq.length c4) := (af BX.out 4).trans rfl; clear hs1 hsd hx0; obtain ⟨lv, hlv⟩ : ∃ lv, lv = jO W S (cu sq (i : Int)) sh j := ⟨_, rfl⟩; rw [← hlv] at HL ⊢; clear hlv; go_wp2_with (fail)
   go_region_held3 (fun w' => w'.cell? ⟨w.heap.size, 0, none⟩ = some (.slice A1 n1 c1) ∧ w'.cell? ⟨w.heap.size, 1, none⟩ = some (.int .i64 W) ∧ w'.cell? ⟨w.heap.size, 2, none⟩ = some (.int .i64 S) ∧ w'.cell? ⟨w.heap.size, 3, none⟩ = some (.int .i64 t) ∧ w'.cell? ⟨w.heap.size, 4, none⟩ = some (.slice A4 sq.length c4) ∧ w'.cell? ⟨w.heap.size + 1, 2, none⟩ = some (.slice (some bd) sh.length ch) ∧ w'.cell? ⟨(bd.add (j * 2)).block, (bd.add (j * 2)).off + 1, none⟩ = some (.int .i64 s))
    (go_keep)
    (((with_reducible refine (IY A1 n1 c1 W S t A4 c4 sq i s _ (Kd.aX HR.out (eF HB.out)) HIL.out HQ.out.2 HQ.out.1 HS1.out).mono ?_)
      rintro e w2 ⟨rfl, hb⟩; have BX2 := aa.mk (au (dP BX.out) hb); have BH2 := aa.mk (au (dP BH.out) hb); have HB2 := aa.mk (ax (eF HB.out) hb); have hz0' : w2.cell? ⟨w.heap.size, 0, none⟩ = some (.slice A1 n1 c1) := (af BX2.out 0).trans rfl; have hz1' : w2.cell? ⟨w.heap.size, 1, none⟩ = some (.int .i64 W) := (af BX2.out 1).trans rfl; have hz2' : w2.cell? ⟨w.heap.size, 2, none⟩ = some (.int .i64 S) := (af BX2.out 2).trans rfl; have hz3' : w2.cell? ⟨w.heap.size, 3, none⟩ = some (.int .i64 t) := (af BX2.out 3).trans rfl; have hz4' : w2.cell? ⟨w.heap.size, 4, none⟩ = some (.slice A4 sq.length c4) := (af BX2.out 4).trans rfl; have hb2' : w2.cell? ⟨w.heap.size + 1, 2, none⟩ = some (.slice (some bd) sh.length ch) := (af BH2.out 2).trans rfl; have hx1' : w2.cell? ⟨(bd.add (j * 2)).block, (bd.add (j * 2)).off + 1, none⟩ = some (.int .i64 s) := (hb.cell (World.block_lt_of_cell? _ _ hx1)).trans hx1
      clear hb))
   go_wp2
   go_roundw
   (case rel => exact ⟨j + 1, by omega, by rw [HL.out]; rfl, by go_num, HB2, BX2, BH2⟩); case measure => simp [intOf]; omega
  ·(obtain rfl : j = sh.length := by omega); (have hj1 : decide ((sh.length : Int) < (sh.length : Int)) = false := by simp); go_wp2
   go_ret
   exact ⟨rfl, HB.out⟩
def iM : List S86 → Int → Int × Bool
 | [], _ => (0, false)
 | s :: r, c => if s.f0 = c then (s.f1, true) else iM r c
theorem Iz (sh : List S86) (c : Int) (j : Nat) (h : j < sh.length) : iM (sh.drop j) c = if (ai sh (j : Int)).f0 = c then ((ai sh (j : Int)).f1, true) else iM (sh.drop (j + 1)) c := by
 rw [List.drop_eq_getElem_cons h, iM, jg sh j h]
set_option maxRecDepth 100000 in
set_option maxHeartbeats 2000000 in
theorem M7 (lo hi : Int) (Ah : Option Addr) (ch : Nat) (sh : List S86) (c : Int) (w : World) (hh : k86.C w Ah sh.length sh) (hl : sh.length ≤ 8) :
 Calls Try.prog 77 #[.agg #[.int .i64 lo, .int .i64 hi, .slice Ah sh.length ch], .int .u8 c] w fun e w' => e = .returned (.tuple #[.int .i64 (iM sh c).1, .bool (iM sh c).2]) ∧ Below w.heap.size w w' := by
 have HH := aa.mk hh; have HL := aa.mk hl; clear hh hl; go_enter Try.func77, Try.ntmps77; (go_upto_region 1 with (fail)); obtain ⟨W1, hW1⟩ : ∃ W1, W1 = w.alloc (.cells #[.int .i64 lo, .int .i64 hi, .slice Ah sh.length ch] 66) := ⟨_, rfl⟩; have HB := aa.mk (show Below w.heap.size w W1 by rw [hW1]; exact aD (Below.refl _ _) _); have BH := aa.mk (show W1.heap[w.heap.size]? = some (.cells #[.int .i64 lo, .int .i64 hi, .slice Ah sh.length ch] 66 (0, 0)) by rw [hW1]; exact heap_alloc_new w _); rw [← hW1]; have hb2 : W1.cell? ⟨w.heap.size, 2, none⟩ = some (.slice Ah sh.length ch) := (af BH.out 2).trans rfl; clear hW1; go_wp2
 go_loop [6] (fun v6 => ∃ j : Nat, j ≤ sh.length ∧ v6 = .int .i64 j ∧ aa (iM sh c = iM (sh.drop j) c)) (fun v6 => sh.length - (intOf v6).toNat)
 case atStart => exact ⟨0, by omega, rfl, ⟨rfl⟩⟩
 case round =>
  obtain ⟨j, hj, rfl, HA⟩ := hrel; by_cases hjl : j < sh.length
  ·have hj1 : decide ((j : Int) < (sh.length : Int)) = true := decide_eq_true (by omega); obtain ⟨bd, e, hx0, hx1⟩ := mX (Kd.aX HH.out HB.out) (j : Int) (by omega) (by omega); cases e; rw [Int.toNat_natCast] at hx0 hx1; have HD := aa.mk (HA.out.trans (Iz sh c j hjl)); obtain ⟨s, hs⟩ : ∃ s, s = ai sh (j : Int) := ⟨_, rfl⟩; rw [← hs] at HD hx0 hx1; (have hj8 : (j : Int) < 8 := by have := HL.out; omega); (have hjlt : (j : Int) < (sh.length : Int) := by omega); clear hs HA; by_cases hc : s.f0 = c
   ·(have hc1 : (s.f0 == c) = true := by simp [hc]); have HC := aa.mk hc; clear hc; go_wp2
    go_ret2
    rw [HD.out, if_pos HC.out]; exact ⟨rfl, HB.out⟩
   ·(have hc1 : (s.f0 == c) = false := by simp [hc]); have HC := aa.mk hc; clear hc; go_wp2
    go_round
    (case rel => exact ⟨j + 1, by omega, by go_num, ⟨HD.out.trans (if_neg HC.out)⟩⟩); case measure => simp [intOf]; omega
  ·(obtain rfl : j = sh.length := by omega); (have hj1 : decide ((sh.length : Int) < (sh.length : Int)) = false := by simp); go_wp2
   go_ret2
   rw [HA.out, List.drop_length]; exact ⟨rfl, HB.out⟩
def iQ (W S : Int) (q : List S27) (sh : List S86) (i : Nat) (n : Option Int) (d : kL) : Option Int :=
 match n with
 | none => none
 | some n => if d.f0 = (i : Int) then (if (iM sh d.f1).2 = true then some (mx n (sH W S q (iM sh d.f1).1)) else none) else some n
def nE (W S : Int) (q : List S27) (sh : List S86) (i : Nat) (needs : List kL) : Option Int := needs.foldl (iQ W S q sh i) (some (jO W S q sh sh.length))
def iF (W S : Int) (sq : List (List S27)) (sh : List S86) (needs : List kL) : Nat → Option Int
 | 0 => some 0
 | i + 1 => (iF W S sq sh needs i).bind fun a => (nE W S (cu sq (i : Int)) sh i needs).bind fun n => some (a + n)
def ja (W S : Int) (sq : List (List S27)) (sh : List S86) (needs : List kL) : Int := (iF W S sq sh needs sq.length).getD 1000
theorem EO (W S : Int) (q : List S27) (sh : List S86) (i : Nat) : ∀ l : List kL, l.foldl (iQ W S q sh i) none = none
 | [] => rfl
 | d :: r => by rw [List.foldl_cons, iQ, EO W S q sh i r]
theorem NY (W S : Int) (q : List S27) (sh : List S86) (i : Nat) (nd : List kL) (x : Option Int) (j : Nat) (h : j < nd.length) : (nd.take (j + 1)).foldl (iQ W S q sh i) x = iQ W S q sh i ((nd.take j).foldl (iQ W S q sh i) x) (wP nd (j : Int)) := by
 (have e : wP nd (j : Int) = nd[j] := by simp [wP, List.getD_eq_getElem?_getD, h]); rw [← List.take_append_getElem h, List.foldl_append, e]; rfl
theorem J4 (W S : Int) (q : List S27) (sh : List S86) (i : Nat) (nd : List kL) (x : Option Int) (j : Nat) (h : (nd.take j).foldl (iQ W S q sh i) x = none) : nd.foldl (iQ W S q sh i) x = none := by
 have := EO W S q sh i (nd.drop j); rw [← h, ← List.foldl_append, List.take_append_drop] at this; exact this.trans h
theorem CU {W S : Int} {sq : List (List S27)} {sh : List S86} {needs : List kL} {i : Nat} (h : nE W S (cu sq (i : Int)) sh i needs = none) : ∀ n, i < n → iF W S sq sh needs n = none
 | 0, hn => by omega
 | n + 1, hn => by
  rw [iF]; by_cases he : i = n
  ·subst he; rw [h]; cases iF W S sq sh needs i <;> rfl
  ·rw [CU h n (by omega)]; rfl
theorem Cj (W S : Int) {q : List S27} (h : yJ q) (s : Int) (h0 : 0 ≤ s) (h1 : s < 1024) : 0 ≤ sH W S q s ∧ sH W S q s ≤ 1000 := by
 have := Ko W S h ⟨0, s⟩ h0 h1; unfold sH og; split <;> omega
theorem AF (W S : Int) {q : List S27} (h : yJ q) {sh : List S86} (hs : pY sh) : ∀ K, K ≤ sh.length → 0 ≤ jO W S q sh K ∧ jO W S q sh K ≤ 1000
 | 0, _ => ⟨by simp [jO], by simp [jO]⟩
 | K + 1, hK => by
  have h1 := AF W S h hs K (by omega); have h2 := hs.at (i := K) (by omega); have h3 := Cj W S h _ h2.1 h2.2; rw [jO]; unfold mn; split <;> omega
theorem zX : ∀ {sh : List S86}, (∀ s ∈ sh, 0 ≤ s.f1 ∧ s.f1 < 1024) → ∀ c, 0 ≤ (iM sh c).1 ∧ (iM sh c).1 < 1024
 | [], _, c => by simp [iM]
 | s :: r, h, c => by
  rw [iM]; split
  ·exact h s List.mem_cons_self
  ·exact zX (fun x hx => h x (List.mem_cons_of_mem _ hx)) c
attribute [local go_sem] nQ nT qp qo
set_option maxRecDepth 100000 in
set_option maxHeartbeats 4000000 in
theorem EK (A1 : Option Addr) (n1 c1 : Nat) (W S t : Int) (A4 : Option Addr) (c4 : Nat) (sq : List (List S27)) (lo hi : Int) (Ah : Option Addr) (ch : Nat) (sh : List S86) (An : Option Addr) (cn : Nat) (nd : List kL) (w : World)
 (hr : Kd.C (Kd.slice 27 k27) w A4 sq.length sq) (hh : k86.C w Ah sh.length sh) (hn : qO.C w An nd.length nd) (hnl : nd.length ≤ 8) (hq : oo sq) (hs : pY sh) :
 Calls Try.prog 57 #[.agg #[.slice A1 n1 c1, .int .i64 W, .int .i64 S, .int .i64 t, .slice A4 sq.length c4], .agg #[.int .i64 lo, .int .i64 hi, .slice Ah sh.length ch], .slice An nd.length cn] w fun e w' => e = .returned (.int .i64 (ja W S sq sh nd)) ∧ Below w.heap.size w w' := by
 have HR := aa.mk hr; have HH := aa.mk hh; have HN := aa.mk hn; have HNL := aa.mk hnl; have HQ := aa.mk hq; have HS := aa.mk hs; have HS8 := aa.mk hs.1; clear hr hh hn hnl hq hs; go_enter Try.func57, Try.ntmps57; go_wp2
 go_loopw [7, 8, 9, 10, 11, 12] (fun v7 v8 v9 v10 v11 v12 wr => ∃ (i : Nat) (a : Int), i ≤ sq.length ∧ v7 = .int .i64 a ∧ v8 = .int .i64 i ∧ 0 ≤ a ∧ a ≤ 100000 ∧ aa (iF W S sq sh nd i = some a ∧ a ≤ 1000 * i) ∧ aa (Below w.heap.size w wr) ∧ aa (wr.heap[w.heap.size]? = some (.cells #[.slice A1 n1 c1, .int .i64 W, .int .i64 S, .int .i64 t, .slice A4 sq.length c4] 25 (0, 0))) ∧ aa (wr.heap[w.heap.size + 1]? = some (.cells #[.int .i64 lo, .int .i64 hi, .slice Ah sh.length ch] 66 (0, 0)))) (fun _ v8 _ _ _ _ _ => sq.length - (intOf v8).toNat)
 case atStart =>
  refine ⟨0, 0, by omega, rfl, rfl, by omega, by omega, ⟨rfl, by omega⟩, ⟨aD (aD (Below.refl _ _) _) _⟩, ⟨cz (heap_alloc_new w _) _⟩, ⟨?_⟩⟩; have := heap_alloc_new (w.alloc (.cells #[.slice A1 n1 c1, .int .i64 W, .int .i64 S, .int .i64 t, .slice A4 sq.length c4] 25)) (.cells #[.int .i64 lo, .int .i64 hi, .slice Ah sh.length ch] 66)
  rwa [World.size_alloc] at this
 case round =>
  obtain ⟨i, a, hi8, rfl, rfl, ha0, ha1, HA, HB, BX, BH⟩ := hrel; have hz4 : wr.cell? ⟨w.heap.size, 4, none⟩ = some (.slice A4 sq.length c4) := (af BX.out 4).trans rfl; by_cases hil : i < sq.length
  ·have hi1 : decide ((i : Int) < (sq.length : Int)) = true := decide_eq_true (by omega); have HIL := aa.mk hil; have hz0 : wr.cell? ⟨w.heap.size, 0, none⟩ = some (.slice A1 n1 c1) := (af BX.out 0).trans rfl; have hz1 : wr.cell? ⟨w.heap.size, 1, none⟩ = some (.int .i64 W) := (af BX.out 1).trans rfl; have hz2 : wr.cell? ⟨w.heap.size, 2, none⟩ = some (.int .i64 S) := (af BX.out 2).trans rfl; have hz3 : wr.cell? ⟨w.heap.size, 3, none⟩ = some (.int .i64 t) := (af BX.out 3).trans rfl; have hb0 : wr.cell? ⟨w.heap.size + 1, 0, none⟩ = some (.int .i64 lo) := (af BH.out 0).trans rfl; have hb1 : wr.cell? ⟨w.heap.size + 1, 1, none⟩ = some (.int .i64 hi) := (af BH.out 1).trans rfl; have hb2 : wr.cell? ⟨w.heap.size + 1, 2, none⟩ = some (.slice Ah sh.length ch) := (af BH.out 2).trans rfl; (go_wp2_with (fail)); refine (Np A1 n1 c1 W S t A4 c4 sq lo hi Ah ch sh i _ (Kd.aX HR.out HB.out) (Kd.aX HH.out HB.out) HIL.out HQ.out HS.out).mono ?_; rintro e w2 ⟨rfl, hb⟩; have HB2 := aa.mk (ax HB.out hb); have BX2 := aa.mk (au BX.out hb); have BH2 := aa.mk (au BH.out hb); have HLR := aa.mk (AF W S (HQ.out.at HIL.out).2 HS.out sh.length (Nat.le_refl _)); clear hb hz0 hz1 hz2 hz3 hz4 hb0 hb1 hb2 HB BX BH; obtain ⟨wo, rfl⟩ : ∃ wo : World, wo = w2 := ⟨_, rfl⟩; go_wp2
   go_loopw [9, 10, 11, 12] (fun v9 v10 v11 v12 wr => ∃ (j : Nat) (n : Int), j ≤ nd.length ∧ v9 = .int .i64 n ∧ v10 = .int .i64 j ∧ 0 ≤ n ∧ n ≤ 1000 ∧ aa ((nd.take j).foldl (iQ W S (cu sq (i : Int)) sh i) (some (jO W S (cu sq (i : Int)) sh sh.length)) = some n) ∧ aa (Below w.heap.size w wr) ∧ aa (wr.heap[w.heap.size]? = some (.cells #[.slice A1 n1 c1, .int .i64 W, .int .i64 S, .int .i64 t, .slice A4 sq.length c4] 25 (0, 0))) ∧ aa (wr.heap[w.heap.size + 1]? = some (.cells #[.int .i64 lo, .int .i64 hi, .slice Ah sh.length ch] 66 (0, 0)))) (fun _ v10 _ _ _ => nd.length - (intOf v10).toNat)
   case atStart => exact ⟨0, _, by omega, rfl, rfl, HLR.out.1, HLR.out.2, ⟨rfl⟩, HB2, BX2, BH2⟩
   case round =>
    clear HB2 BX2 BH2; obtain ⟨j, n, hjl, rfl, rfl, hn0, hn1, HF, HB, BX, BH⟩ := hrel; by_cases hjn : j < nd.length
    ·have hj1 : decide ((j : Int) < (nd.length : Int)) = true := decide_eq_true (by omega); obtain ⟨bd, e, hx0, hx1⟩ := TR (Kd.aX HN.out HB.out) (j : Int) (by omega) (by omega); cases e; rw [Int.toNat_natCast] at hx0 hx1; have HD := aa.mk (NY W S (cu sq (i : Int)) sh i nd (some (jO W S (cu sq (i : Int)) sh sh.length)) j hjn); obtain ⟨d, hd⟩ : ∃ d, d = wP nd (j : Int) := ⟨_, rfl⟩; rw [← hd] at HD hx0 hx1; (have hj8 : (j : Int) < 8 := by have := HNL.out; omega); (have hjlt : (j : Int) < (nd.length : Int) := by omega); clear hd; by_cases hc : d.f0 = (i : Int)
     ·(have hc1 : (d.f0 == (i : Int)) = true := by simp [hc]); (have hc2 : (d.f0 != (i : Int)) = false := by simp [hc]); have HC := aa.mk hc; have hb0 : wr.cell? ⟨w.heap.size + 1, 0, none⟩ = some (.int .i64 lo) := (af BH.out 0).trans rfl; have hb1 : wr.cell? ⟨w.heap.size + 1, 1, none⟩ = some (.int .i64 hi) := (af BH.out 1).trans rfl; have hb2 : wr.cell? ⟨w.heap.size + 1, 2, none⟩ = some (.slice Ah sh.length ch) := (af BH.out 2).trans rfl; have HSH := aa.mk (zX HS.out.2 d.f1); clear hc; go_wp2_with (fail)
      go_region_held3 (fun w' => w'.cell? ⟨w.heap.size + 1, 0, none⟩ = some (.int .i64 lo) ∧ w'.cell? ⟨w.heap.size + 1, 1, none⟩ = some (.int .i64 hi) ∧ w'.cell? ⟨w.heap.size + 1, 2, none⟩ = some (.slice Ah sh.length ch) ∧ w'.cell? ⟨(bd.add (j * 2)).block, (bd.add (j * 2)).off + 1, none⟩ = some (.int .u8 d.f1))
       (go_keep)
       (((with_reducible refine (M7 lo hi Ah ch sh d.f1 _ (Kd.aX HH.out (eF HB.out)) HS8.out).mono ?_)
         rintro e w3 ⟨rfl, hb⟩; have HB3 := aa.mk (ax (eF HB.out) hb); have BX3 := aa.mk (au (dP BX.out) hb); have BH3 := aa.mk (au (dP BH.out) hb); have hb0' : w3.cell? ⟨w.heap.size + 1, 0, none⟩ = some (.int .i64 lo) := (af BH3.out 0).trans rfl; have hb1' : w3.cell? ⟨w.heap.size + 1, 1, none⟩ = some (.int .i64 hi) := (af BH3.out 1).trans rfl; have hb2' : w3.cell? ⟨w.heap.size + 1, 2, none⟩ = some (.slice Ah sh.length ch) := (af BH3.out 2).trans rfl; have hx1' : w3.cell? ⟨(bd.add (j * 2)).block, (bd.add (j * 2)).off + 1, none⟩ = some (.int .u8 d.f1) := (hb.cell (World.block_lt_of_cell? _ _ hx1)).trans hx1
         clear hb))
      obtain ⟨sv, hsv⟩ : ∃ sv, sv = (iM sh d.f1).1 := ⟨_, rfl⟩; obtain ⟨sb, hsb⟩ : ∃ sb, sb = (iM sh d.f1).2 := ⟨_, rfl⟩; rw [← hsv, ← hsb]; have HSV := aa.mk hsv; have HSB := aa.mk hsb; clear hsv hsb hb0 hb1 hb2 hx0 hx1 hb0' hb1' hb2' hx1'
      cases sb with
      | false =>
       go_wp2
       go_ret
       refine ⟨?_, HB3.out⟩
       have hnone : nE W S (cu sq (i : Int)) sh i nd = none := by
        refine J4 W S _ sh i nd _ (j + 1) ?_; rw [HD.out, HF.out, iQ]; rw [if_pos HC.out, if_neg (by rw [← HSB.out]; simp)]
       rw [ja, CU hnone _ HIL.out]; rfl
      | true =>
       obtain ⟨s', rfl⟩ := Int.eq_ofNat_of_zero_le (show 0 ≤ sv by rw [HSV.out]; exact HSH.out.1); have HS1 := aa.mk (show s' < 1024 by have h := HSH.out.2; rw [← HSV.out] at h; exact Int.ofNat_lt.1 h); have hz0 : w3.cell? ⟨w.heap.size, 0, none⟩ = some (.slice A1 n1 c1) := (af BX3.out 0).trans rfl; have hz1 : w3.cell? ⟨w.heap.size, 1, none⟩ = some (.int .i64 W) := (af BX3.out 1).trans rfl; have hz2 : w3.cell? ⟨w.heap.size, 2, none⟩ = some (.int .i64 S) := (af BX3.out 2).trans rfl; have hz3 : w3.cell? ⟨w.heap.size, 3, none⟩ = some (.int .i64 t) := (af BX3.out 3).trans rfl; have hz4 : w3.cell? ⟨w.heap.size, 4, none⟩ = some (.slice A4 sq.length c4) := (af BX3.out 4).trans rfl; (go_wp2_with (fail)); refine (IY A1 n1 c1 W S t A4 c4 sq i s' _ (Kd.aX HR.out HB3.out) HIL.out (HQ.out.at HIL.out).2 (HQ.out.at HIL.out).1 HS1.out).mono ?_; rintro e w4 ⟨rfl, hb⟩; have HB4 := aa.mk (ax HB3.out hb); have BX4 := aa.mk (au BX3.out hb); have BH4 := aa.mk (au BH3.out hb); have HCR := aa.mk (Cj W S (HQ.out.at HIL.out).2 (s' : Int) (Int.natCast_nonneg _) (Int.ofNat_lt.2 HS1.out))
       have HN1 := aa.mk (show (nd.take (j + 1)).foldl (iQ W S (cu sq (i : Int)) sh i) (some (jO W S (cu sq (i : Int)) sh sh.length)) = some (mx n (sH W S (cu sq (i : Int)) (s' : Int))) by
        rw [HD.out, HF.out, iQ]
        rw [if_pos HC.out, if_pos HSB.out.symm, ← HSV.out])
       clear hb hz0 hz1 hz2 hz3 hz4; obtain ⟨cv, hcv⟩ : ∃ cv, cv = sH W S (cu sq (i : Int)) (s' : Int) := ⟨_, rfl⟩; rw [← hcv] at HCR HN1 ⊢; clear hcv; go_wp2
       go_roundw
       (case rel => exact ⟨j + 1, mx n cv, by omega, rfl, by go_num, by unfold mx; split <;> omega, by have := HCR.out; unfold mx; split <;> omega, HN1, HB4, BX4, BH4⟩); case measure => simp [intOf]; omega
     ·(have hc1 : (d.f0 == (i : Int)) = false := by simp [hc]); (have hc2 : (d.f0 != (i : Int)) = true := by simp [hc]); have HC := aa.mk hc; clear hc; go_wp2
      go_roundw
      (case rel => exact ⟨j + 1, n, by omega, rfl, by go_num, hn0, hn1, ⟨by rw [HD.out, HF.out, iQ, if_neg HC.out]⟩, HB, BX, BH⟩); case measure => simp [intOf]; omega
    ·(obtain rfl : j = nd.length := by omega); (have hj1 : decide ((nd.length : Int) < (nd.length : Int)) = false := by simp); have hi9 : (i : Int) < 8 := by have := HQ.out.1; have := HIL.out; omega
     have HM := aa.mk (show iF W S sq sh nd (i + 1) = some (a + n) by
      have h := HF.out; rw [List.take_length] at h
      rw [iF, HA.out.1, Option.bind_some, nE, h, Option.bind_some])
     (have ha2 : a ≤ 10000 := by have := HA.out.2; omega); go_wp2
     go_roundw
     (case rel => exact ⟨i + 1, a + n, by omega, rfl, by go_num, by omega, by omega, ⟨HM.out, by have := HA.out.2; push_cast; omega⟩, HB, BX, BH⟩); case measure => simp [intOf]; omega
  ·(obtain rfl : i = sq.length := by omega); (have hi1 : decide ((sq.length : Int) < (sq.length : Int)) = false := by simp); go_wp2
   go_ret
   refine ⟨?_, HB.out⟩; rw [ja, HA.out.1]; rfl
def AV (hs : List S66) : Prop := hs.length ≤ 8 ∧ ∀ h ∈ hs, pY h.f1
theorem AV.at {hs : List S66} (h : AV hs) {i : Nat} (hi : i < hs.length) : pY (ah hs (i : Int)).f1 := by
 rw [ll hs i hi]; exact h.2 _ (List.getElem_mem hi)
def jw (W S t : Int) (sq : List (List S27)) (nd : List kL) : List S66 → Bool
 | [] => false
 | h :: r => if ja W S sq h.f1 nd ≤ t then true else jw W S t sq nd r
theorem NQ (W S t : Int) (sq : List (List S27)) (nd : List kL) (hs : List S66) (j : Nat) (h : j < hs.length) : jw W S t sq nd (hs.drop j) = if ja W S sq (ah hs (j : Int)).f1 nd ≤ t then true else jw W S t sq nd (hs.drop (j + 1)) := by
 rw [List.drop_eq_getElem_cons h, jw, ll hs j h]
set_option maxRecDepth 100000 in
set_option maxHeartbeats 4000000 in
theorem Q6 (A1 : Option Addr) (c1 : Nat) (hs : List S66) (W S t : Int) (A4 : Option Addr) (c4 : Nat) (sq : List (List S27)) (An : Option Addr) (cn : Nat) (nd : List kL) (w : World)
 (hh : Kd.C k66 w A1 hs.length hs) (hr : Kd.C (Kd.slice 27 k27) w A4 sq.length sq) (hn : qO.C w An nd.length nd) (hnl : nd.length ≤ 8) (hq : oo sq) (hho : AV hs) :
 Calls Try.prog 81 #[.agg #[.slice A1 hs.length c1, .int .i64 W, .int .i64 S, .int .i64 t, .slice A4 sq.length c4], .slice An nd.length cn] w fun e w' => e = .returned (.bool (jw W S t sq nd hs)) ∧ Below w.heap.size w w' := by
 have HR := aa.mk hr; have HH := aa.mk hh; have HN := aa.mk hn; have HNL := aa.mk hnl; have HQ := aa.mk hq; have HS := aa.mk hho; have HS8 := aa.mk hho.1; clear hr hh hn hnl hq hho; go_enter Try.func81, Try.ntmps81; go_wp2
 go_loopw [5] (fun v5 wr => ∃ j : Nat, j ≤ hs.length ∧ v5 = .int .i64 j ∧ aa (jw W S t sq nd hs = jw W S t sq nd (hs.drop j)) ∧ aa (Below w.heap.size w wr) ∧ aa (wr.heap[w.heap.size]? = some (.cells #[.slice A1 hs.length c1, .int .i64 W, .int .i64 S, .int .i64 t, .slice A4 sq.length c4] 25 (0, 0)))) (fun v5 _ => hs.length - (intOf v5).toNat)
 case atStart => exact ⟨0, by omega, rfl, ⟨rfl⟩, ⟨aD (Below.refl _ _) _⟩, ⟨heap_alloc_new w _⟩⟩
 case round =>
  obtain ⟨j, hj, rfl, HA, HB, BX⟩ := hrel; have hz0 : wr.cell? ⟨w.heap.size, 0, none⟩ = some (.slice A1 hs.length c1) := (af BX.out 0).trans rfl; by_cases hjl : j < hs.length
  ·have hj1 : decide ((j : Int) < (hs.length : Int)) = true := decide_eq_true (by omega); (have hjlt : (j : Int) < (hs.length : Int) := by omega); (have hj8 : (j : Int) < 8 := by have := HS8.out; omega); have HD := aa.mk (HA.out.trans (NQ W S t sq nd hs j hjl)); have HSJ := aa.mk (HS.out.at hjl); obtain ⟨ad, Ah, ch, e, hx0, hx1, hx2, hl2, hi2⟩ := qm (Kd.aX HH.out HB.out) (j : Int) (by omega) (by omega); cases e; rw [Int.toNat_natCast] at hx0 hx1 hx2; obtain ⟨h, hhd⟩ : ∃ h, h = ah hs (j : Int) := ⟨_, rfl⟩; rw [← hhd] at HD HSJ hx0 hx1 hx2 hl2 hi2; have HI2 := aa.mk hi2; have hz1 : wr.cell? ⟨w.heap.size, 1, none⟩ = some (.int .i64 W) := (af BX.out 1).trans rfl; have hz2 : wr.cell? ⟨w.heap.size, 2, none⟩ = some (.int .i64 S) := (af BX.out 2).trans rfl; have hz3 : wr.cell? ⟨w.heap.size, 3, none⟩ = some (.int .i64 t) := (af BX.out 3).trans rfl; have hz4 : wr.cell? ⟨w.heap.size, 4, none⟩ = some (.slice A4 sq.length c4) := (af BX.out 4).trans rfl; clear hhd hi2 hl2 HA; go_wp2_with (fail)
   go_region_held3 (fun w' => w'.cell? ⟨w.heap.size, 0, none⟩ = some (.slice (some ad) hs.length c1) ∧ w'.cell? ⟨w.heap.size, 1, none⟩ = some (.int .i64 W) ∧ w'.cell? ⟨w.heap.size, 2, none⟩ = some (.int .i64 S) ∧ w'.cell? ⟨w.heap.size, 3, none⟩ = some (.int .i64 t) ∧ w'.cell? ⟨w.heap.size, 4, none⟩ = some (.slice A4 sq.length c4) ∧ w'.cell? (ad.add (j * 3)) = some (.int .i64 h.f0.f0) ∧ w'.cell? ⟨(ad.add (j * 3)).block, (ad.add (j * 3)).off + 1, none⟩ = some (.int .i64 h.f0.f1) ∧ w'.cell? ⟨(ad.add (j * 3)).block, (ad.add (j * 3)).off + 2, none⟩ = some (.slice Ah h.f1.length ch))
    (go_keep)
    (((with_reducible refine (EK (some ad) hs.length c1 W S t A4 c4 sq h.f0.f0 h.f0.f1 Ah ch h.f1 An cn nd _ (Kd.aX HR.out (eF HB.out)) (Kd.aX HI2.out (eF (Below.refl _ _))) (Kd.aX HN.out (eF HB.out)) HNL.out HQ.out HSJ.out).mono ?_)
      rintro e w2 ⟨rfl, hb⟩; have HB2 := aa.mk (ax (eF HB.out) hb); have BX2 := aa.mk (au (dP BX.out) hb); have hz0' : w2.cell? ⟨w.heap.size, 0, none⟩ = some (.slice (some ad) hs.length c1) := (af BX2.out 0).trans rfl; have hz1' : w2.cell? ⟨w.heap.size, 1, none⟩ = some (.int .i64 W) := (af BX2.out 1).trans rfl; have hz2' : w2.cell? ⟨w.heap.size, 2, none⟩ = some (.int .i64 S) := (af BX2.out 2).trans rfl; have hz3' : w2.cell? ⟨w.heap.size, 3, none⟩ = some (.int .i64 t) := (af BX2.out 3).trans rfl; have hz4' : w2.cell? ⟨w.heap.size, 4, none⟩ = some (.slice A4 sq.length c4) := (af BX2.out 4).trans rfl; have hx0' : w2.cell? (ad.add (j * 3)) = some (.int .i64 h.f0.f0) := (hb.cell (World.block_lt_of_cell? _ _ hx0)).trans hx0; have hx1' : w2.cell? ⟨(ad.add (j * 3)).block, (ad.add (j * 3)).off + 1, none⟩ = some (.int .i64 h.f0.f1) := (hb.cell (World.block_lt_of_cell? _ _ hx1)).trans hx1; have hx2' : w2.cell? ⟨(ad.add (j * 3)).block, (ad.add (j * 3)).off + 2, none⟩ = some (.slice Ah h.f1.length ch) := (hb.cell (World.block_lt_of_cell? _ _ hx2)).trans hx2
      clear hb))
   obtain ⟨mv, hmv⟩ : ∃ mv, mv = ja W S sq h.f1 nd := ⟨_, rfl⟩; rw [← hmv] at HD ⊢; clear hmv hx0 hx1 hx2 hz0 hz1 hz2 hz3 hz4 hx0' hx1' hx2' hz0' hz1' hz2' hz3' hz4'; by_cases hc : mv ≤ t
   ·have hc1 : decide (mv ≤ t) = true := decide_eq_true hc; have HC := aa.mk hc; go_wp2
    go_ret
    exact ⟨by rw [HD.out, if_pos HC.out]; rfl, HB2.out⟩
   ·have hc1 : decide (mv ≤ t) = false := decide_eq_false hc; have HC := aa.mk hc; have hc2 : t < mv := Int.not_le.1 hc; clear hc; go_wp2
    go_roundw
    (case rel => exact ⟨j + 1, by omega, by go_num, ⟨HD.out.trans (if_neg HC.out)⟩, HB2, BX2⟩); case measure => simp [intOf]; omega
  ·(obtain rfl : j = hs.length := by omega); (have hj1 : decide ((hs.length : Int) < (hs.length : Int)) = false := by simp); go_wp2
   go_ret
   exact ⟨by rw [HA.out, List.drop_length]; rfl, HB.out⟩
def iq (W S t : Int) (sq : List (List S27)) : Nat → List S66 → List Int
 | _, [] => []
 | j, h :: r => if ja W S sq h.f1 [] ≤ t then (j : Int) :: iq W S t sq (j + 1) r else iq W S t sq (j + 1) r
theorem D5 (W S t : Int) (sq : List (List S27)) (hs : List S66) (j : Nat) (h : j < hs.length) : iq W S t sq j (hs.drop j) = if ja W S sq (ah hs (j : Int)).f1 [] ≤ t then (j : Int) :: iq W S t sq (j + 1) (hs.drop (j + 1)) else iq W S t sq (j + 1) (hs.drop (j + 1)) := by
 rw [List.drop_eq_getElem_cons h, iq, ll hs j h]
theorem Kt (A1 : Option Addr) (n1 c1 : Nat) (W S t : Int) (A4 : Option Addr) (c4 : Nat) (sq : List (List S27)) (lo hi : Int) (Ah : Option Addr) (ch : Nat) (sh : List S86) (w : World)
 (hr : Kd.C (Kd.slice 27 k27) w A4 sq.length sq) (hh : k86.C w Ah sh.length sh) (hq : oo sq) (hs : pY sh) :
 Calls Try.prog 57 #[.agg #[.slice A1 n1 c1, .int .i64 W, .int .i64 S, .int .i64 t, .slice A4 sq.length c4], .agg #[.int .i64 lo, .int .i64 hi, .slice Ah sh.length ch], .slice none 0 0] w fun e w' => e = .returned (.int .i64 (ja W S sq sh [])) ∧ Below w.heap.size w w' :=
 EK A1 n1 c1 W S t A4 c4 sq lo hi Ah ch sh none 0 [] w hr hh (Kd.Qu _ _) (by decide) hq hs
set_option maxRecDepth 100000 in
set_option maxHeartbeats 4000000 in
theorem Nc (A1 : Option Addr) (c1 : Nat) (hs : List S66) (W S t : Int) (A4 : Option Addr) (c4 : Nat) (sq : List (List S27)) (w : World)
 (hh : Kd.C k66 w A1 hs.length hs) (hr : Kd.C (Kd.slice 27 k27) w A4 sq.length sq) (hq : oo sq) (hho : AV hs) :
 Calls Try.prog 61 #[.agg #[.slice A1 hs.length c1, .int .i64 W, .int .i64 S, .int .i64 t, .slice A4 sq.length c4]] w fun e w' => ∃ v, e = .returned v ∧ Kd.R (Kd.int .i64) 3 w' w.heap.size (fun _ => True) v (iq W S t sq 0 hs) ∧ Below w.heap.size w w' := by
 have HR := aa.mk hr; have HH := aa.mk hh; have HQ := aa.mk hq; have HS := aa.mk hho; have HS8 := aa.mk hho.1; clear hr hh hq hho; go_enter Try.func61, Try.ntmps61; go_wp2
 go_loopw [3, 4] (fun v3 v4 wr => ∃ (j : Nat) (acc : List Int), j ≤ hs.length ∧ v4 = .int .i64 j ∧ aa (acc ++ iq W S t sq j (hs.drop j) = iq W S t sq 0 hs ∧ acc.length ≤ j) ∧ aa (Kd.R (Kd.int .i64) 3 wr w.heap.size (fun _ => True) v3 acc) ∧ aa (Below w.heap.size w wr) ∧ aa (wr.heap[w.heap.size]? = some (.cells #[.slice A1 hs.length c1, .int .i64 W, .int .i64 S, .int .i64 t, .slice A4 sq.length c4] 25 (0, 0)))) (fun _ v4 _ => hs.length - (intOf v4).toNat)
 case atStart => exact ⟨0, [], by omega, rfl, ⟨rfl, by simp⟩, ⟨Kd.ul _ _ _ _ _⟩, ⟨aD (Below.refl _ _) _⟩, ⟨heap_alloc_new w _⟩⟩
 case round =>
  obtain ⟨j, acc, hj, rfl, HA, HO, HB, BX⟩ := hrel; have hz0 : wr.cell? ⟨w.heap.size, 0, none⟩ = some (.slice A1 hs.length c1) := (af BX.out 0).trans rfl; by_cases hjl : j < hs.length
  ·have hj1 : decide ((j : Int) < (hs.length : Int)) = true := decide_eq_true (by omega); (have hjlt : (j : Int) < (hs.length : Int) := by omega); (have hj8 : (j : Int) < 8 := by have := HS8.out; omega); have HD := aa.mk (D5 W S t sq hs j hjl); have HSJ := aa.mk (HS.out.at hjl); obtain ⟨ad, Ah, ch, e, hx0, hx1, hx2, hl2, hi2⟩ := qm (Kd.aX HH.out HB.out) (j : Int) (by omega) (by omega); cases e; rw [Int.toNat_natCast] at hx0 hx1 hx2; obtain ⟨h, hhd⟩ : ∃ h, h = ah hs (j : Int) := ⟨_, rfl⟩; rw [← hhd] at HD HSJ hx0 hx1 hx2 hl2 hi2; have HI2 := aa.mk hi2; have hz1 : wr.cell? ⟨w.heap.size, 1, none⟩ = some (.int .i64 W) := (af BX.out 1).trans rfl; have hz2 : wr.cell? ⟨w.heap.size, 2, none⟩ = some (.int .i64 S) := (af BX.out 2).trans rfl; have hz3 : wr.cell? ⟨w.heap.size, 3, none⟩ = some (.int .i64 t) := (af BX.out 3).trans rfl; have hz4 : wr.cell? ⟨w.heap.size, 4, none⟩ = some (.slice A4 sq.length c4) := (af BX.out 4).trans rfl; clear hhd hi2 hl2; go_wp2_with (fail)
   go_region_held3 (fun w' => w'.cell? ⟨w.heap.size, 0, none⟩ = some (.slice (some ad) hs.length c1) ∧ w'.cell? ⟨w.heap.size, 1, none⟩ = some (.int .i64 W) ∧ w'.cell? ⟨w.heap.size, 2, none⟩ = some (.int .i64 S) ∧ w'.cell? ⟨w.heap.size, 3, none⟩ = some (.int .i64 t) ∧ w'.cell? ⟨w.heap.size, 4, none⟩ = some (.slice A4 sq.length c4) ∧ w'.cell? (ad.add (j * 3)) = some (.int .i64 h.f0.f0) ∧ w'.cell? ⟨(ad.add (j * 3)).block, (ad.add (j * 3)).off + 1, none⟩ = some (.int .i64 h.f0.f1) ∧ w'.cell? ⟨(ad.add (j * 3)).block, (ad.add (j * 3)).off + 2, none⟩ = some (.slice Ah h.f1.length ch))
    (go_keep)
    (((with_reducible refine (Kt (some ad) hs.length c1 W S t A4 c4 sq h.f0.f0 h.f0.f1 Ah ch h.f1 _ (Kd.aX HR.out (eF HB.out)) (Kd.aX HI2.out (eF (Below.refl _ _))) HQ.out HSJ.out).mono ?_)
      rintro e w2 ⟨rfl, hb⟩; have HB2 := aa.mk (ax (eF HB.out) hb); have BX2 := aa.mk (au (dP BX.out) hb); have HO2 := aa.mk (Kd.eX (Kd.uK HO.out) hb); have hz0' : w2.cell? ⟨w.heap.size, 0, none⟩ = some (.slice (some ad) hs.length c1) := (af BX2.out 0).trans rfl; have hz1' : w2.cell? ⟨w.heap.size, 1, none⟩ = some (.int .i64 W) := (af BX2.out 1).trans rfl; have hz2' : w2.cell? ⟨w.heap.size, 2, none⟩ = some (.int .i64 S) := (af BX2.out 2).trans rfl; have hz3' : w2.cell? ⟨w.heap.size, 3, none⟩ = some (.int .i64 t) := (af BX2.out 3).trans rfl; have hz4' : w2.cell? ⟨w.heap.size, 4, none⟩ = some (.slice A4 sq.length c4) := (af BX2.out 4).trans rfl; have hx0' : w2.cell? (ad.add (j * 3)) = some (.int .i64 h.f0.f0) := (hb.cell (World.block_lt_of_cell? _ _ hx0)).trans hx0; have hx1' : w2.cell? ⟨(ad.add (j * 3)).block, (ad.add (j * 3)).off + 1, none⟩ = some (.int .i64 h.f0.f1) := (hb.cell (World.block_lt_of_cell? _ _ hx1)).trans hx1; have hx2' : w2.cell? ⟨(ad.add (j * 3)).block, (ad.add (j * 3)).off + 2, none⟩ = some (.slice Ah h.f1.length ch) := (hb.cell (World.block_lt_of_cell? _ _ hx2)).trans hx2
      clear hb))
   obtain ⟨mv, hmv⟩ : ∃ mv, mv = ja W S sq h.f1 [] := ⟨_, rfl⟩; rw [← hmv] at HD ⊢; clear hmv hx0 hx1 hx2 hz0 hz1 hz2 hz3 hz4 hx0' hx1' hx2' hz0' hz1' hz2' hz3' hz4'; by_cases hc : mv ≤ t
   ·have hc1 : decide (mv ≤ t) = true := decide_eq_true hc; have HC := aa.mk hc; have HLIM := aa.mk (show (acc.length + 1) * 8 ≤ 140737488355328 by have := HA.out.2; have := HS8.out; omega); (go_wp2_with (at_builtin; refine Kd.BZ (Kd.int .i64) (w0 := w) w.heap.size rfl (.tmp 22) (.tmp 24) 28 3 (.int .i64 0) 8 rfl Try.underlying28 info3 rfl (by decide) (by decide) _ acc (j : Int) [.int .i64 j] (fun _ => True) (fun _ => False) rfl rfl rfl (fun _ h => h.elim) (fun _ _ => trivial) HO2.out HB2.out HB2.out.size HLIM.out ?_; intro v1 w3 ho hb3 hg hat)); have HO3 := aa.mk ho; have BX3 := aa.mk (bP BX2.out hg (Kd.mQ HO2.out BX2.out (by decide))); have HB3 := aa.mk hb3; clear ho hb3 hg hat; go_wp2
    go_roundw
    (case rel => exact ⟨j + 1, acc ++ [(j : Int)], by omega, by go_num, ⟨by rw [← HA.out.1, HD.out, if_pos HC.out, List.append_assoc]; rfl, by have := HA.out.2; simp; omega⟩, HO3, HB3, BX3⟩); case measure => simp [intOf]; omega
   ·have hc1 : decide (mv ≤ t) = false := decide_eq_false hc; have HC := aa.mk hc; have hc2 : t < mv := Int.not_le.1 hc; clear hc; go_wp2
    go_roundw
    (case rel => exact ⟨j + 1, acc, by omega, by go_num, ⟨by rw [← HA.out.1, HD.out, if_neg HC.out], by have := HA.out.2; omega⟩, HO2, HB2, BX2⟩); case measure => simp [intOf]; omega
  ·(obtain rfl : j = hs.length := by omega); (have hj1 : decide ((hs.length : Int) < (hs.length : Int)) = false := by simp); go_wp2
   go_ret
   have h := HA.out.1; rw [List.drop_length, iq, List.append_nil] at h; rw [← h]; exact ⟨_, rfl, HO.out, HB.out⟩
theorem ow (n lo hi : Int) (w : World) : Calls Try.prog 67 #[.int .i64 n, .int .i64 lo, .int .i64 hi] w fun e w' => e = .returned (.bool (inP n lo hi)) ∧ w = w' := by
 by_cases h1 : lo ≤ n
 ·have e1 : decide (lo ≤ n) = true := decide_eq_true h1; by_cases h2 : n ≤ hi
  ·have e2 : decide (n ≤ hi) = true := decide_eq_true h2; have e3 := aa.mk (show inP n lo hi = true by rw [inP, e1, e2]; rfl); go_enter Try.func67, Try.ntmps67; go_wp2
   go_ret
   exact ⟨by rw [e3.out]; rfl, rfl⟩
  ·have e2 : decide (n ≤ hi) = false := decide_eq_false h2; have e3 := aa.mk (show inP n lo hi = false by rw [inP, e1, e2]; rfl); go_enter Try.func67, Try.ntmps67; go_wp2
   go_ret
   exact ⟨by rw [e3.out]; rfl, rfl⟩
 ·have e1 : decide (lo ≤ n) = false := decide_eq_false h1; have e3 := aa.mk (show inP n lo hi = false by rw [inP, e1]; rfl); go_enter Try.func67, Try.ntmps67; go_wp2
  go_ret
  exact ⟨by rw [e3.out]; rfl, rfl⟩
theorem Iy (q : List S27) (j : Nat) (h : j < q.length) : ku (q.drop j) = if inP (eB q (j : Int)).f0 0 1023 = true ∧ inP (eB q (j : Int)).f1 0 1023 = true then (if gp (eB q (j : Int)).f1 (eB q (j : Int)).f0 = 0 then ku (q.drop (j + 1)) else 2) else 1 := by
 (have e : eB q (j : Int) = q[j] := by simp [eB, List.getD_eq_getElem?_getD, h]); rw [List.drop_eq_getElem_cons h, ku, e]
def xy (q : List S27) : Int := if q.length > 4 then 6 else ku q
set_option maxRecDepth 100000 in
set_option maxHeartbeats 2000000 in
theorem A9 (A : Option Addr) (c : Nat) (q : List S27) (w : World) (hq : Kd.C k27 w A q.length q) : Calls Try.prog 68 #[.slice A q.length c] w fun e w' => e = .returned (.int .i64 (xy q)) ∧ Below w.heap.size w w' := by
 have HQ := aa.mk hq; clear hq; by_cases h4 : q.length > 4
 ·have h4' : decide (4 < (q.length : Int)) = true := decide_eq_true (by omega); have h4n : decide (4 < q.length) = true := decide_eq_true h4; have HE := aa.mk (show xy q = 6 by rw [xy, if_pos h4]); go_enter Try.func68, Try.ntmps68; go_wp2
  go_ret
  exact ⟨by rw [HE.out]; rfl, Below.refl _ _⟩
 ·have h4' : decide (4 < (q.length : Int)) = false := decide_eq_false (by omega); have h4n : decide (4 < q.length) = false := decide_eq_false h4; have HE := aa.mk (show xy q = ku q by rw [xy, if_neg h4]); have HL := aa.mk (show q.length ≤ 4 by omega); clear h4; go_enter Try.func68, Try.ntmps68; go_wp2
  go_loopw [3, 4] (fun v3 v4 wr => ∃ j : Nat, j ≤ q.length ∧ v3 = .int .i64 j ∧ aa (xy q = ku (q.drop j)) ∧ aa (Below w.heap.size w wr)) (fun v3 _ _ => q.length - (intOf v3).toNat)
  case atStart => exact ⟨0, by omega, rfl, HE, ⟨Below.refl _ _⟩⟩
  case round =>
   obtain ⟨j, hj, rfl, HA, HB⟩ := hrel; by_cases hjl : j < q.length
   ·have hj1 : decide ((j : Int) < (q.length : Int)) = true := decide_eq_true (by omega); (have hjlt : (j : Int) < (q.length : Int) := by omega); (have hj4 : (j : Int) < 4 := by have := HL.out; omega); obtain ⟨bd, e, hx0, hx1⟩ := vB (Kd.aX HQ.out HB.out) (j : Int) (by omega) (by omega); cases e; rw [Int.toNat_natCast] at hx0 hx1; have HD := aa.mk (HA.out.trans (Iy q j hjl)); obtain ⟨x, hx⟩ : ∃ x, x = eB q (j : Int) := ⟨_, rfl⟩; rw [← hx] at HD hx0 hx1; clear hx HA h4n h4'; (go_wp2_with (fail)); refine (ow x.f0 0 1023 _).mono ?_; rintro e w2 ⟨rfl, rfl⟩
    cases h1 : inP x.f0 0 1023 with
    | false =>
     have H1 := aa.mk h1; clear h1; go_wp2
     go_ret
     exact ⟨by rw [HD.out, if_neg (by rw [H1.out]; simp)]; rfl, aD HB.out _⟩
    | true =>
     have H1 := aa.mk h1; clear h1; (go_wp2_with (fail)); refine (ow x.f1 0 1023 _).mono ?_; rintro e w2 ⟨rfl, rfl⟩
     cases h2 : inP x.f1 0 1023 with
     | false =>
      have H2 := aa.mk h2; clear h2; go_wp2
      go_ret
      exact ⟨by rw [HD.out, if_neg (by rw [H2.out]; simp)]; rfl, aD HB.out _⟩
     | true =>
      have H2 := aa.mk h2; clear h2; by_cases hz : gp x.f1 x.f0 = 0
      ·have HZ := aa.mk hz; (have hz1 : (Go.bits .andNot .i64 x.f1 x.f0 == 0) = true := by rw [show Go.bits .andNot .i64 x.f1 x.f0 = 0 from hz]; rfl); (have hz2 : (Go.bits .andNot .i64 x.f1 x.f0 != 0) = false := by rw [show Go.bits .andNot .i64 x.f1 x.f0 = 0 from hz]; rfl); clear hz; go_wp2
       go_roundw
       (case rel => exact ⟨j + 1, by omega, by go_num, ⟨by rw [HD.out, if_pos ⟨H1.out, H2.out⟩, if_pos HZ.out]⟩, ⟨aD HB.out _⟩⟩); case measure => simp [intOf]; omega
      ·have HZ := aa.mk hz; have hz1 : (Go.bits .andNot .i64 x.f1 x.f0 == 0) = false := beq_eq_false_iff_ne.2 hz; have hz2 : (Go.bits .andNot .i64 x.f1 x.f0 != 0) = true := bne_iff_ne.2 hz; clear hz; go_wp2
       go_ret
       exact ⟨by rw [HD.out, if_pos ⟨H1.out, H2.out⟩, if_neg HZ.out]; rfl, aD HB.out _⟩
   ·(obtain rfl : j = q.length := by omega); (have hj1 : decide ((q.length : Int) < (q.length : Int)) = false := by simp); go_wp2
    go_ret
    exact ⟨by rw [HA.out, List.drop_length]; rfl, HB.out⟩
end Go.Proofs.Ytihedeofkhapiaa.Pr
end
section
namespace Go.Proofs.Ytihedeofkhapiaa.Pr
open Go.RowKit Go.Shelf Go.Proofs.YtihedeofkhapiaaW.PrintWords Go.Proofs.YtihedeofkhapiaaW.PrintLast Go.Proofs.YtihedeofkhapiaaW.PrintMore
attribute [local go_sem] Oper.semAt_some
set_option maxRecDepth 100000 in
set_option maxHeartbeats 4000000 in
theorem dG.calls (gu : Int) (aY : Int) (vk : Option Addr) (ve : Nat) (iX : List (S66)) (jN : Int) (jR : Int) (lV : Int) (tL : Option Addr) (tH : Nat) (fu : List (List (S27))) (r : List (List Int)) (w : World) (XG : Kd.C k66 w vk iX.length iX) (ab4 : iX.length ≤ ve) (XF : Kd.C (Kd.slice 27 k27) w tL fu.length fu) (aal : fu.length ≤ tH) (h : dG.f gu aY iX jN jR lV fu = some r) :
 Calls Try.prog 59 #[.agg #[.int .i64 gu, .int .u8 aY], .agg #[.slice vk iX.length ve, .int .i64 jN, .int .i64 jR, .int .i64 lV, .slice tL fu.length tH]] w fun e w' => ∃ v0_ : Value, e = .returned (v0_) ∧ Kd.S (Kd.slice 5 (Kd.int .u8)) 88 w' w.heap.size (fun _ => True) v0_ r ∧ Below w.heap.size w w' := by
 unfold dG.f at h; by_cases hck : eH iX jN jR lV fu = 0; (case neg => rw [if_neg hck] at h; cases h); rw [if_pos hck] at h; obtain rfl := Option.some.inj h; have hsh := Ed gu aY jN jR lV iX fu; have hv := kI hck; have HV := aa.mk hv; have HS := aa.mk (uG hv.2.2.2.2.1); have HSH := aa.mk hsh; have HR0 := aa.mk XG; have HR4 := aa.mk XF; obtain ⟨n, hn⟩ : ∃ n, n = fu.length := ⟨_, rfl⟩; (have hmk : ∀ W : World, (Instr.makeSlice 104 (.int .i64 (fu.length : Int)) (.int .i64 (fu.length : Int))).run Try.prog W = .ok (.slice (some ⟨W.heap.size, 0, none⟩) fu.length fu.length) (W.alloc (.cells (madeCells #[.slice none 0 0] fu.length) 88)) := fun W => VY W _ hv.2.2.2.1); clear hv hck hsh h XG XF ab4 aal; refine callsIn_wide (n := 10).1 ?_; refine callsIn_of_wp_marks Try.func59 rfl trivial ?_ rfl; simp only [Try.ntmps59, List.size_toArray, List.length_cons, List.length_nil, Nat.reduceAdd, Nat.reduceSub, Array.replicate_succ, Array.replicate_zero, List.push_toArray, List.append_toArray, List.nil_append, List.cons_append]; refine wpIn_wide.2 ?_; (go_wp2_with (fail)); refine wp_loop_ghost_k (fun gk a W => ∃ (u6 u7 u8 u9 u10 u11 u12 u13 u14 u15 u24 u25 u26 u27 u28 u29 u30 u31 u32 u33 u34 u35 u36 u37 u38 u39 u40 u41 u42 u43 u44 u45 u46 u47 u48 u49 u50 u51 u52 u53 u54 u55 u56 u57 u58 u59 u60 u61 u62 u63 u64 u65 u66 u67 u68 u69 u70 u71 u72 u73 u74 u75 u76 u77 u78 u79 u80 u81 u82 u83 u84 u85 u86 u87 u88 u89 u90 u91 u92 u93 u94 u95 u96 u97 u98 u99 u100 u101 u102 u103 u104 u105 u106 u107 u108 : Value) (i : Nat) (ds : List Deferred), gk + i = fu.length ∧ a = { tmps := #[.agg #[.int .i64 gu, .int .u8 aY], .agg #[.slice vk iX.length ve, .int .i64 jN, .int .i64 jR, .int .i64 lV, .slice tL fu.length tH], .pointer (some ⟨w.heap.size, 0, none⟩), .pointer (some ⟨w.heap.size + 1, 0, none⟩), .slice none 0 0, .slice (some ⟨w.heap.size + 1 + 1, 0, none⟩) fu.length fu.length, u6, u7, u8, u9, u10, u11, u12, u13, u14, u15, .pointer (some ⟨w.heap.size + 1, 4, none⟩), .slice tL fu.length tH, .int .i64 fu.length, .slice (some ⟨w.heap.size + 1 + 1, 0, none⟩) fu.length fu.length, .pointer (some ⟨w.heap.size + 1, 4, none⟩), .slice tL fu.length tH, .int .i64 fu.length, .int .i64 i, u24, u25, u26, u27, u28, u29, u30, u31, u32, u33, u34, u35, u36, u37, u38, u39, u40, u41, u42, u43, u44, u45, u46, u47, u48, u49, u50, u51, u52, u53, u54, u55, u56, u57, u58, u59, u60, u61, u62, u63, u64, u65, u66, u67, u68, u69, u70, u71, u72, u73, u74, u75, u76, u77, u78, u79, u80, u81, u82, u83, u84, u85, u86, u87, u88, u89, u90, u91, u92, u93, u94, u95, u96, u97, u98, u99, u100, u101, u102, u103, u104, u105, u106, u107, u108], defers := ds } ∧ aa (rR w gu aY vk ve iX jN jR lV tL tH fu i ds W)) fu.length ?start ?round
 case start =>
  refine ⟨_, _, _, _, _, _, _, _, _, _, _, _, _, _, _, _, _, _, _, _, _, _, _, _, _, _, _, _, _, _, _, _, _, _, _, _, _, _, _, _, _, _, _, _, _, _, _, _, _, _, _, _, _, _, _, _, _, _, _, _, _, _, _, _, _, _, _, _, _, _, _, _, _, _, _, _, _, _, _, _, _, _, _, _, _, _, _, _, _, _, _, _, _, _, _, 0, [], by omega, rfl, ⟨⟨?_, ?_, ⟨madeCells #[.slice none 0 0] fu.length, fun _ => 0, size_madeCells _ _, ?_, ?_, fun j hj => absurd hj (by omega)⟩, ⟨fun d hd => (by cases hd), List.nodup_nil⟩, ?_⟩⟩⟩
  ·exact cz (cz (heap_alloc_new w _) _) _
  ·refine cz ?_ _; have := heap_alloc_new (w.alloc (.cells #[.int .i64 gu, .int .u8 aY] 100)) (.cells #[.slice vk iX.length ve, .int .i64 jN, .int .i64 jR, .int .i64 lV, .slice tL fu.length tH] 25)
   rwa [World.size_alloc] at this
  ·have := heap_alloc_new ((w.alloc (.cells #[.int .i64 gu, .int .u8 aY] 100)).alloc (.cells #[.slice vk iX.length ve, .int .i64 jN, .int .i64 jR, .int .i64 lV, .slice tL fu.length tH] 25)) (.cells (madeCells #[.slice none 0 0] fu.length) 88)
   rwa [World.size_alloc, World.size_alloc] at this
  ·intro u hu; simp [madeCells] at hu; obtain ⟨k, _, rfl⟩ := hu; rw [Nat.mod_one]; rfl
  ·exact aD (aD (aD (Below.refl _ _) _) _) _
 case round =>
  intro gk a w1 hinv; obtain ⟨u6, hinv⟩ := hinv; obtain ⟨u7, hinv⟩ := hinv; obtain ⟨u8, hinv⟩ := hinv; obtain ⟨u9, hinv⟩ := hinv; obtain ⟨u10, hinv⟩ := hinv; obtain ⟨u11, hinv⟩ := hinv; obtain ⟨u12, hinv⟩ := hinv; obtain ⟨u13, hinv⟩ := hinv; obtain ⟨u14, hinv⟩ := hinv; obtain ⟨u15, hinv⟩ := hinv; obtain ⟨u24, hinv⟩ := hinv; obtain ⟨u25, hinv⟩ := hinv; obtain ⟨u26, hinv⟩ := hinv; obtain ⟨u27, hinv⟩ := hinv; obtain ⟨u28, hinv⟩ := hinv; obtain ⟨u29, hinv⟩ := hinv; obtain ⟨u30, hinv⟩ := hinv; obtain ⟨u31, hinv⟩ := hinv; obtain ⟨u32, hinv⟩ := hinv; obtain ⟨u33, hinv⟩ := hinv; obtain ⟨u34, hinv⟩ := hinv; obtain ⟨u35, hinv⟩ := hinv; obtain ⟨u36, hinv⟩ := hinv; obtain ⟨u37, hinv⟩ := hinv; obtain ⟨u38, hinv⟩ := hinv; obtain ⟨u39, hinv⟩ := hinv; obtain ⟨u40, hinv⟩ := hinv; obtain ⟨u41, hinv⟩ := hinv; obtain ⟨u42, hinv⟩ := hinv; obtain ⟨u43, hinv⟩ := hinv; obtain ⟨u44, hinv⟩ := hinv; obtain ⟨u45, hinv⟩ := hinv; obtain ⟨u46, hinv⟩ := hinv; obtain ⟨u47, hinv⟩ := hinv; obtain ⟨u48, hinv⟩ := hinv; obtain ⟨u49, hinv⟩ := hinv; obtain ⟨u50, hinv⟩ := hinv; obtain ⟨u51, hinv⟩ := hinv; obtain ⟨u52, hinv⟩ := hinv; obtain ⟨u53, hinv⟩ := hinv; obtain ⟨u54, hinv⟩ := hinv; obtain ⟨u55, hinv⟩ := hinv; obtain ⟨u56, hinv⟩ := hinv; obtain ⟨u57, hinv⟩ := hinv; obtain ⟨u58, hinv⟩ := hinv; obtain ⟨u59, hinv⟩ := hinv; obtain ⟨u60, hinv⟩ := hinv; obtain ⟨u61, hinv⟩ := hinv; obtain ⟨u62, hinv⟩ := hinv; obtain ⟨u63, hinv⟩ := hinv; obtain ⟨u64, hinv⟩ := hinv; obtain ⟨u65, hinv⟩ := hinv; obtain ⟨u66, hinv⟩ := hinv; obtain ⟨u67, hinv⟩ := hinv; obtain ⟨u68, hinv⟩ := hinv; obtain ⟨u69, hinv⟩ := hinv; obtain ⟨u70, hinv⟩ := hinv; obtain ⟨u71, hinv⟩ := hinv; obtain ⟨u72, hinv⟩ := hinv; obtain ⟨u73, hinv⟩ := hinv; obtain ⟨u74, hinv⟩ := hinv; obtain ⟨u75, hinv⟩ := hinv; obtain ⟨u76, hinv⟩ := hinv; obtain ⟨u77, hinv⟩ := hinv; obtain ⟨u78, hinv⟩ := hinv; obtain ⟨u79, hinv⟩ := hinv; obtain ⟨u80, hinv⟩ := hinv; obtain ⟨u81, hinv⟩ := hinv; obtain ⟨u82, hinv⟩ := hinv; obtain ⟨u83, hinv⟩ := hinv; obtain ⟨u84, hinv⟩ := hinv; obtain ⟨u85, hinv⟩ := hinv; obtain ⟨u86, hinv⟩ := hinv; obtain ⟨u87, hinv⟩ := hinv; obtain ⟨u88, hinv⟩ := hinv; obtain ⟨u89, hinv⟩ := hinv; obtain ⟨u90, hinv⟩ := hinv; obtain ⟨u91, hinv⟩ := hinv; obtain ⟨u92, hinv⟩ := hinv; obtain ⟨u93, hinv⟩ := hinv; obtain ⟨u94, hinv⟩ := hinv; obtain ⟨u95, hinv⟩ := hinv; obtain ⟨u96, hinv⟩ := hinv; obtain ⟨u97, hinv⟩ := hinv; obtain ⟨u98, hinv⟩ := hinv; obtain ⟨u99, hinv⟩ := hinv; obtain ⟨u100, hinv⟩ := hinv; obtain ⟨u101, hinv⟩ := hinv; obtain ⟨u102, hinv⟩ := hinv; obtain ⟨u103, hinv⟩ := hinv; obtain ⟨u104, hinv⟩ := hinv; obtain ⟨u105, hinv⟩ := hinv; obtain ⟨u106, hinv⟩ := hinv; obtain ⟨u107, hinv⟩ := hinv; obtain ⟨u108, hinv⟩ := hinv; obtain ⟨i, ds, hgi, ha, hM⟩ := hinv; subst ha; intro J K hJ hK; (try dsimp only); clear hmk
  cases gk with
  | zero =>
   (obtain rfl : i = fu.length := by omega); (have c1 : decide (fu.length < fu.length) = false := by simp); go_wp2_with (fail)
   refine xS (C := fun W => Kd.S (Kd.slice 5 (Kd.int .u8)) 88 W w.heap.size (fun _ => True) (.slice (some ⟨w.heap.size + 1 + 1, 0, none⟩) fu.length fu.length) (fA gu aY jN jR lV iX fu) ∧ Below w.heap.size w W) (b := w.heap.size)
    ?_ ?_ ds w1 hM.out.marks ⟨rR.all hM.out HV.out.2.2.2.1, hM.out.below⟩
   ·exact fun W D o h hb hD => ⟨QL h.1 hD rfl, h.2.trans (belowK_b (w := w) (Nat.le_refl _) W D _ _ hb hD rfl rfl)⟩
   ·intro W h; exact ⟨_, results_tmp (show Try.f59.results = #[ResultVar.tmp 4] from rfl) _ _ _, _, rfl, h.1, h.2⟩
  | succ g0 =>
   (have c1 : decide (i < fu.length) = true := by simp; omega); have hlt : w.heap.size + 1 < w1.heap.size := bW hM.out.line; have hmm := @run_makeMap Try.prog; (go_upto_region 6 with (fail)); refine CW (fun W => pG w1 i (fun _ => false) 0 W) ?_ ?_
   ·refine ⟨?_, ?_, ⟨DataW.map [], 0, ?_, Nat.le_refl _, fun c => rfl⟩, aD (aD (aD (Below.refl _ _) _) _) _⟩
    ·exact cz (cz (heap_alloc_new w1 _) _) _
    ·have := heap_alloc_new ((w1.alloc (.cells #[.int .i64 (i : Int)] 3)).alloc (.map #[] 0)) (.cells #[.map (some (w1.heap.size + 1))] 128)
     rwa [World.size_alloc, World.size_alloc] at this
    ·have := World.ownsMap_made (H := Unit) (w1.alloc (.cells #[.int .i64 (i : Int)] 3)) Try.prog 5 (plainElem (H := Unit) Try.prog 4); rw [World.size_alloc] at this; exact this.alloc _
   intro W hR; have HR := aa.mk hR; have HM := aa.mk (hM.out.step (hR.below)); clear hR hmm hlt; have hz0 : W.cell? ⟨w.heap.size + 1, 0, none⟩ = some (.slice vk iX.length ve) := (af HM.out.line 0).trans rfl; have hz1 : W.cell? ⟨w.heap.size + 1, 1, none⟩ = some (.int .i64 jN) := (af HM.out.line 1).trans rfl; have hz2 : W.cell? ⟨w.heap.size + 1, 2, none⟩ = some (.int .i64 jR) := (af HM.out.line 2).trans rfl; have hz3 : W.cell? ⟨w.heap.size + 1, 3, none⟩ = some (.int .i64 lV) := (af HM.out.line 3).trans rfl; have hz4 : W.cell? ⟨w.heap.size + 1, 4, none⟩ = some (.slice tL fu.length tH) := (af HM.out.line 4).trans rfl; (go_wp2_with (fail)); refine (callsIn_wide (n := 9).1 (CR 9 _ _ _ _ _ _ _ _ _ _)).mono ?_; rintro e w2 ⟨rfl, rfl⟩; have HRL := aa.mk (HR.out.step (aD (Below.refl _ _) (.cells #[.slice vk iX.length ve, .int .i64 jN, .int .i64 jR, .int .i64 lV, .slice tL fu.length tH] 25))); have bL := heap_alloc_new W (.cells #[.slice vk iX.length ve, .int .i64 jN, .int .i64 jR, .int .i64 lV, .slice tL fu.length tH] 25); have hB0 := aD HM.out.below (.cells #[.slice vk iX.length ve, .int .i64 jN, .int .i64 jR, .int .i64 lV, .slice tL fu.length tH] 25); (have hsz : (W.alloc (.cells #[.slice vk iX.length ve, .int .i64 jN, .int .i64 jR, .int .i64 lV, .slice tL fu.length tH] 25)).heap.size = W.heap.size + 1 := by simp); have hlt1 : w1.heap.size + 1 + 1 < W.heap.size := bW HR.out.mp
   have hlt0 : w.heap.size + 1 + 1 < w1.heap.size := by
    obtain ⟨cs, fo, _, h2, _⟩ := hM.out.rows; exact bW h2
   obtain ⟨bo, hbo⟩ : ∃ bo, bo = W.heap.size := ⟨_, rfl⟩; rw [← hbo] at bL hsz hlt1 ⊢; obtain ⟨W0, hW0⟩ : ∃ W0, W0 = (W.alloc (.cells #[.slice vk iX.length ve, .int .i64 jN, .int .i64 jR, .int .i64 lV, .slice tL fu.length tH] 25)) := ⟨_, rfl⟩; rw [← hW0] at HRL bL hsz hB0 ⊢; clear hW0 hz0 hz1 hz2 hz3 hz4 hbo HR HM; (go_wp2_with (fail)); refine (wpIn_wide (n := 10)).1 ?_
   refine wpIn_rangeFunc_ownH (n := 10) rfl (by omega) (gf := 73) (lb := #[.pointer (some ⟨bo, 0, none⟩)]) rfl trivial (enters_of Try.func73 (by kernel_rfl) rfl)
    (wD 9 (by omega) bo w1.heap.size vk ve iX jN jR lV tL tH fu HV.out.2.2.2.1 HS.out w W0 (by omega) HR0.out HR4.out hB0 (by omega) bL) Qp (Q9 (by omega)) (Below.refl _ _) (fun _ => rfl)
    (fun pre W => pG w1 i (gT gu aY jN jR lV iX fu i pre) (8 * pre.length) W ∧ bo < W.heap.size)
    (fun _ _ _ => False)
    (fun pre A B row hs hg hr => ⟨hs.1.kept hg (fun r e => by have := (hr r e).1; omega), Nat.lt_of_lt_of_le hs.2 hg.size⟩)
    (fun _ _ _ _ _ hs _ _ => hs)
    ⟨HRL.out, by omega⟩
    (fun x a' W => ∃ Bx, bo < Bx ∧ oL W Bx (dI jN jR iX fu x.1) ∧ a' = { tmps := #[.agg #[.int .i64 gu, .int .u8 aY], .agg #[.slice vk iX.length ve, .int .i64 jN, .int .i64 jR, .int .i64 lV, .slice tL fu.length tH], .pointer (some ⟨w.heap.size, 0, none⟩), .pointer (some ⟨w.heap.size + 1, 0, none⟩), .slice none 0 0, .slice (some ⟨w.heap.size + 1 + 1, 0, none⟩) fu.length fu.length, .pointer (some ⟨w1.heap.size, 0, none⟩), .pointer (some ⟨w1.heap.size + 1 + 1, 0, none⟩), .int .i64 (x.1 : Int), .pointer (some ⟨Bx, 0, none⟩), u10, u11, u12, u13, u14, u15, .pointer (some ⟨w.heap.size + 1, 4, none⟩), .slice tL fu.length tH, .int .i64 fu.length, .slice (some ⟨w.heap.size + 1 + 1, 0, none⟩) fu.length fu.length, .pointer (some ⟨w.heap.size + 1, 4, none⟩), .slice tL fu.length tH, .int .i64 fu.length, .int .i64 i, .bool true, .int .i64 i, .map (some (w1.heap.size + 1)), .agg #[.slice vk iX.length ve, .int .i64 jN, .int .i64 jR, .int .i64 lV, .slice tL fu.length tH], .func (.func 73) #[] #[.pointer (some ⟨bo, 0, none⟩)], .int .i64 (x.1 : Int), .agg (nums .i64 (dI jN jR iX fu x.1)).toArray, u31, u32, u33, u34, u35, u36, u37, u38, u39, u40, u41, u42, u43, u44, u45, u46, u47, u48, u49, u50, u51, u52, u53, u54, u55, u56, u57, u58, u59, u60, u61, u62, u63, u64, u65, u66, u67, u68, u69, u70, u71, u72, u73, u74, u75, u76, u77, u78, u79, u80, u81, u82, u83, u84, u85, u86, u87, u88, u89, u90, u91, u92, u93, u94, u95, u96, u97, u98, u99, u100, u101, u102, u103, u104, u105, u106, u107, u108], defers := [] })
    (fun x a' _ X Y row hs hg hr => by obtain ⟨Bx, h1, h2, h3⟩ := hs; exact ⟨Bx, h1, ⟨h2.1, uD (β := Unit) Bx _ 97 () X Y row h2.2 hg (fun r e => (hr r e).2)⟩, h3⟩)
    ?assign ?body ?done ?stop
   case assign =>
    rintro l pre x W K ⟨hI, hbW⟩ hK; dsimp only [Nr]; have hlen := iL jN jR fu (ah iX (x.1 : Int)).f1 fu.length; (have hin : (Try.prog.info? 97).map (·.size) = some 64 := by kernel_rfl); have H64 := aa.mk (show (nums .i64 (dI jN jR iX fu x.1)).toArray.size = 64 by simp [nums, dI, hlen]); have HIN := aa.mk hin; have HA := aa.mk (uj (dI jN jR iX fu x.1)); have HI := aa.mk hI; have hK2 := aa.mk hK; clear hlen hin hK hI
    gi_wp2_with (refine ik rfl 97 (.tmp 9) (.tmp 30) rfl W.heap.size _ rfl rfl 97 _ (heap_alloc_new W _) (by rw [H64.out]; exact HIN.out) (by rw [H64.out]; rfl) HA.out ?_)
    rw [lT]; have hW1 := HI.out.below.size; refine hK2.out _ _ ((KeepsOthers.alloc _ _).from _) ⟨(Below.refl _ W).alloc hW1 _, fun o ho hc => cz ho _⟩ ⟨HI.out.step (aD (Below.refl _ _) _), by simp; omega⟩ ⟨W.heap.size, hbW, ⟨iL _ _ _ _ _, heap_alloc_new W _⟩, rfl⟩
   case body =>
    rintro l pre x a' W hl ⟨r, hr⟩ ⟨hI, hbW⟩ ⟨Bx, hBx, bN, rfl⟩ hlt; (have hin : (Try.prog.info? 97).map (·.size) = some 64 := by kernel_rfl); (have hin5 : (Try.prog.info? 95).map (·.size) = some 8 := by kernel_rfl); have H64 := aa.mk (show (nums .i64 (dI jN jR iX fu x.1)).toArray.size = 64 by simp [nums, bN.1]); have HIN := aa.mk hin; have HIN5 := aa.mk hin5; have HI := aa.mk hI; have HN := aa.mk bN; have HM := aa.mk (hM.out.step hI.below); have HPL := aa.mk hlt; clear hin hin5 hI bN hlt; have hz0 : W.cell? ⟨w.heap.size + 1, 0, none⟩ = some (.slice vk iX.length ve) := (af HM.out.line 0).trans rfl; have hz1 : W.cell? ⟨w.heap.size + 1, 1, none⟩ = some (.int .i64 jN) := (af HM.out.line 1).trans rfl; have hz2 : W.cell? ⟨w.heap.size + 1, 2, none⟩ = some (.int .i64 jR) := (af HM.out.line 2).trans rfl; have hz3 : W.cell? ⟨w.heap.size + 1, 3, none⟩ = some (.int .i64 lV) := (af HM.out.line 3).trans rfl; have hz4 : W.cell? ⟨w.heap.size + 1, 4, none⟩ = some (.slice tL fu.length tH) := (af HM.out.line 4).trans rfl; have hg0 : W.cell? ⟨w.heap.size, 0, none⟩ = some (.int .i64 gu) := (af HM.out.given 0).trans rfl; have hg1 : W.cell? ⟨w.heap.size, 1, none⟩ = some (.int .u8 aY) := (af HM.out.given 1).trans rfl
    gi_wp2_with (refine pq rfl 97 (.tmp 9) rfl Bx rfl 97 _ (0, 0) _ HN.out.2 Try.underlying97 rfl (by rw [H64.out]; exact HIN.out) ?_)
    refine ⟨trivial, (CallsIn.inRound l (callsIn_wide.2 (sums.calls gu aY vk ve iX jN jR lV tL fu.length tH x.1 (dI jN jR iX fu x.1) W (Kd.aX HR0.out HM.out.below) x.2 HN.out.1 HV.out.2.2.2.1 (HS.out x.1 x.2)))).mono ?_⟩; rintro e w2 ⟨rfl, hb⟩; obtain ⟨es, hes⟩ : ∃ es, es = (eQ gu aY (dI jN jR iX fu x.1) (ah iX (x.1 : Int)).f1 fu.length).1 := ⟨_, rfl⟩; obtain ⟨tot, htot⟩ : ∃ tot, tot = (eQ gu aY (dI jN jR iX fu x.1) (ah iX (x.1 : Int)).f1 fu.length).2 := ⟨_, rfl⟩; rw [← hes, ← htot]; (have hel : es.length = 8 := by rw [hes]; exact jo _ _ _ _ _); have HE := aa.mk (show (nums .i64 es).toArray.size = 8 by simp [nums, hel]); have HEL := aa.mk hel; have HA := aa.mk (uj es); have HES := aa.mk (And.intro hes htot); have HB2 := aa.mk hb; have HI2 := aa.mk (HI.out.step hb); have HN2 := aa.mk (HN.out.below hb); have HM2 := aa.mk (hM.out.step HI2.out.below); clear hes htot hel hb hz0 hz1 hz2 hz3 hz4 hg0 hg1
    gi_upto_region 10 with (refine ik rfl 95 (.tmp 10) (.tmp 37) rfl w2.heap.size _ rfl rfl 95 _ (heap_alloc_new w2 _) (by rw [HE.out]; exact HIN5.out) (by rw [HE.out]; rfl) HA.out ?_; rw [lT])
    refine DC (fun W3 => lX w1 i (gT gu aY jN jR lV iX fu i pre) (8 * pre.length) bo W0.heap.size Bx w2.heap.size (dI jN jR iX fu x.1) es W W3) ?_ ?_
    ·exact ⟨HI2.out.step (aD (Below.refl _ _) _), HN2.out.below (aD (Below.refl _ _) _), ⟨HEL.out, heap_alloc_new w2 _⟩, ((kD HB2.out).trans (KeepsOthers.alloc _ _)).from _,
      ⟨(HB2.out.mono HI.out.below.size).alloc (Nat.le_trans HI.out.below.size HB2.out.size) _, fun o ho _ => cz ((HB2.out.block _ (bW ho)).trans ho) _⟩⟩
    intro W3 hM3; have HM3 := aa.mk hM3; have HL3 := aa.mk (hM.out.step hM3.rnd.below); obtain ⟨By, hBy⟩ : ∃ By, By = w2.heap.size := ⟨_, rfl⟩; (have hByb : w1.heap.size + 1 + 1 < By := by rw [hBy]; exact bW HI2.out.mp); rw [← hBy] at HM3 ⊢; clear hM3 HM2 HN2 HI2 HB2 hBy; have hz0 : W3.cell? ⟨w.heap.size + 1, 0, none⟩ = some (.slice vk iX.length ve) := (af HL3.out.line 0).trans rfl; obtain ⟨ad, A2, c2, e, hx0, hx1, hx2, hl2, hi2⟩ := qm HR0.out x.1 (by omega) (by have := x.2; omega); cases e; rw [Int.toNat_natCast] at hx0 hx1 hx2; obtain ⟨sh, hsh⟩ : ∃ sh, sh = (ah iX (x.1 : Int)).f1 := ⟨_, rfl⟩; rw [← hsh] at hx2 hl2 hi2; have hx2' := (HL3.out.below.cell (World.block_lt_of_cell? w _ hx2)).trans hx2; have HI := aa.mk hi2; have HSL := aa.mk (show sh.length ≤ 8 by rw [hsh]; exact HS.out x.1 x.2); have HSHX := aa.mk hsh; have hxlt := x.2; clear hx0 hx1 hx2 hi2 hsh
    gi_wp2_with (fail)
    gi_loopg [46] sh.length (fun g v46 wr => ∃ k : Nat, k + g = sh.length ∧ v46 = .int .i64 k ∧ aa (lX w1 i (fun c => gT gu aY jN jR lV iX fu i pre c || mE gu aY jN jR lV iX fu i x.1 k c) (8 * pre.length + k) bo W0.heap.size Bx By (dI jN jR iX fu x.1) es W wr))
    case atStart => exact ⟨0, by omega, rfl, ⟨{ HM3.out with rnd := { HM3.out.rnd with set := HM3.out.rnd.set.congr (fun c => by simp [mE]) } }⟩⟩
    case round =>
     clear hz0 hx2' HM3 HL3; obtain ⟨k, hkg, rfl, HB⟩ := hrel
     cases gk with
     | zero =>
      obtain rfl : k = sh.length := by omega
      gi_wp2_with (fail)
      refine ⟨HB.out.keeps, HB.out.kp, ⟨HB.out.rnd.sq, HB.out.rnd.mp, (HB.out.rnd.set.more ?_).congr ?_, HB.out.rnd.below⟩, Nat.lt_of_lt_of_le hbW HB.out.kp.1.size⟩
      ·have := HSL.out; simp; omega
      ·intro c; rw [Fw, ← HSHX.out]
     | succ g2 =>
      (have ck : decide (k < sh.length) = true := by simp; omega); obtain ⟨bd, e, hx0, hx1⟩ := mX HI.out k (by omega) (by omega); cases e; rw [Int.toNat_natCast] at hx0 hx1; have HL := aa.mk (hM.out.step HB.out.rnd.below); replace hx0 := (HL.out.below.cell (World.block_lt_of_cell? w _ hx0)).trans hx0; replace hx1 := (HL.out.below.cell (World.block_lt_of_cell? w _ hx1)).trans hx1; obtain ⟨sk, hsk⟩ : ∃ sk, sk = ai sh (k : Int) := ⟨_, rfl⟩; rw [← hsk] at hx0 hx1; have HSK := aa.mk hsk; clear hsk; have HN' := aa.mk hkg
      gi_upto_region 13 with (fail)
      obtain ⟨bs, hbs⟩ : ∃ bs, bs = wr.heap.size := ⟨_, rfl⟩; refine DC (fun W4 => lX w1 i (fun c => gT gu aY jN jR lV iX fu i pre c || mE gu aY jN jR lV iX fu i x.1 k c) (8 * pre.length + k) bo W0.heap.size Bx By (dI jN jR iX fu x.1) es W W4 ∧ W4.heap[bs]? = some (.cells #[.int .u8 sk.f0, .int .i64 sk.f1] 86 (0, 0))) ⟨HB.out.step (aD (Below.refl _ _) _), by rw [hbs]; exact heap_alloc_new wr _⟩ ?_; intro W4 hM4; have HM4 := aa.mk hM4.1; have HS4 := aa.mk hM4.2; have HL4 := aa.mk (hM.out.step hM4.1.rnd.below); rw [← hbs]; clear hM4 HL HB hx0 hx1 hbs hkg; have hg0 := cell_regrown ((af HL4.out.given 0).trans rfl : W4.cell? ⟨w.heap.size, 0, none⟩ = some (.int .i64 gu)); have hg1 := cell_regrown ((af HL4.out.given 1).trans rfl : W4.cell? ⟨w.heap.size, 1, none⟩ = some (.int .u8 aY)); have hz3 := cell_regrown ((af HL4.out.line 3).trans rfl : W4.cell? ⟨w.heap.size + 1, 3, none⟩ = some (.int .i64 lV)); have hsq := cell_regrown ((af HM4.out.rnd.sq 0).trans rfl : W4.cell? ⟨w1.heap.size, 0, none⟩ = some (.int .i64 (i : Int))); have hs0 := cell_regrown ((af HS4.out 0).trans rfl : W4.cell? ⟨bs, 0, none⟩ = some (.int .u8 sk.f0)); have hs1 := cell_regrown ((af HS4.out 1).trans rfl : W4.cell? ⟨bs, 1, none⟩ = some (.int .i64 sk.f1)); (have hk8 : k < 8 := by have := HSL.out; have := HN'.out; omega); (have hi8 : i < 8 := by have := HV.out.2.2.2.1; omega); obtain ⟨nv, hnv⟩ : ∃ nv, nv = (dI jN jR iX fu x.1).getD (i * 8 + k) 0 := ⟨_, rfl⟩; obtain ⟨ev, hev⟩ : ∃ ev, ev = es.getD i 0 := ⟨_, rfl⟩; have hn0 := HM4.out.arr.cell (i * 8 + k) (by omega); have he0 := HM4.out.eac.cell i hi8; rw [← hnv] at hn0; rw [← hev] at he0; have hn := cell_regrown hn0; have he := cell_regrown he0; (have bi : (i : Int) < 8 := by omega); (have bk : (k : Int) < 8 := by omega); have HNV := aa.mk hnv; have HEV := aa.mk hev; clear hn0 he0 hnv hev
      have HH := aa.mk (show xh gu aY jN jR lV iX fu i x.1 k = (tF gu aY (i : Int) sk && decide (nv < 1048576) && decide (IntKind.i64.wrap (IntKind.i64.wrap (tot - ev) + nv) ≤ lV)) by
       rw [HSK.out, HNV.out, HEV.out, HES.out.1, HES.out.2, HSHX.out, ← w64, ← w64]; rfl)
      cases hmay : tF gu aY (i : Int) sk with
      | false =>
       refine lL (by kernel_rfl) (by kernel_rfl) (by kernel_rfl) ?_
       repeat
        (refine wpQuietIn_step (fun _ _ _ _ => trivial) (fun K hK => ?_)
         go_simp
         first
          | (refine hK _ ?_; clear hK K)
          | (apply Exists.intro
             refine ⟨fun _ => ?_, hK _ ?_⟩; (refine CallsIn.regrown_of (CallsIn.inRound l (callsIn_wide.2 (ut gu aY i sk _))))
             clear hK K))
       refine wpQuietIn_nil ?_; rintro _ ⟨p, rfl⟩; obtain ⟨W5, hW5⟩ : ∃ W5, W5 = Go.Sort.grow (redrawn W4 p.d) p.os := ⟨_, rfl⟩; have hb5 := below_regrown W4 p.d p.os; rw [← hW5] at hb5 ⊢; have HM5 := aa.mk (HM4.out.step hb5); have HS5 := aa.mk ((hb5.block _ (bW HS4.out)).trans HS4.out); clear hg0 hg1 hz3 hsq hs0 hs1 hn he hb5 hW5; have HF := aa.mk (show xh gu aY jN jR lV iX fu i x.1 k = false from HH.out.trans (by simp [hmay]))
       gi_wp2_with (fail)
       gi_roundg g2
       (case measure => omega); case rel => exact ⟨k + 1, by have := HN'.out; omega, by go_num, ⟨(HM5.out.more (by omega)).congr (fun c => by rw [mE, HF.out]; simp)⟩⟩
      | true =>
       cases hc1 : decide (nv < 1048576) with
       | false =>
        refine lL (by kernel_rfl) (by kernel_rfl) (by kernel_rfl) ?_
        repeat
         (refine wpQuietIn_step (fun _ _ _ _ => trivial) (fun K hK => ?_)
          go_simp
          first
           | (refine hK _ ?_; clear hK K)
           | (apply Exists.intro
              refine ⟨fun _ => ?_, hK _ ?_⟩; (refine CallsIn.regrown_of (CallsIn.inRound l (callsIn_wide.2 (ut gu aY i sk _))))
              clear hK K))
        refine wpQuietIn_nil ?_; rintro _ ⟨p, rfl⟩; obtain ⟨W5, hW5⟩ : ∃ W5, W5 = Go.Sort.grow (redrawn W4 p.d) p.os := ⟨_, rfl⟩; have hb5 := below_regrown W4 p.d p.os; rw [← hW5] at hb5 ⊢; have HM5 := aa.mk (HM4.out.step hb5); have HS5 := aa.mk ((hb5.block _ (bW HS4.out)).trans HS4.out); clear hg0 hg1 hz3 hsq hs0 hs1 hn he hb5 hW5; have HF := aa.mk (show xh gu aY jN jR lV iX fu i x.1 k = false from HH.out.trans (by simp [hmay, hc1]))
        gi_wp2_with (fail)
        gi_roundg g2
        (case measure => omega); case rel => exact ⟨k + 1, by have := HN'.out; omega, by go_num, ⟨(HM5.out.more (by omega)).congr (fun c => by rw [mE, HF.out]; simp)⟩⟩
       | true =>
        cases hc2 : decide (IntKind.i64.wrap (IntKind.i64.wrap (tot - ev) + nv) ≤ lV) with
        | false =>
         refine lL (by kernel_rfl) (by kernel_rfl) (by kernel_rfl) ?_
         repeat
          (refine wpQuietIn_step (fun _ _ _ _ => trivial) (fun K hK => ?_)
           go_simp
           first
            | (refine hK _ ?_; clear hK K)
            | (apply Exists.intro
               refine ⟨fun _ => ?_, hK _ ?_⟩; (refine CallsIn.regrown_of (CallsIn.inRound l (callsIn_wide.2 (ut gu aY i sk _))))
               clear hK K))
         refine wpQuietIn_nil ?_; rintro _ ⟨p, rfl⟩; obtain ⟨W5, hW5⟩ : ∃ W5, W5 = Go.Sort.grow (redrawn W4 p.d) p.os := ⟨_, rfl⟩; have hb5 := below_regrown W4 p.d p.os; rw [← hW5] at hb5 ⊢; have HM5 := aa.mk (HM4.out.step hb5); have HS5 := aa.mk ((hb5.block _ (bW HS4.out)).trans HS4.out); clear hg0 hg1 hz3 hsq hs0 hs1 hn he hb5 hW5; have HF := aa.mk (show xh gu aY jN jR lV iX fu i x.1 k = false from HH.out.trans (by simp [hmay, hc1, hc2]))
         gi_wp2_with (fail)
         gi_roundg g2
         (case measure => omega); case rel => exact ⟨k + 1, by have := HN'.out; omega, by go_num, ⟨(HM5.out.more (by omega)).congr (fun c => by rw [mE, HF.out]; simp)⟩⟩
        | true =>
         refine lL (by kernel_rfl) (by kernel_rfl) (by kernel_rfl) ?_
         repeat
          (refine wpQuietIn_step (fun _ _ _ _ => trivial) (fun K hK => ?_)
           go_simp
           first
            | (refine hK _ ?_; clear hK K)
            | (apply Exists.intro
               refine ⟨fun _ => ?_, hK _ ?_⟩; (refine CallsIn.regrown_of (CallsIn.inRound l (callsIn_wide.2 (ut gu aY i sk _))))
               clear hK K))
         refine wpQuietIn_nil ?_; rintro _ ⟨p, rfl⟩; obtain ⟨W5, hW5⟩ : ∃ W5, W5 = Go.Sort.grow (redrawn W4 p.d) p.os := ⟨_, rfl⟩; have hb5 := below_regrown W4 p.d p.os; rw [← hW5] at hb5 ⊢; have HM5 := aa.mk (HM4.out.step hb5); have HS5 := aa.mk ((hb5.block _ (bW HS4.out)).trans HS4.out); clear hg0 hg1 hz3 hsq hs0 hs1 hn he hb5 hW5; have HF := aa.mk (show xh gu aY jN jR lV iX fu i x.1 k = true from HH.out.trans (by simp [hmay, hc1, hc2])); obtain ⟨D, nn, hown, hnn, hhas⟩ := HM5.out.rnd.set; have hlet := FT HV.out.2.2.2.2.1 x.1 k hxlt (by rw [← HSHX.out]; have := HN'.out; omega); rw [← HSHX.out, ← HSK.out] at hlet
         have hkey : keyOf Try.prog 5 (.int .u8 sk.f0) = some (.int .u8 sk.f0) := by
          have hwf : (Lit.int .u8 sk.f0).wf = true := by
           have e1 : IntKind.u8.min = 0 := rfl; have e2 : IntKind.u8.max = 255 := rfl; simp only [Lit.wf, e1, e2]; simp; omega
          simp [keyOf, mapKey, Try.underlying5, hwf]
         have hmx : nn < maxLen := by
          have := HPL.out; have := HV.out.2.1; have := HSL.out; unfold maxLen; omega
         have HOWN := aa.mk hown; have HHAS := aa.mk hhas; have hq := (af HM5.out.rnd.mp 0).trans rfl; have hs0 : W5.cell? ⟨bs, 0, none⟩ = some (.int .u8 sk.f0) := (af HS5.out 0).trans rfl; have hmp : W5.cell? ⟨w1.heap.size + 1 + 1, 0, none⟩ = some (.map (some (w1.heap.size + 1))) := hq; clear hown hhas hq
         gi_wp2_with (refine wpListIn_mapUpdate_own W5 rfl (.tmp 79) (.tmp 81) (.const (.bool true)) 128 rfl 5 4 (Maps.int_keyed Try.underlying5) Try.underlying128 (plainElem Try.prog 4) (w1.heap.size + 1) nn D rfl HOWN.out hmx (.int .u8 sk.f0) (.bool true) (.int .u8 sk.f0) rfl rfl hkey (.lit (.bool true)) [] (plainElem_bool Try.underlying4 true) ?_; intro w6 r1 r2; have R1 := aa.mk r1; have R2 := aa.mk r2; clear r1 r2)
         gi_roundg g2
         case measure => omega
         case rel =>
          refine ⟨k + 1, by have := HN'.out; omega, by go_num, ⟨(HM5.out.turn R2.out (pz.put R1.out HOWN.out.isMap (show nn + 1 ≤ 8 * pre.length + (k + 1) by omega) HHAS.out) (by omega) (by omega) (by omega) (by omega)).congr (fun c => ?_)⟩⟩; rw [mE, HF.out, ← HSHX.out, ← HSK.out]; simp [Bool.or_assoc]
   case done =>
    rintro D ys W hD rfl ⟨hR, hbW⟩ hKD; obtain ⟨DD, nn, hown, hnn, hhas⟩ := hR.set; have HOWN := aa.mk hown; have HHAS := aa.mk hhas; have HNN := aa.mk (show nn ≤ 8 * iX.length by simpa using hnn); have HR := aa.mk hR; have HKD := aa.mk hKD; have hmp : W.cell? ⟨w1.heap.size + 1 + 1, 0, none⟩ = some (.map (some (w1.heap.size + 1))) := (af hR.mp 0).trans rfl; have HDS := aa.mk (show w1.heap.size ≤ D by omega); clear hown hhas hnn hR hKD HRL bL hB0 hsz hD; go_wp2_with (at_range; refine wpList_range_own _ rfl (.tmp 83) 128 rfl 5 4 (Maps.int_keyed Try.underlying5) Try.underlying128 _ (w1.heap.size + 1) nn DD rfl HOWN.out ?_; intro w3 hrg hg3 hs3)
    go_frame
    (go_loopg [14] (Maps.size DD) (fun g v14 wr => ∃ (left : Lit → Bool) (ss : List Int), aa (wr.ranges Try.prog 5 (plainElem (H := Unit) Try.prog 4) (w1.heap.size + 1) W.heap.size nn DD left g) ∧ aa (ss.length + g ≤ Maps.size DD) ∧ aa (Kd.R (Kd.int .u8) 5 wr W.heap.size (fun k => k ≠ W.heap.size) v14 ss) ∧ aa (xX (gT gu aY jN jR lV iX fu i (List.finRange iX.length)) left ss) ∧ aa (Below W.heap.size W wr) ∧ aa (W.heap.size < wr.heap.size))); case atStart => exact ⟨_, [], ⟨hrg⟩, ⟨by simp⟩, ⟨Kd.ul _ _ _ _ _⟩, ⟨xX.start HHAS.out⟩, ⟨(Below.refl _ _).grown hg3 (Nat.le_refl _) (fun j hj => by cases hj)⟩, ⟨by omega⟩⟩
    case round =>
     clear hrg hg3 hs3 hmp; obtain ⟨left, ss, hrg, hcs, hrow, hC, hB, hlt⟩ := hrel
     have hss : ss.length + gk ≤ 32 := by
      have h1 := hcs.out; have h2 := HOWN.out.size_le; have h3 := HNN.out; have h4 := HV.out.2.1; omega
     go_wp2_with (at_next; refine wpList_next_ranges _ rfl (.tmp 84) rfl 5 (Maps.int_keyed Try.underlying5) (plainElem Try.prog 4) (Value.int .u8) (fun v : Value => v) (fun key kl hk => by obtain ⟨x, e, _⟩ := O8 hk; exact ⟨x, e⟩) (fun v y hv => ⟨v, rfl⟩) (w1.heap.size + 1) W.heap.size nn DD left gk rfl hrg.out ?_ ?_)
     ·intro hc0 hl0; obtain ⟨T, hT⟩ : ∃ T, T = dz gu aY jN jR lV iX fu i := ⟨_, rfl⟩; have hTm : T.length ≤ 256 := HSH.out T (by rw [hT]; exact List.mem_map.2 ⟨i, by simp; omega, rfl⟩); (have hp : T.Perm ss := by rw [hT]; exact hC.out.perm hl0); (have hsl : ss.length ≤ 256 := by rw [← hp.length_eq]; exact hTm); (have hts : T.Pairwise (· ≤ ·) := by rw [hT]; exact Di _ _ _ _ _ _ _ _); have HSORT := aa.mk (O3 (fun k => k ≠ W.heap.size) u14 ss T W wr hB.out hrow.out (Nat.le_trans hsl (by decide)) hts hp); have HTT := aa.mk hT; (have hms : ∀ X : World, (Instr.makeSlice 88 (.int .i64 (T.length : Int)) (.int .i64 (T.length : Int))).run Try.prog X = .ok (.slice (some ⟨X.heap.size, 0, none⟩) T.length T.length) (X.alloc (.cells (madeCells #[.int .u8 0] T.length) 5)) := fun X => QF X _ (by omega)); clear hp hts hsl hT hc0 hl0 hss; (go_upto_region 22 with (go_at_call 79; refine HSORT.out.mono ?_; rintro e w6 ⟨rfl, q1, q2, q3⟩; have Q1 := aa.mk q1; have Q2 := aa.mk q2; clear q1 q2 q3)); obtain ⟨A14, c14, rfl⟩ := Kd.fO Q1.out; have HR6 := aa.mk (HR.out.step Q2.out); have HM6 := aa.mk (hM.out.step HR6.out.below); obtain ⟨cs, fo, h1, h2, h3, h4⟩ := HM6.out.rows; have HC6 := aa.mk h2; have hsq : w6.cell? ⟨w1.heap.size, 0, none⟩ = some (.int .i64 (i : Int)) := (af HR6.out.sq 0).trans rfl; obtain ⟨uo, hco⟩ : ∃ uo, w6.cell? ⟨w.heap.size + 1 + 1, i, none⟩ = some uo := ⟨_, (af h2 i).trans (Array.getElem?_eq_getElem (by omega))⟩; have hfo : w6.frozen? ⟨w.heap.size + 1 + 1, i, none⟩ = false := aN h2 i; have hlt6 : w.heap.size + 1 + 1 < w6.heap.size := bW h2; have hlt7 : w1.heap.size < w6.heap.size := bW HR6.out.sq; (have hi4 : i < fu.length := by omega); (have hi5 : (i : Int) < (fu.length : Int) := by omega); clear h1 h2 h3 h4; refine KP ?_; go_region_with (fail)
      all_goals
       have hV : (w6.setCell ⟨w.heap.size + 1 + 1, i, none⟩ (.slice (some ⟨w6.heap.size, 0, none⟩) T.length T.length)).heap.size = w6.heap.size := by simp
       have hmade := Y8 (w6.setCell ⟨w.heap.size + 1 + 1, i, none⟩ (.slice (some ⟨w6.heap.size, 0, none⟩) T.length T.length)) T.length w6.heap.size (by omega) (by rw [hV]; exact Nat.le_refl _)
       rw [hV] at hmade
       have hxo : (((w6.setCell ⟨w.heap.size + 1 + 1, i, none⟩ (.slice (some ⟨w6.heap.size, 0, none⟩) T.length T.length)).alloc (.cells (madeCells #[.int .u8 0] T.length) 5)).drew).heap[w.heap.size + 1 + 1]? = some (.cells (cs.setIfInBounds i (.slice (some ⟨w6.heap.size, 0, none⟩) T.length T.length)) 88 (0, 0)) :=
        dP (cz (heap_setCell_same w6 _ i _ _ _ HC6.out) _)
       have hxb : ∀ k, k < w6.heap.size → k ≠ w.heap.size + 1 + 1 → (((w6.setCell ⟨w.heap.size + 1 + 1, i, none⟩ (.slice (some ⟨w6.heap.size, 0, none⟩) T.length T.length)).alloc (.cells (madeCells #[.int .u8 0] T.length) 5)).drew).heap[k]? = w6.heap[k]? := fun k hk hne => by
        have e1 := Below.heap_setCell w6 ⟨w.heap.size + 1 + 1, i, none⟩ (.slice (some ⟨w6.heap.size, 0, none⟩) T.length T.length) k hne; have e2 := (aD (Below.refl _ (w6.setCell ⟨w.heap.size + 1 + 1, i, none⟩ (.slice (some ⟨w6.heap.size, 0, none⟩) T.length T.length))) (.cells (madeCells #[.int .u8 0] T.length) 5)).block k (by rw [hV]; exact hk); exact e2.trans e1
       have hxw : Below w.heap.size w (((w6.setCell ⟨w.heap.size + 1 + 1, i, none⟩ (.slice (some ⟨w6.heap.size, 0, none⟩) T.length T.length)).alloc (.cells (madeCells #[.int .u8 0] T.length) 5)).drew) :=
        eF (aD (df HM6.out.below (by omega)) _)
       have hxR := Kd.uK hmade
       have hxs : w6.heap.size < (((w6.setCell ⟨w.heap.size + 1 + 1, i, none⟩ (.slice (some ⟨w6.heap.size, 0, none⟩) T.length T.length)).alloc (.cells (madeCells #[.int .u8 0] T.length) 5)).drew).heap.size := by
        simp [World.drew]
       obtain ⟨X, hX⟩ : ∃ X, X = (((w6.setCell ⟨w.heap.size + 1 + 1, i, none⟩ (.slice (some ⟨w6.heap.size, 0, none⟩) T.length T.length)).alloc (.cells (madeCells #[.int .u8 0] T.length) 5)).drew) := ⟨_, rfl⟩
       rw [← hX] at hxo hxb hxw hxR hxs ⊢
       have hWw := HR.out.below.size
       have hlt0' : w.heap.size + 1 + 1 < w1.heap.size := hlt0
       have hxT : Kd.R (Kd.int .u8) 5 X W.heap.size (fun _ => True) (.slice A14 T.length c14) T := Kd.cO (Kd.uR (Kd.ko Q1.out) (fun k hk => hxb k hk.2.2.1 (by have := hk.2.1; omega))) (fun _ _ => trivial)
       have HXC := aa.mk (Kd.eU hxT).2.2
       have HXR := aa.mk hxR
       have HXB := aa.mk hxb
       have HXO := aa.mk hxo
       have HXW := aa.mk hxw
       have hsq' : X.cell? ⟨w1.heap.size, 0, none⟩ = some (.int .i64 (i : Int)) := (af ((hxb _ hlt7 (by omega)).trans HR6.out.sq) 0).trans rfl
       have hxv : X.cell? ⟨w.heap.size + 1 + 1, i, none⟩ = some (.slice (some ⟨w6.heap.size, 0, none⟩) T.length T.length) := by
        obtain ⟨cs', fo', g1, g2, _⟩ := HM6.out.rows; rw [HC6.out] at g2; injection g2 with g2; injection g2 with g2; subst g2; rw [af hxo i]; simp [g1, hi4]
       have hWD : W.heap[D]? = some (.deferred (some [])) := HKD.out
       have HDL := aa.mk (show D < w6.heap.size by have := bW hWD; have := Q2.out.size; omega)
       have HXD := aa.mk ((hxb D HDL.out (by have := HDS.out; omega)).trans ((Q2.out.block D (bW hWD)).trans hWD))
       clear hV hmade hxo hxb hxw hxR hX hsq hco hfo hxT hWD hms
       refine N9 ?_
       go_wp2_with (refine Kd.Yo (enc := Value.int .u8) 0 (w0 := X) w6.heap.size rfl (.tmp 104) (.tmp 105) 88 88 5 rfl Try.underlying88 (by kernel_rfl) (.slice (some ⟨w6.heap.size, 0, none⟩) T.length T.length) (List.replicate T.length 0) T A14 T.length c14 (fun k => k = w6.heap.size) rfl rfl HXR.out HXC.out (Below.refl _ _) (Nat.le_of_lt hxs) ?_; intro w8 r8 b8 g8; have R8 := aa.mk r8; have B8 := aa.mk b8; have G8 := aa.mk g8; clear r8 b8 g8)
       have hT8 : List.take (min T.length (List.replicate T.length (0 : Int)).length) T ++ List.drop (min T.length (List.replicate T.length (0 : Int)).length) (List.replicate T.length (0 : Int)) = T := by simp
       have r8 := R8.out
       rw [hT8, HTT.out] at r8
       have hx6 : w1.heap.size ≤ w6.heap.size := Nat.le_of_lt hlt7
       rw [zf i fu.length hi4 (by have := HV.out.2.2.2.1; omega)]
       refine Handed.intro g0 (by omega) (hJ _ _ _ ⟨_, _, _, _, _, _, _, _, _, _, _, _, _, _, _, _, _, _, _, _, _, _, _, _, _, _, _, _, _, _, _, _, _, _, _, _, _, _, _, _, _, _, _, _, _, _, _, _, _, _, _, _, _, _, _, _, _, _, _, _, _, _, _, _, _, _, _, _, _, _, _, _, _, _, _, _, _, _, _, _, _, _, _, _, _, _, _, _, _, _, _, _, _, _, _, i + 1, { target := .collected D, args := #[] } :: ds, by omega, rfl, ⟨rR.next hM.out hi4 (HXW.out.trans (B8.out.mono (by omega))) (fun k hk hne => (B8.out.block k (by omega)).trans ((HXB.out k (by omega) hne).trans (HR6.out.below.block k hk))) (fun cs' h' => ?_) rfl (by omega) (Kd.fI (Kd.cO r8 (fun _ _ => trivial)) hx6) ((B8.out.block D HDL.out).trans HXD.out) HDS.out⟩⟩)
       have e6 := (HR6.out.below.block _ hlt0').trans h'
       rw [HC6.out] at e6
       injection e6 with e6
       injection e6 with e6
       subst e6
       have hx9 := HXO.out
       rw [HTT.out] at hx9
       exact (B8.out.block _ hlt6).trans hx9
     ·intro x c kl yd yp w4 cnt2 hkey hlk hv hat hrg2 hlt2 hg2 hs2 hen; obtain ⟨x', ex, rfl, hwf⟩ := O8 hkey; (obtain rfl : x = x' := by simpa using ex); have HX := aa.mk (hC.out.step hlk ((HHAS.out x).symm.trans (Maps.has_true_of_atKey hat)) (wf_u8.1 hwf)); have hbw := hrow.out; (have hnr : ∀ k, u14.ownBlock = some k → k ≠ W.heap.size ∧ W.heap.size ≤ k := fun k e => ⟨((Kd.ko hrow.out).1 k e).1, ((Kd.ko hrow.out).1 k e).2.1⟩); have HO := aa.mk (Kd.F7 hrow.out hg2 (fun k hk e => hk (by injection e))); have HB4 := aa.mk (hB.out.grown hg2 (Nat.le_of_lt hlt.out) (fun j hj => by cases hj; exact Nat.le_refl _)); have HL4 := aa.mk (show W.heap.size < w4.heap.size by rw [hs2]; exact hlt.out); have HRG := aa.mk hrg2; have HNR := aa.mk hnr; have HLT := aa.mk hlt2; clear hkey hlk hv hat hrg2 hg2 hs2 hwf hbw hnr hlt2; (go_wp2_with (refine Kd.FN (Value.int .u8) 0 (w0 := W) W.heap.size rfl (.tmp 89) (.tmp 91) 88 5 (.int .u8 0) 1 rfl Try.underlying88 (by kernel_rfl) rfl (by decide) u14 ss [x] (some ⟨w4.heap.size, 0, none⟩) 1 1 (fun k => k ≠ W.heap.size) rfl rfl (fun k hk => by have := HL4.out; simp at hk; omega) (Kd.eX HO.out (aD (Below.refl _ _) _)) (ZJ ((World.cell?_alloc_at _ _ _ _ rfl).trans rfl)) (aD HB4.out _) (by have := HL4.out; simp; omega) (by omega) ?_; intro v1 w5 hr5 hb5 hg5 hat5)); have HRG5 := aa.mk ((HRG.out.alloc _).kept hg5 (fun e => by have := (HNR.out _ e.symm).2; omega) (fun e => (HNR.out _ e.symm).1 rfl)); have hs5 := hg5.size; go_roundg cnt2; (case measure => exact HLT.out); case rel => exact ⟨_, ss ++ [x], HRG5, ⟨by have := hcs.out; have := HLT.out; simp; omega⟩, ⟨hr5⟩, HX, ⟨hb5⟩, ⟨by have := HL4.out; simp at hs5; omega⟩⟩
   case stop =>
    rintro D c pre W _ _ h _; exact h.elim
end Go.Proofs.Ytihedeofkhapiaa.Pr
end
section
namespace Go.Proofs.Ytihedeofkhapiaa.Pr
open Go.RowKit Go.Proofs.YtihedeofkhapiaaW.PrintWords Go.Proofs.YtihedeofkhapiaaW.PrintLast Go.Proofs.YtihedeofkhapiaaW.PrintMore
attribute [local go_sem] nQ nT qp qo oH oI qJ qx
mutual
def bq.l0 : Nat → Int → Int → List (List Int) → Int → Int → List (S66) → Int → Int → Int → List (List (S27)) → Option (Int × Int × Int)
 | 0, _, _, _, _, _, _, _, _, _, _ => none
 | k + 1, x2, x3, x25, x26, x27, ni, mZ, mV, mR, nk => if x27 < x26 then (if 0 ≤ x27 then (if x27 < (x25.length : Int) then (bq.l1 k x2 x3 x27 0 x25 x26 x27 (iY x25 x27) ((iY x25 x27).length : Int) 0 ni mZ mV mR nk) else (none)) else (none)) else (some (x2, x3, 0))
def bq.l1 : Nat → Int → Int → Int → Int → List (List Int) → Int → Int → List Int → Int → Int → List (S66) → Int → Int → Int → List (List (S27)) → Option (Int × Int × Int)
 | 0, _, _, _, _, _, _, _, _, _, _, _, _, _, _, _ => none
 | k + 1, x2, x3, x7, x9, x25, x26, x27, x32, x33, x34, ni, mZ, mV, mR, nk => if x34 < x33 then (if 0 ≤ x34 then (if x34 < (x32.length : Int) then ((dG.f x7 (rd x32 x34) ni mZ mV mR nk).bind fun oW => (bq.l2 k x2 x3 x7 x9 0 x25 x26 x27 x32 x33 x34 oW (oW.length : Int) 0 ni mZ mV mR nk)) else (none)) else (none)) else (if x7 = 0 then (bq.l0 k x7 x9 x25 x26 (wrap64 (x27 + 1)) ni mZ mV mR nk) else (if x9 < x3 then (bq.l0 k x7 x9 x25 x26 (wrap64 (x27 + 1)) ni mZ mV mR nk) else (bq.l0 k x2 x3 x25 x26 (wrap64 (x27 + 1)) ni mZ mV mR nk)))
def bq.l2 : Nat → Int → Int → Int → Int → Int → List (List Int) → Int → Int → List Int → Int → Int → List (List Int) → Int → Int → List (S66) → Int → Int → Int → List (List (S27)) → Option (Int × Int × Int)
 | 0, _, _, _, _, _, _, _, _, _, _, _, _, _, _, _, _, _, _, _ => none
 | k + 1, x2, x3, x7, x9, x12, x25, x26, x27, x32, x33, x34, x42, x43, x44, ni, mZ, mV, mR, nk => if x44 < x43 then (if 0 ≤ x44 then (if x44 < (x42.length : Int) then (if x44 = x7 then (bq.l2 k x2 x3 x7 x9 x12 x25 x26 x27 x32 x33 x34 x42 x43 (wrap64 (x44 + 1)) ni mZ mV mR nk) else (bq.l2 k x2 x3 x7 x9 (wrap64 (x12 + ((iY x42 x44).length : Int))) x25 x26 x27 x32 x33 x34 x42 x43 (wrap64 (x44 + 1)) ni mZ mV mR nk)) else (none)) else (none)) else (bq.l1 k x2 x3 x7 (mx x9 x12) x25 x26 x27 x32 x33 (wrap64 (x34 + 1)) ni mZ mV mR nk)
end
def bq.f (k : Nat) (aU : List (S66)) (aY : Int) (bI : Int) (bT : Int) (aV : List (List (S27))) : Option (Int × Int × Int) := (fB.f aU aY bI bT aV).bind fun CF => (if CF.2 = 0 then ((dG.f (-1) 0 aU aY bI bT aV).bind fun gJ => (bq.l0 k 0 0 gJ (gJ.length : Int) 0 aU aY bI bT aV)) else (some (0, 0, CF.2)))
theorem bq.gK : ∀ k, (∀ y0 y1 y2 y3 y4 y5 y6 y7 y8 y9, LeO (bq.l0 k y0 y1 y2 y3 y4 y5 y6 y7 y8 y9) (bq.l0 (k + 1) y0 y1 y2 y3 y4 y5 y6 y7 y8 y9)) ∧ (∀ y0 y1 y2 y3 y4 y5 y6 y7 y8 y9 y10 y11 y12 y13 y14, LeO (bq.l1 k y0 y1 y2 y3 y4 y5 y6 y7 y8 y9 y10 y11 y12 y13 y14) (bq.l1 (k + 1) y0 y1 y2 y3 y4 y5 y6 y7 y8 y9 y10 y11 y12 y13 y14)) ∧ (∀ y0 y1 y2 y3 y4 y5 y6 y7 y8 y9 y10 y11 y12 y13 y14 y15 y16 y17 y18, LeO (bq.l2 k y0 y1 y2 y3 y4 y5 y6 y7 y8 y9 y10 y11 y12 y13 y14 y15 y16 y17 y18) (bq.l2 (k + 1) y0 y1 y2 y3 y4 y5 y6 y7 y8 y9 y10 y11 y12 y13 y14 y15 y16 y17 y18))
 | 0 => ⟨fun _ _ _ _ _ _ _ _ _ _ r h => by simp [bq.l0] at h, fun _ _ _ _ _ _ _ _ _ _ _ _ _ _ _ r h => by simp [bq.l1] at h, fun _ _ _ _ _ _ _ _ _ _ _ _ _ _ _ _ _ _ _ r h => by simp [bq.l2] at h⟩
 | k + 1 => by
  obtain ⟨ih0, ih1, ih2⟩ := bq.gK k; refine ⟨?_, ?_, ?_⟩
  ·intro y0 y1 y2 y3 y4 y5 y6 y7 y8 y9; unfold bq.l0
   repeat' first | (with_reducible exact ih1 _ _ _ _ _ _ _ _ _ _ _ _ _ _ _) | (with_reducible exact LeO.refl _) | (with_reducible refine LeO.ite ?_ ?_)
  ·intro y0 y1 y2 y3 y4 y5 y6 y7 y8 y9 y10 y11 y12 y13 y14; unfold bq.l1
   repeat' first | (with_reducible exact ih0 _ _ _ _ _ _ _ _ _ _) | (with_reducible exact ih2 _ _ _ _ _ _ _ _ _ _ _ _ _ _ _ _ _ _ _) | (with_reducible exact LeO.refl _) | (with_reducible refine LeO.ite ?_ ?_) | (with_reducible refine LeO.bind ?_ (fun _ => ?_))
  ·intro y0 y1 y2 y3 y4 y5 y6 y7 y8 y9 y10 y11 y12 y13 y14 y15 y16 y17 y18; unfold bq.l2
   repeat' first | (with_reducible exact ih1 _ _ _ _ _ _ _ _ _ _ _ _ _ _ _) | (with_reducible exact ih2 _ _ _ _ _ _ _ _ _ _ _ _ _ _ _ _ _ _ _) | (with_reducible exact LeO.refl _) | (with_reducible refine LeO.ite ?_ ?_)
theorem bq.mono : ∀ a0 a1 a2 a3 a4 k, LeO (bq.f k a0 a1 a2 a3 a4) (bq.f (k + 1) a0 a1 a2 a3 a4) := by
 intro a0 a1 a2 a3 a4 k; obtain ⟨ih0, ih1, ih2⟩ := bq.gK k; unfold bq.f
 repeat' first | (with_reducible exact ih0 _ _ _ _ _ _ _ _ _ _) | (with_reducible exact LeO.refl _) | (with_reducible refine LeO.ite ?_ ?_) | (with_reducible refine LeO.bind ?_ (fun _ => ?_))
set_option maxHeartbeats 8000000 in
set_option maxRecDepth 100000 in
theorem bq.calls (k : Nat) (eD : Option Addr) (dR : Nat) (aU : List (S66)) (aY : Int) (bI : Int) (bT : Int) (ek : Option Addr) (dQ : Nat) (aV : List (List (S27))) (r1 : Int) (r2 : Int) (r3 : Int) (w : World) (mO : Kd.C k66 w eD aU.length aU) (ou : aU.length ≤ dR) (mP : Kd.C (Kd.slice 27 k27) w ek aV.length aV) (oD : aV.length ≤ dQ) (h : bq.f k aU aY bI bT aV = some (r1, r2, r3)) :
 Calls Try.prog 45 #[.agg #[.slice eD aU.length dR, .int .i64 aY, .int .i64 bI, .int .i64 bT, .slice ek aV.length dQ]] w fun e w' => e = .returned (.tuple #[.int .i64 r1, .int .i64 r2, .int .i64 r3]) ∧ Below w.heap.size w w' := by
 have hu25 := Try.underlying25; have hu100 := Try.underlying100; have qR := aa.mk mO; have uu := aa.mk ou; clear mO ou; have qU := aa.mk mP; have uh := aa.mk oD; clear mP oD; have HB := aa.mk (Below.refl w.heap.size w); have H : ((fB.f aU aY bI bT aV).bind fun CF => (if CF.2 = 0 then ((dG.f (-1) 0 aU aY bI bT aV).bind fun gJ => (bq.l0 k 0 0 gJ (gJ.length : Int) 0 aU aY bI bT aV)) else (some (0, 0, CF.2)))) = some (r1, r2, r3) := h; clear h; replace H := Option.bind_eq_some_iff.mp H; obtain ⟨⟨Wx, DR⟩, A20, H⟩ := H; dsimp only at H; have A2 := aa.mk A20; clear A20; by_cases c3 : DR = 0
 ·rw [if_pos c3] at H; have vD : (DR == 0) = true := beq_iff_eq.mpr c3; have Em : (DR != 0) = false := bne_eq_false_iff_eq.mpr c3; clear c3; replace H := Option.bind_eq_some_iff.mp H; obtain ⟨gJ, A40, H⟩ := H; have A4 := aa.mk A40; clear A40; have H' := aa.mk H; clear H; go_enter Try.func45, Try.ntmps45; (go_wp2_with (first | ((with_reducible refine dm (N := 1) rfl ?_); refine dD ?hg (N := 1) ?hd (cs := #[.slice eD aU.length dR, .int .i64 aY, .int .i64 bI, .int .i64 bT, .slice ek aV.length dQ]) (t := 25) ?hr ?_; (case hd => rfl); (case hg => rfl); (case hr => (go_simp; done)); intro vz hg w5 hbox hb; have iZ := aa.mk (hbox); have YI := aa.mk ((by rw [hg]; exact (az (by exact HB.out)) : w.heap.size ≤ vz)); have YO := aa.mk ((by rw [hg]; exact (az (by exact HB.out)) : w.heap.size ≤ vz)); replace HB := aa.mk (ax (by exact HB.out) hb); clear hb hbox hg; obtain ⟨vG, wy, Da, CP, CE, vJ, vC, Cb, Cu, BV⟩ := cells5 iZ.out) | ((with_reducible refine bH (f := 58) rfl ?_); refine eO (some 17) rfl rfl Try.func58 (by kernel_rfl) rfl #[.agg #[.slice eD aU.length dR, .int .i64 aY, .int .i64 bI, .int .i64 bT, .slice ek aV.length dQ]] rfl (by (simp only [List.map_toArray, List.map_cons, List.map_nil]); rfl) ?_; (with_reducible refine (fB.calls _ _ aU aY bI bT _ _ aV Wx DR _ ?side1 ?side2 ?side3 ?side4 A2.out).mono ?_); (case side1 => repeat (exact (Kd.aX qR.out HB.out))); (case side2 => exact uu.out); (case side3 => repeat (exact (Kd.aX qU.out HB.out))); (case side4 => exact uh.out); rintro e w7 ⟨aaj, rfl, ho0, hb⟩; refine ⟨_, rfl, ?_⟩; have JR := aa.mk (Kd.fI ho0 (az (by exact HB.out))); replace iZ := aa.mk (au (bU iZ.out) hb); replace HB := aa.mk (ax (by exact HB.out) hb); clear hb; clear ho0; obtain ⟨CL, CO, FB, Kj, JP, Cc, Cs, Gm, Kk, Kr⟩ := cells5 iZ.out) | ((with_reducible refine bH (f := 59) rfl ?_); refine eO (some 25) rfl rfl Try.func59 (by kernel_rfl) rfl #[.agg #[.int .i64 (-1), .int .u8 0], .agg #[.slice eD aU.length dR, .int .i64 aY, .int .i64 bI, .int .i64 bT, .slice ek aV.length dQ]] rfl (by (simp only [List.map_toArray, List.map_cons, List.map_nil]); rfl) ?_; (with_reducible refine (dG.calls (-1) 0 _ _ aU aY bI bT _ _ aV gJ _ ?side1 ?side2 ?side3 ?side4 A4.out).mono ?_); (case side1 => repeat (exact (Kd.aX qR.out HB.out))); (case side2 => exact uu.out); (case side3 => repeat (exact (Kd.aX qU.out HB.out))); (case side4 => exact uh.out); rintro e w9 ⟨aix, rfl, ho0, hb⟩; refine ⟨_, rfl, ?_⟩; replace JR := aa.mk (Kd.eX (rU JR.out) hb); have PT := aa.mk (Kd.F4 ho0 (az (by exact HB.out))); replace iZ := aa.mk (au (bU iZ.out) hb); replace HB := aa.mk (ax (by exact HB.out) hb); clear hb; clear ho0; obtain ⟨om, nz, JY⟩ := Kd.rq PT.out; subst JY))); (go_loopg [2, 3, 27] k (fun kq v2 v3 v27 w' => ∃ (zt : Int) (wz : Int) (fF : Int), v2 = .int .i64 zt ∧ v3 = .int .i64 wz ∧ v27 = .int .i64 fF ∧ aa (bq.l0 kq zt wz gJ (gJ.length : Int) fF aU aY bI bT aV = some (r1, r2, r3)) ∧ aa (kq ≤ k) ∧ aa (Kd.S (Kd.slice 5 (Kd.int .u8)) 88 w' w.heap.size (fun _ => True) (.slice om gJ.length nz) gJ) ∧ aa (w'.heap[vz]? = some (.cells #[(.slice eD aU.length dR), .int .i64 aY, .int .i64 bI, .int .i64 bT, (.slice ek aV.length dQ)] 25 (0, 0))) ∧ aa (Below w.heap.size w w'))); case atStart => exact ⟨(0), (0), (0), (by rfl), (by rfl), (by rfl), H', ⟨Nat.le_refl _⟩, ⟨by exact PT.out⟩, ⟨by exact iZ.out⟩, ⟨by exact HB.out⟩⟩
  case round =>
   clear H' vD Em vG wy Da CP CE CL CO FB Kj JP vJ vC Cb Cu BV Cc Cs Gm Kk Kr iZ; obtain ⟨zt, wz, fF, rfl, rfl, rfl, HA, HK1, rF, iZ, HB⟩ := hrel
   cases gk with
   | zero => exact absurd HA.out (by simp [bq.l0])
   | succ k1 =>
    have H := HA.out; clear HA; simp only [bq.l0] at H; by_cases c11 : fF < (gJ.length : Int)
    ·rw [if_pos c11] at H; have EG : decide (fF < (gJ.length : Int)) = true := decide_eq_true c11; clear c11; by_cases c12 : 0 ≤ fF
     ·rw [if_pos c12] at H; have xn : decide (0 ≤ fF) = true := decide_eq_true c12; clear c12; by_cases c13 : fF < (gJ.length : Int)
      ·rw [if_pos c13] at H; have XL : decide (fF < (gJ.length : Int)) = true := decide_eq_true c13; clear c13; have H' := aa.mk H; clear H; have Ha : 0 ≤ (fF : Int) := of_decide_eq_true (by with_reducible assumption); have Jh : fF < (gJ.length : Int) := of_decide_eq_true (by with_reducible assumption); obtain ⟨Ku, A1028_0, c1028_0, e1028, Hw, Ho, Hg⟩ := LG (Kd.qD rF.out).2.2 fF Ha Jh; cases e1028; obtain ⟨ce1028, UJ, TA, L9⟩ := Kd.Ms rF.out [] fF Ha (by exact Jh); obtain ⟨ve1028_0, rfl, Eb⟩ := TA; have vR := L9 0 _ rfl; rw [Nat.add_zero, show ((Kd.slice 5 (Kd.int .u8))).sz = 1 from rfl, Nat.mul_one] at vR; replace vR := Option.some.inj (vR.symm.trans Hw); rw [vR] at Eb; have aaC := aa.mk (show Kd.R (Kd.int .u8) 5 _ _ _ _ (iY gJ fF) from Eb); clear vR Eb L9 UJ; have nS := aa.mk Hg; have acr := aa.mk Ho; clear Hg Ho; replace Ha := eq_true Ha; replace Jh := eq_true Jh; go_wp2; (go_loopg [9, 34] k1 (fun kq v9 v34 w' => ∃ (Bc : Int) (pX : Int), v9 = .int .i64 Bc ∧ v34 = .int .i64 pX ∧ aa (bq.l1 kq zt wz fF Bc gJ (gJ.length : Int) fF (iY gJ fF) ((iY gJ fF).length : Int) pX aU aY bI bT aV = some (r1, r2, r3)) ∧ aa (kq ≤ k1) ∧ aa (Kd.S (Kd.slice 5 (Kd.int .u8)) 88 w' w.heap.size (fun _ => True) (.slice (some Ku) gJ.length nz) gJ) ∧ aa (w'.heap[vz]? = some (.cells #[(.slice eD aU.length dR), .int .i64 aY, .int .i64 bI, .int .i64 bT, (.slice ek aV.length dQ)] 25 (0, 0))) ∧ aa (Kd.C (Kd.int .u8) w' A1028_0 (iY gJ fF).length (iY gJ fF)) ∧ aa (Below w.heap.size w w'))); case atStart => exact ⟨(0), (0), (by rfl), (by rfl), H', ⟨Nat.le_refl _⟩, ⟨by exact rF.out⟩, ⟨by exact iZ.out⟩, ⟨by exact nS.out⟩, ⟨by exact HB.out⟩⟩
       case round =>
        clear H' EG xn XL Hw Ha Jh iZ; obtain ⟨Bc, pX, rfl, rfl, HA, HK2, rF, iZ, nS, HB⟩ := hrel
        cases gk with
        | zero => exact absurd HA.out (by simp [bq.l1])
        | succ k2 =>
         have H := HA.out; clear HA; simp only [bq.l1] at H; by_cases c14 : pX < ((iY gJ fF).length : Int)
         ·rw [if_pos c14] at H; have Aq : decide (pX < ((iY gJ fF).length : Int)) = true := decide_eq_true c14; clear c14; by_cases c15 : 0 ≤ pX
          ·rw [if_pos c15] at H; have LM : decide (0 ≤ pX) = true := decide_eq_true c15; clear c15; by_cases c16 : pX < ((iY gJ fF).length : Int)
           ·rw [if_pos c16] at H; have Xo : decide (pX < ((iY gJ fF).length : Int)) = true := decide_eq_true c16; clear c16; replace H := Option.bind_eq_some_iff.mp H; obtain ⟨oW, aar, H⟩ := H; have A17 := aa.mk aar; clear aar; have H' := aa.mk H; clear H; have La : 0 ≤ (pX : Int) := of_decide_eq_true (by with_reducible assumption); have LP : pX < ((iY gJ fF).length : Int) := of_decide_eq_true (by with_reducible assumption); obtain ⟨Yz, e1029, Ol⟩ := Kd.zn nS.out pX La LP; cases e1029; replace La := eq_true La; replace LP := eq_true LP; obtain ⟨GL, GU, Gv, FO, Gg, GH, Gj, Ga, GJ, FE⟩ := cells5 iZ.out; (go_wp2_with (((with_reducible refine bH (f := 59) rfl ?_); refine eO (some 42) rfl rfl Try.func59 (by kernel_rfl) rfl #[.agg #[.int .i64 fF, .int .u8 (rd (iY gJ fF) pX)], .agg #[.slice eD aU.length dR, .int .i64 aY, .int .i64 bI, .int .i64 bT, .slice ek aV.length dQ]] rfl (by (simp only [List.map_toArray, List.map_cons, List.map_nil]); rfl) ?_; (with_reducible refine (dG.calls fF (rd (iY gJ fF) pX) _ _ aU aY bI bT _ _ aV oW _ ?side1 ?side2 ?side3 ?side4 A17.out).mono ?_); (case side1 => repeat (exact (Kd.aX qR.out HB.out))); (case side2 => exact uu.out); (case side3 => repeat (exact (Kd.aX qU.out HB.out))); (case side4 => exact uh.out); rintro e w19 ⟨aiG, rfl, ho0, hb⟩; refine ⟨_, rfl, ?_⟩; have PX := aa.mk (Kd.F4 (Kd.YN ho0 (Kd.agf (by exact rF.out))) (az (by exact HB.out))); replace rF := aa.mk (Kd.BS (by exact rF.out) (Kd.YW ho0) hb); replace iZ := aa.mk (au (bU iZ.out) hb); replace nS := aa.mk (Kd.aX (by exact nS.out) hb); replace HB := aa.mk (ax (by exact HB.out) hb); clear hb; clear ho0; obtain ⟨abg, acZ, agI⟩ := Kd.rq PX.out; subst agI))); (go_loopg [12, 44] k2 (fun kq v12 v44 w' => ∃ (Aa : Int) (kM : Int), v12 = .int .i64 Aa ∧ v44 = .int .i64 kM ∧ aa (bq.l2 kq zt wz fF Bc Aa gJ (gJ.length : Int) fF (iY gJ fF) ((iY gJ fF).length : Int) pX oW (oW.length : Int) kM aU aY bI bT aV = some (r1, r2, r3)) ∧ aa (kq ≤ k2) ∧ aa (Kd.S (Kd.slice 5 (Kd.int .u8)) 88 w' w.heap.size (fun k_ => some k_ ≠ ((.slice abg oW.length acZ) : Value).ownBlock) (.slice (some Ku) gJ.length nz) gJ) ∧ aa (Kd.S (Kd.slice 5 (Kd.int .u8)) 88 w' w.heap.size (fun k_ => some k_ ≠ ((.slice (some Ku) gJ.length nz) : Value).ownBlock) (.slice abg oW.length acZ) oW) ∧ aa (w'.heap[vz]? = some (.cells #[(.slice eD aU.length dR), .int .i64 aY, .int .i64 bI, .int .i64 bT, (.slice ek aV.length dQ)] 25 (0, 0))) ∧ aa (Kd.C (Kd.int .u8) w' (some Yz) (iY gJ fF).length (iY gJ fF)) ∧ aa (Below w.heap.size w w'))); case atStart => exact ⟨(0), (0), (by rfl), (by rfl), H', ⟨Nat.le_refl _⟩, ⟨by exact Kd.nu rF.out (fun _ hk => hk.2)⟩, ⟨by exact Kd.nu PX.out (fun _ hk => hk.2)⟩, ⟨by exact iZ.out⟩, ⟨by exact nS.out⟩, ⟨by exact HB.out⟩⟩
            case round =>
             clear H' Aq LM Xo GL GU Gv FO Gg GH Gj Ga GJ FE Ol La LP iZ; obtain ⟨Aa, kM, rfl, rfl, HA, HK3, rF, EB, iZ, nS, HB⟩ := hrel
             cases gk with
             | zero => exact absurd HA.out (by simp [bq.l2])
             | succ k3 =>
              have H := HA.out; clear HA; simp only [bq.l2] at H; by_cases c21 : kM < (oW.length : Int)
              ·rw [if_pos c21] at H; have adj : decide (kM < (oW.length : Int)) = true := decide_eq_true c21; clear c21; by_cases c22 : 0 ≤ kM
               ·rw [if_pos c22] at H; have aiH : decide (0 ≤ kM) = true := decide_eq_true c22; clear c22; by_cases c23 : kM < (oW.length : Int)
                ·rw [if_pos c23] at H; have aju : decide (kM < (oW.length : Int)) = true := decide_eq_true c23; clear c23; by_cases c24 : kM = fF
                 ·rw [if_pos c24] at H; have G6 : (kM == fF) = true := beq_iff_eq.mpr c24; have aao : (kM != fF) = false := bne_eq_false_iff_eq.mpr c24; clear c24; have H' := aa.mk H; clear H; have yw : 0 ≤ (kM : Int) := of_decide_eq_true (by with_reducible assumption); have yG : kM < (oW.length : Int) := of_decide_eq_true (by with_reducible assumption); obtain ⟨Zf, A1033_0, c1033_0, e1033, Ck, ww, vO⟩ := LG (Kd.qD EB.out).2.2 kM yw yG; cases e1033; obtain ⟨ce1033, Gz, F5, zg⟩ := Kd.Ms EB.out [] kM yw (by exact yG); obtain ⟨ve1033_0, rfl, rX⟩ := F5; have ng := zg 0 _ rfl; rw [Nat.add_zero, show ((Kd.slice 5 (Kd.int .u8))).sz = 1 from rfl, Nat.mul_one] at ng; replace ng := Option.some.inj (ng.symm.trans Ck); rw [ng] at rX; have R7 := aa.mk (show Kd.R (Kd.int .u8) 5 _ _ _ _ (iY oW kM) from rX); clear ng rX zg Gz; have R6 := aa.mk vO; have PG := aa.mk ww; clear vO ww; replace yw := eq_true yw; replace yG := eq_true yG; go_wp2; go_roundg k3; (case measure => have := HK1.out; have := HK2.out; have := HK3.out; omega); case rel => exact ⟨(Aa), (wrap64 (kM + 1)), (by rfl), (by rfl), H', ⟨by have := HK1.out; have := HK2.out; have := HK3.out; omega⟩, ⟨by exact rF.out⟩, ⟨by exact EB.out⟩, ⟨by exact iZ.out⟩, ⟨by exact nS.out⟩, ⟨by exact HB.out⟩⟩
                 ·rw [if_neg c24] at H; have G6 : (kM == fF) = false := beq_eq_false_iff_ne.mpr c24; have aao : (kM != fF) = true := bne_iff_ne.mpr c24; have H' := aa.mk H; clear H; have yw : 0 ≤ (kM : Int) := of_decide_eq_true (by with_reducible assumption); have yG : kM < (oW.length : Int) := of_decide_eq_true (by with_reducible assumption); obtain ⟨Zf, A1033_0, c1033_0, e1033, Ck, ww, vO⟩ := LG (Kd.qD EB.out).2.2 kM yw yG; cases e1033; obtain ⟨ce1033, Gz, F5, zg⟩ := Kd.Ms EB.out [] kM yw (by exact yG); obtain ⟨ve1033_0, rfl, rX⟩ := F5; have ng := zg 0 _ rfl; rw [Nat.add_zero, show ((Kd.slice 5 (Kd.int .u8))).sz = 1 from rfl, Nat.mul_one] at ng; replace ng := Option.some.inj (ng.symm.trans Ck); rw [ng] at rX; have R7 := aa.mk (show Kd.R (Kd.int .u8) 5 _ _ _ _ (iY oW kM) from rX); clear ng rX zg Gz; have R6 := aa.mk vO; have PG := aa.mk ww; clear vO ww; replace yw := eq_true yw; replace yG := eq_true yG; go_wp2; go_roundg k3; (case measure => have := HK1.out; have := HK2.out; have := HK3.out; omega); case rel => exact ⟨(wrap64 (Aa + ((iY oW kM).length : Int))), (wrap64 (kM + 1)), (by rfl), (by rfl), H', ⟨by have := HK1.out; have := HK2.out; have := HK3.out; omega⟩, ⟨by exact rF.out⟩, ⟨by exact EB.out⟩, ⟨by exact iZ.out⟩, ⟨by exact nS.out⟩, ⟨by exact HB.out⟩⟩
                ·rw [if_neg c23] at H; exact absurd H (by simp)
               ·rw [if_neg c22] at H; exact absurd H (by simp)
              ·rw [if_neg c21] at H; have adj : decide (kM < (oW.length : Int)) = false := decide_eq_false c21; clear c21; obtain ⟨Ze, WB⟩ : ∃ j_ : Int, (mx Bc Aa) = j_ := ⟨_, rfl⟩; (replace H : (bq.l1 k3 zt wz fF Ze gJ (gJ.length : Int) fF (iY gJ fF) ((iY gJ fF).length : Int) (wrap64 (pX + 1)) aU aY bI bT aV) = some (r1, r2, r3) := by (rw [WB] at H; exact H)); have agF : (if Bc < Aa then Aa else Bc) = Ze := WB; have H' := aa.mk H; clear H; go_wp2; go_roundg k3; (case measure => have := HK1.out; have := HK2.out; have := HK3.out; omega); case rel => exact ⟨(Ze), (wrap64 (pX + 1)), (by rfl), (by rfl), H', ⟨by have := HK1.out; have := HK2.out; have := HK3.out; omega⟩, ⟨by exact Kd.nu rF.out (fun _ hk => trivial)⟩, ⟨by exact iZ.out⟩, ⟨by exact nS.out⟩, ⟨by exact HB.out⟩⟩
           ·rw [if_neg c16] at H; exact absurd H (by simp)
          ·rw [if_neg c15] at H; exact absurd H (by simp)
         ·rw [if_neg c14] at H; have Aq : decide (pX < ((iY gJ fF).length : Int)) = false := decide_eq_false c14; clear c14; by_cases c26 : fF = 0
          ·rw [if_pos c26] at H; have abY : (fF == 0) = true := beq_iff_eq.mpr c26; have abG : (fF != 0) = false := bne_eq_false_iff_eq.mpr c26; clear c26; have H' := aa.mk H; clear H; go_wp2; go_roundg k2; (case measure => have := HK1.out; have := HK2.out; omega); case rel => exact ⟨(fF), (Bc), (wrap64 (fF + 1)), (by rfl), (by rfl), (by rfl), H', ⟨by have := HK1.out; have := HK2.out; omega⟩, ⟨by exact rF.out⟩, ⟨by exact iZ.out⟩, ⟨by exact HB.out⟩⟩
          ·rw [if_neg c26] at H; have abY : (fF == 0) = false := beq_eq_false_iff_ne.mpr c26; have abG : (fF != 0) = true := bne_iff_ne.mpr c26; by_cases c27 : Bc < wz
           ·rw [if_pos c27] at H; have aaV : decide (Bc < wz) = true := decide_eq_true c27; clear c27; have H' := aa.mk H; clear H; go_wp2; go_roundg k2; (case measure => have := HK1.out; have := HK2.out; omega); case rel => exact ⟨(fF), (Bc), (wrap64 (fF + 1)), (by rfl), (by rfl), (by rfl), H', ⟨by have := HK1.out; have := HK2.out; omega⟩, ⟨by exact rF.out⟩, ⟨by exact iZ.out⟩, ⟨by exact HB.out⟩⟩
           ·rw [if_neg c27] at H; have aaV : decide (Bc < wz) = false := decide_eq_false c27; clear c27; have H' := aa.mk H; clear H; go_wp2; go_roundg k2; (case measure => have := HK1.out; have := HK2.out; omega); case rel => exact ⟨(zt), (wz), (wrap64 (fF + 1)), (by rfl), (by rfl), (by rfl), H', ⟨by have := HK1.out; have := HK2.out; omega⟩, ⟨by exact rF.out⟩, ⟨by exact iZ.out⟩, ⟨by exact HB.out⟩⟩
      ·rw [if_neg c13] at H; exact absurd H (by simp)
     ·rw [if_neg c12] at H; exact absurd H (by simp)
    ·rw [if_neg c11] at H; have EG : decide (fF < (gJ.length : Int)) = false := decide_eq_false c11; clear c11; simp only [Option.some.injEq, Prod.mk.injEq] at H; obtain ⟨rfl, rfl, rfl⟩ := H; go_wp2
     go_ret3
     exact ⟨by rfl, by exact HB.out⟩
 ·rw [if_neg c3] at H; have vD : (DR == 0) = false := beq_eq_false_iff_ne.mpr c3; have Em : (DR != 0) = true := bne_iff_ne.mpr c3; simp only [Option.some.injEq, Prod.mk.injEq] at H; obtain ⟨rfl, rfl, rfl⟩ := H; go_enter Try.func45, Try.ntmps45; go_wp2_with (first | ((with_reducible refine dm (N := 1) rfl ?_); refine dD ?hg (N := 1) ?hd (cs := #[.slice eD aU.length dR, .int .i64 aY, .int .i64 bI, .int .i64 bT, .slice ek aV.length dQ]) (t := 25) ?hr ?_; (case hd => rfl); (case hg => rfl); (case hr => (go_simp; done)); intro vz hg w28 hbox hb; have iZ := aa.mk (hbox); have YI := aa.mk ((by rw [hg]; exact (az (by exact HB.out)) : w.heap.size ≤ vz)); have YO := aa.mk ((by rw [hg]; exact (az (by exact HB.out)) : w.heap.size ≤ vz)); replace HB := aa.mk (ax (by exact HB.out) hb); clear hb hbox hg; obtain ⟨UK, V9, UY, afR, aeb, Uw, Vd, SS, ad1, aeo⟩ := cells5 iZ.out) | ((with_reducible refine bH (f := 58) rfl ?_); refine eO (some 17) rfl rfl Try.func58 (by kernel_rfl) rfl #[.agg #[.slice eD aU.length dR, .int .i64 aY, .int .i64 bI, .int .i64 bT, .slice ek aV.length dQ]] rfl (by (simp only [List.map_toArray, List.map_cons, List.map_nil]); rfl) ?_; (with_reducible refine (fB.calls _ _ aU aY bI bT _ _ aV Wx DR _ ?side1 ?side2 ?side3 ?side4 A2.out).mono ?_); (case side1 => repeat (exact (Kd.aX qR.out HB.out))); (case side2 => exact uu.out); (case side3 => repeat (exact (Kd.aX qU.out HB.out))); (case side4 => exact uh.out); rintro e w30 ⟨aaj, rfl, ho0, hb⟩; refine ⟨_, rfl, ?_⟩; have JR := aa.mk (Kd.fI ho0 (az (by exact HB.out))); replace iZ := aa.mk (au (bU iZ.out) hb); replace HB := aa.mk (ax (by exact HB.out) hb); clear hb; (clear ho0)))
  go_ret3
  exact ⟨by rfl, by exact HB.out⟩
def bM.l0 : Nat → List ByteArray → List (List Int) → Int → Int → Option (List ByteArray × Int)
 | 0, _, _, _, _ => none
 | k + 1, x6, x19, x20, x21 => if x21 < x20 then (if 0 ≤ x21 then (if x21 < (x19.length : Int) then (if x6.length < 8796093022208 then (bM.l0 k (x6 ++ [strOfNums (iY x19 x21)]) x19 x20 (wrap64 (x21 + 1))) else (none)) else (none)) else (none)) else (some (x6, 0))
def bM.f (k : Nat) (aU : List (S66)) (aY : Int) (bI : Int) (bT : Int) (aV : List (List (S27))) : Option (List ByteArray × Int) := (fB.f aU aY bI bT aV).bind fun IV => (if IV.2 = 0 then ((dG.f (-1) 0 aU aY bI bT aV).bind fun rG => (bM.l0 k ([] : List ByteArray) rG (rG.length : Int) 0)) else (some (([] : List ByteArray), IV.2)))
theorem bM.gK : ∀ k, (∀ y0 y1 y2 y3, LeO (bM.l0 k y0 y1 y2 y3) (bM.l0 (k + 1) y0 y1 y2 y3))
 | 0 => fun _ _ _ _ r h => by simp [bM.l0] at h
 | k + 1 => by
  have ih0 := bM.gK k
  ·intro y0 y1 y2 y3; unfold bM.l0
   repeat' first | (with_reducible exact ih0 _ _ _ _) | (with_reducible exact LeO.refl _) | (with_reducible refine LeO.ite ?_ ?_)
theorem bM.mono : ∀ a0 a1 a2 a3 a4 k, LeO (bM.f k a0 a1 a2 a3 a4) (bM.f (k + 1) a0 a1 a2 a3 a4) := by
 intro a0 a1 a2 a3 a4 k; have ih0 := bM.gK k; unfold bM.f
 repeat' first | (with_reducible exact ih0 _ _ _ _) | (with_reducible exact LeO.refl _) | (with_reducible refine LeO.ite ?_ ?_) | (with_reducible refine LeO.bind ?_ (fun _ => ?_))
set_option maxHeartbeats 8000000 in
set_option maxRecDepth 100000 in
theorem bM.calls (k : Nat) (eD : Option Addr) (dR : Nat) (aU : List (S66)) (aY : Int) (bI : Int) (bT : Int) (ek : Option Addr) (dQ : Nat) (aV : List (List (S27))) (r1 : List ByteArray) (r2 : Int) (w : World) (mO : Kd.C k66 w eD aU.length aU) (ou : aU.length ≤ dR) (mP : Kd.C (Kd.slice 27 k27) w ek aV.length aV) (oD : aV.length ≤ dQ) (h : bM.f k aU aY bI bT aV = some (r1, r2)) :
 Calls Try.prog 24 #[.agg #[.slice eD aU.length dR, .int .i64 aY, .int .i64 bI, .int .i64 bT, .slice ek aV.length dQ]] w fun e w' => ∃ v0_ : Value, e = .returned (.tuple #[v0_, .int .i64 r2]) ∧ Kd.R Kd.string 9 w' w.heap.size (fun _ => True) v0_ r1 ∧ Below w.heap.size w w' := by
 have hu25 := Try.underlying25; have hu100 := Try.underlying100; have qR := aa.mk mO; have uu := aa.mk ou; clear mO ou; have qU := aa.mk mP; have uh := aa.mk oD; clear mP oD; have HB := aa.mk (Below.refl w.heap.size w); have H : ((fB.f aU aY bI bT aV).bind fun IV => (if IV.2 = 0 then ((dG.f (-1) 0 aU aY bI bT aV).bind fun rG => (bM.l0 k ([] : List ByteArray) rG (rG.length : Int) 0)) else (some (([] : List ByteArray), IV.2)))) = some (r1, r2) := h; clear h; replace H := Option.bind_eq_some_iff.mp H; obtain ⟨⟨abV, Kn⟩, A20, H⟩ := H; dsimp only at H; have A2 := aa.mk A20; clear A20; by_cases c3 : Kn = 0
 ·rw [if_pos c3] at H; have vD : (Kn == 0) = true := beq_iff_eq.mpr c3; have Em : (Kn != 0) = false := bne_eq_false_iff_eq.mpr c3; clear c3; replace H := Option.bind_eq_some_iff.mp H; obtain ⟨rG, A40, H⟩ := H; have A4 := aa.mk A40; clear A40; have H' := aa.mk H; clear H; go_enter Try.func24, Try.ntmps24; (go_wp2_with (first | ((with_reducible refine dm (N := 1) rfl ?_); refine dD ?hg (N := 1) ?hd (cs := #[.slice eD aU.length dR, .int .i64 aY, .int .i64 bI, .int .i64 bT, .slice ek aV.length dQ]) (t := 25) ?hr ?_; (case hd => rfl); (case hg => rfl); (case hr => (go_simp; done)); intro E8 hg w5 hbox hb; have qP := aa.mk (hbox); have aaB := aa.mk ((by rw [hg]; exact (az (by exact HB.out)) : w.heap.size ≤ E8)); have adk := aa.mk ((by rw [hg]; exact (az (by exact HB.out)) : w.heap.size ≤ E8)); replace HB := aa.mk (ax (by exact HB.out) hb); clear hb hbox hg; obtain ⟨vG, wy, Da, CP, CE, vJ, vC, Cb, Cu, BV⟩ := cells5 qP.out) | ((with_reducible refine bH (f := 58) rfl ?_); refine eO (some 11) rfl rfl Try.func58 (by kernel_rfl) rfl #[.agg #[.slice eD aU.length dR, .int .i64 aY, .int .i64 bI, .int .i64 bT, .slice ek aV.length dQ]] rfl (by (simp only [List.map_toArray, List.map_cons, List.map_nil]); rfl) ?_; (with_reducible refine (fB.calls _ _ aU aY bI bT _ _ aV abV Kn _ ?side1 ?side2 ?side3 ?side4 A2.out).mono ?_); (case side1 => repeat (exact (Kd.aX qR.out HB.out))); (case side2 => exact uu.out); (case side3 => repeat (exact (Kd.aX qU.out HB.out))); (case side4 => exact uh.out); rintro e w7 ⟨ahC, rfl, ho0, hb⟩; refine ⟨_, rfl, ?_⟩; have RU := aa.mk (Kd.fI ho0 (az (by exact HB.out))); replace qP := aa.mk (au (bU qP.out) hb); replace HB := aa.mk (ax (by exact HB.out) hb); clear hb; clear ho0; obtain ⟨CL, CO, FB, Kj, JP, Cc, Cs, Gm, Kk, Kr⟩ := cells5 qP.out) | ((with_reducible refine bH (f := 59) rfl ?_); refine eO (some 19) rfl rfl Try.func59 (by kernel_rfl) rfl #[.agg #[.int .i64 (-1), .int .u8 0], .agg #[.slice eD aU.length dR, .int .i64 aY, .int .i64 bI, .int .i64 bT, .slice ek aV.length dQ]] rfl (by (simp only [List.map_toArray, List.map_cons, List.map_nil]); rfl) ?_; (with_reducible refine (dG.calls (-1) 0 _ _ aU aY bI bT _ _ aV rG _ ?side1 ?side2 ?side3 ?side4 A4.out).mono ?_); (case side1 => repeat (exact (Kd.aX qR.out HB.out))); (case side2 => exact uu.out); (case side3 => repeat (exact (Kd.aX qU.out HB.out))); (case side4 => exact uh.out); rintro e w9 ⟨akc, rfl, ho0, hb⟩; refine ⟨_, rfl, ?_⟩; replace RU := aa.mk (Kd.eX (rU RU.out) hb); have Xp := aa.mk (Kd.F4 ho0 (az (by exact HB.out))); replace qP := aa.mk (au (bU qP.out) hb); replace HB := aa.mk (ax (by exact HB.out) hb); clear hb; clear ho0; obtain ⟨om, nz, JY⟩ := Kd.rq Xp.out; subst JY))); (go_loopg [6, 21] k (fun kq v6 v21 w' => ∃ (kv : List ByteArray) (oG : Int), v21 = .int .i64 oG ∧ aa (bM.l0 kq kv rG (rG.length : Int) oG = some (r1, r2)) ∧ aa (kq ≤ k) ∧ aa (Kd.R Kd.string 9 w' w.heap.size (fun _ => True) v6 kv) ∧ aa (Kd.S (Kd.slice 5 (Kd.int .u8)) 88 w' w.heap.size (fun _ => True) (.slice om rG.length nz) rG) ∧ aa (w'.heap[E8]? = some (.cells #[(.slice eD aU.length dR), .int .i64 aY, .int .i64 bI, .int .i64 bT, (.slice ek aV.length dQ)] 25 (0, 0))) ∧ aa (Below w.heap.size w w'))); case atStart => exact ⟨(([] : List ByteArray)), (0), (by rfl), H', ⟨Nat.le_refl _⟩, ⟨by exact Kd.ul _ _ _ _ _⟩, ⟨by (with_reducible skip); exact Xp.out⟩, ⟨by (with_reducible skip); exact qP.out⟩, ⟨by exact HB.out⟩⟩
  case round =>
   clear H' vD Em vG wy Da CP CE CL CO FB Kj JP vJ vC Cb Cu BV Cc Cs Gm Kk Kr; obtain ⟨kv, oG, rfl, HA, HK1, NR, IU, qP, HB⟩ := hrel
   cases gk with
   | zero => exact absurd HA.out (by simp [bM.l0])
   | succ k1 =>
    have H := HA.out; clear HA; simp only [bM.l0] at H; by_cases c11 : oG < (rG.length : Int)
    ·rw [if_pos c11] at H; have EG : decide (oG < (rG.length : Int)) = true := decide_eq_true c11; clear c11; by_cases c12 : 0 ≤ oG
     ·rw [if_pos c12] at H; have xn : decide (0 ≤ oG) = true := decide_eq_true c12; clear c12; by_cases c13 : oG < (rG.length : Int)
      ·rw [if_pos c13] at H; have XL : decide (oG < (rG.length : Int)) = true := decide_eq_true c13; clear c13; by_cases c14 : kv.length < 8796093022208
       ·rw [if_pos c14] at H; have adr := aa.mk c14; clear c14; obtain ⟨aam, Qi⟩ : ∃ y_ : List ByteArray, y_ = (kv ++ [strOfNums (iY rG oG)]) := ⟨_, rfl⟩; (replace H : (bM.l0 k1 aam rG (rG.length : Int) (wrap64 (oG + 1))) = some (r1, r2) := by (rw [Qi]; with_reducible exact H)); have ab9 := aa.mk Qi; clear Qi; have H' := aa.mk H; clear H; have SX : 0 ≤ (oG : Int) := of_decide_eq_true (by with_reducible assumption); have Vq : oG < (rG.length : Int) := of_decide_eq_true (by with_reducible assumption); obtain ⟨ai1, A254_0, c254_0, e254, Tp, Ll, MR⟩ := LG (Kd.qD IU.out).2.2 oG SX Vq; cases e254; obtain ⟨ce254, Zc, Zz, Og⟩ := Kd.Ms IU.out [] oG SX (by exact Vq); obtain ⟨ve254_0, rfl, FI⟩ := Zz; have yA := Og 0 _ rfl; rw [Nat.add_zero, show ((Kd.slice 5 (Kd.int .u8))).sz = 1 from rfl, Nat.mul_one] at yA; replace yA := Option.some.inj (yA.symm.trans Tp); rw [yA] at FI; have Mc := aa.mk (show Kd.R (Kd.int .u8) 5 _ _ _ _ (iY rG oG) from FI); clear yA FI Og Zc; have UM := aa.mk MR; have adX := aa.mk Ll; clear MR Ll; replace SX := eq_true SX; replace Vq := eq_true Vq; have hcv15 := Kd.Pn (P := Try.prog) (A := A254_0) (c := c254_0) Try.underlying88 Try.underlying5 Try.underlying9 (by exact UM.out); (go_wp2_with (((with_reducible refine pg (b := .append) (xs := #[.tmp 25, .tmp 28]) rfl ?_); at_builtin; refine Kd.BZ Kd.string (w0 := w) w.heap.size rfl (.tmp 25) (.tmp 28) 48 9 (.string ⟨#[]⟩) 16 rfl Try.underlying48 aaI rfl (by decide) (by omega) u6 kv (strOfNums (iY rG oG)) [.string (strOfNums (iY rG oG))] (fun _ => True) (fun _ => False) rfl rfl ?aP (fun _ hk => hk.elim) ?aF ?aO ?aB ?aS ?aL ?_; (case aP => exact rfl); (case aB => exact (by exact HB.out)); (case aF => exact (fun _ _ => trivial)); (case aO => exact (rU NR.out)); (case aS => exact (az (by exact HB.out))); (case aL => have := adr.out; omega); intro akf w16 ho hb hg hat; rw [← ab9.out] at ho; replace IU := aa.mk (Kd.Gf (by (with_reducible skip); exact IU.out) (Kd.gF (rU NR.out)) (by decide) hg); replace qP := aa.mk (bP (bU qP.out) hg (Kd.mQ NR.out qP.out (by decide))); replace Mc := aa.mk (Kd.nZ (rU Mc.out) (Kd.gF (rU NR.out)) (by decide) hg); replace HB := aa.mk (hb); have abv := aa.mk (ho); clear NR ho hb hg hat))); go_roundg k1; (case measure => have := HK1.out; omega); case rel => exact ⟨(aam), (wrap64 (oG + 1)), (by rfl), H', ⟨by have := HK1.out; omega⟩, ⟨by (with_reducible skip); exact abv.out⟩, ⟨by (with_reducible skip); exact IU.out⟩, ⟨by (with_reducible skip); exact qP.out⟩, ⟨by exact HB.out⟩⟩
       ·rw [if_neg c14] at H; exact absurd H (by simp)
      ·rw [if_neg c13] at H; exact absurd H (by simp)
     ·rw [if_neg c12] at H; exact absurd H (by simp)
    ·rw [if_neg c11] at H; have EG : decide (oG < (rG.length : Int)) = false := decide_eq_false c11; clear c11; simp only [Option.some.injEq, Prod.mk.injEq] at H; obtain ⟨rfl, rfl⟩ := H; go_wp2
     go_ret2
     exact ⟨_, by rfl, by (with_reducible skip); exact NR.out, by exact HB.out⟩
 ·rw [if_neg c3] at H; have vD : (Kn == 0) = false := beq_eq_false_iff_ne.mpr c3; have Em : (Kn != 0) = true := bne_iff_ne.mpr c3; simp only [Option.some.injEq, Prod.mk.injEq] at H; obtain ⟨rfl, rfl⟩ := H; go_enter Try.func24, Try.ntmps24; go_wp2_with (first | ((with_reducible refine dm (N := 1) rfl ?_); refine dD ?hg (N := 1) ?hd (cs := #[.slice eD aU.length dR, .int .i64 aY, .int .i64 bI, .int .i64 bT, .slice ek aV.length dQ]) (t := 25) ?hr ?_; (case hd => rfl); (case hg => rfl); (case hr => (go_simp; done)); intro E8 hg w17 hbox hb; have qP := aa.mk (hbox); have aaB := aa.mk ((by rw [hg]; exact (az (by exact HB.out)) : w.heap.size ≤ E8)); have adk := aa.mk ((by rw [hg]; exact (az (by exact HB.out)) : w.heap.size ≤ E8)); replace HB := aa.mk (ax (by exact HB.out) hb); clear hb hbox hg; obtain ⟨GL, GU, Gv, FO, Gg, GH, Gj, Ga, GJ, FE⟩ := cells5 qP.out) | ((with_reducible refine bH (f := 58) rfl ?_); refine eO (some 11) rfl rfl Try.func58 (by kernel_rfl) rfl #[.agg #[.slice eD aU.length dR, .int .i64 aY, .int .i64 bI, .int .i64 bT, .slice ek aV.length dQ]] rfl (by (simp only [List.map_toArray, List.map_cons, List.map_nil]); rfl) ?_; (with_reducible refine (fB.calls _ _ aU aY bI bT _ _ aV abV Kn _ ?side1 ?side2 ?side3 ?side4 A2.out).mono ?_); (case side1 => repeat (exact (Kd.aX qR.out HB.out))); (case side2 => exact uu.out); (case side3 => repeat (exact (Kd.aX qU.out HB.out))); (case side4 => exact uh.out); rintro e w19 ⟨ahC, rfl, ho0, hb⟩; refine ⟨_, rfl, ?_⟩; have RU := aa.mk (Kd.fI ho0 (az (by exact HB.out))); replace qP := aa.mk (au (bU qP.out) hb); replace HB := aa.mk (ax (by exact HB.out) hb); clear hb; (clear ho0)))
  go_ret2
  exact ⟨_, by rfl, by exact Kd.ul _ _ _ _ _, by exact HB.out⟩
mutual
def cZ.l0 : Nat → ByteArray → List ByteArray → Int → Int → Option (ByteArray × Int)
 | 0, _, _, _, _ => none
 | k + 1, x6, x17, x18, x19 => if x19 < x18 then (if 0 ≤ x19 then (if x19 < (x17.length : Int) then (if ((jb ByteArray.empty x17 x19).size : Int) = 2 then (cZ.j1 k x6 (jb ByteArray.empty x17 x19) x17 x18 x19 ((jb ByteArray.empty x17 x19).size : Int) (((jb ByteArray.empty x17 x19).size : Int) == 2)) else (cZ.j1 k x6 (jb ByteArray.empty x17 x19) x17 x18 x19 ((jb ByteArray.empty x17 x19).size : Int) (((jb ByteArray.empty x17 x19).size : Int) == 3))) else (none)) else (none)) else (some (x6, 0))
def cZ.j1 : Nat → ByteArray → ByteArray → List ByteArray → Int → Int → Int → Bool → Option (ByteArray × Int)
 | 0, _, _, _, _, _, _, _ => none
 | k + 1, x6, x8, x17, x18, x19, x24, x25 => if x25 = true then (if 1 + x8.size ≤ 9223372036854775807 then (if ((⟨#[123]⟩ : ByteArray) ++ x8).size + 1 ≤ 9223372036854775807 then (if x6.size + (((⟨#[123]⟩ : ByteArray) ++ x8) ++ (⟨#[125]⟩ : ByteArray)).size ≤ 9223372036854775807 then (cZ.l0 k (x6 ++ (((⟨#[123]⟩ : ByteArray) ++ x8) ++ (⟨#[125]⟩ : ByteArray))) x17 x18 (wrap64 (x19 + 1))) else (none)) else (none)) else (none)) else (if x24 = 1 then (if x6.size + x8.size ≤ 9223372036854775807 then (cZ.l0 k (x6 ++ x8) x17 x18 (wrap64 (x19 + 1))) else (none)) else (if x6.size + 1 ≤ 9223372036854775807 then (cZ.l0 k (x6 ++ (⟨#[45]⟩ : ByteArray)) x17 x18 (wrap64 (x19 + 1))) else (none)))
end
def cZ.f (k : Nat) (aU : List (S66)) (aY : Int) (bI : Int) (bT : Int) (aV : List (List (S27))) : Option (ByteArray × Int) := (bM.f k aU aY bI bT aV).bind fun yE => (if yE.2 = 0 then (cZ.l0 k (⟨#[]⟩ : ByteArray) yE.1 (yE.1.length : Int) 0) else (some ((⟨#[]⟩ : ByteArray), yE.2)))
theorem cZ.gK : ∀ k, (∀ y0 y1 y2 y3, LeO (cZ.l0 k y0 y1 y2 y3) (cZ.l0 (k + 1) y0 y1 y2 y3)) ∧ (∀ y0 y1 y2 y3 y4 y5 y6, LeO (cZ.j1 k y0 y1 y2 y3 y4 y5 y6) (cZ.j1 (k + 1) y0 y1 y2 y3 y4 y5 y6))
 | 0 => ⟨fun _ _ _ _ r h => by simp [cZ.l0] at h, fun _ _ _ _ _ _ _ r h => by simp [cZ.j1] at h⟩
 | k + 1 => by
  obtain ⟨ih0, ih1⟩ := cZ.gK k; refine ⟨?_, ?_⟩
  ·intro y0 y1 y2 y3; unfold cZ.l0
   repeat' first | (with_reducible exact ih1 _ _ _ _ _ _ _) | (with_reducible exact LeO.refl _) | (with_reducible refine LeO.ite ?_ ?_)
  ·intro y0 y1 y2 y3 y4 y5 y6; unfold cZ.j1
   repeat' first | (with_reducible exact ih0 _ _ _ _) | (with_reducible exact LeO.refl _) | (with_reducible refine LeO.ite ?_ ?_)
theorem cZ.mono : ∀ a0 a1 a2 a3 a4 k, LeO (cZ.f k a0 a1 a2 a3 a4) (cZ.f (k + 1) a0 a1 a2 a3 a4) := by
 intro a0 a1 a2 a3 a4 k; obtain ⟨ih0, ih1⟩ := cZ.gK k; unfold cZ.f
 repeat' first | (with_reducible exact ih0 _ _ _ _) | (with_reducible exact bM.mono _ _ _ _ _ _) | (with_reducible exact LeO.refl _) | (with_reducible refine LeO.ite ?_ ?_) | (with_reducible refine LeO.bind ?_ (fun _ => ?_))
set_option maxHeartbeats 8000000 in
set_option maxRecDepth 100000 in
theorem cZ.calls (k : Nat) (eD : Option Addr) (dR : Nat) (aU : List (S66)) (aY : Int) (bI : Int) (bT : Int) (ek : Option Addr) (dQ : Nat) (aV : List (List (S27))) (r1 : ByteArray) (r2 : Int) (w : World) (mO : Kd.C k66 w eD aU.length aU) (ou : aU.length ≤ dR) (mP : Kd.C (Kd.slice 27 k27) w ek aV.length aV) (oD : aV.length ≤ dQ) (h : cZ.f k aU aY bI bT aV = some (r1, r2)) :
 Calls Try.prog 19 #[.agg #[.slice eD aU.length dR, .int .i64 aY, .int .i64 bI, .int .i64 bT, .slice ek aV.length dQ]] w fun e w' => e = .returned (.tuple #[.string r1, .int .i64 r2]) ∧ Below w.heap.size w w' := by
 have hu25 := Try.underlying25; have qR := aa.mk mO; have uu := aa.mk ou; clear mO ou; have qU := aa.mk mP; have uh := aa.mk oD; clear mP oD; have HB := aa.mk (Below.refl w.heap.size w); have H : ((bM.f k aU aY bI bT aV).bind fun yE => (if yE.2 = 0 then (cZ.l0 k (⟨#[]⟩ : ByteArray) yE.1 (yE.1.length : Int) 0) else (some ((⟨#[]⟩ : ByteArray), yE.2)))) = some (r1, r2) := h; clear h; replace H := Option.bind_eq_some_iff.mp H; obtain ⟨⟨jL, J2⟩, A20, H⟩ := H; dsimp only at H; have A2 := aa.mk A20; clear A20; by_cases c3 : J2 = 0
 ·rw [if_pos c3] at H; have vD : (J2 == 0) = true := beq_iff_eq.mpr c3; have Em : (J2 != 0) = false := bne_eq_false_iff_eq.mpr c3; clear c3; have H' := aa.mk H; clear H; go_enter Try.func19, Try.ntmps19; (go_wp2_with (first | ((with_reducible refine dm (N := 1) rfl ?_); refine dD ?hg (N := 1) ?hd (cs := #[.slice eD aU.length dR, .int .i64 aY, .int .i64 bI, .int .i64 bT, .slice ek aV.length dQ]) (t := 25) ?hr ?_; (case hd => rfl); (case hg => rfl); (case hr => (go_simp; done)); intro Dq hg w4 hbox hb; have su := aa.mk (hbox); have acj := aa.mk ((by rw [hg]; exact (az (by exact HB.out)) : w.heap.size ≤ Dq)); have aa6 := aa.mk ((by rw [hg]; exact (az (by exact HB.out)) : w.heap.size ≤ Dq)); replace HB := aa.mk (ax (by exact HB.out) hb); clear hb hbox hg; obtain ⟨JK, JJ, JM, YC, YB, KR, KM, Ke, ZE, Y3⟩ := cells5 su.out) | ((with_reducible refine bH (f := 24) rfl ?_); refine eO (some 11) rfl rfl Try.func24 (by kernel_rfl) rfl #[.agg #[.slice eD aU.length dR, .int .i64 aY, .int .i64 bI, .int .i64 bT, .slice ek aV.length dQ]] rfl (by (simp only [List.map_toArray, List.map_cons, List.map_nil]); rfl) ?_; (with_reducible refine (bM.calls k _ _ aU aY bI bT _ _ aV jL J2 _ ?side1 ?side2 ?side3 ?side4 A2.out).mono ?_); (case side1 => repeat (exact (Kd.aX qR.out HB.out))); (case side2 => exact uu.out); (case side3 => repeat (exact (Kd.aX qU.out HB.out))); (case side4 => exact uh.out); rintro e w6 ⟨ahT, rfl, ho0, hb⟩; refine ⟨_, rfl, ?_⟩; have OW := aa.mk (Kd.fI ho0 (az (by exact HB.out))); replace su := aa.mk (au (bU su.out) hb); replace HB := aa.mk (ax (by exact HB.out) hb); clear hb; clear ho0; obtain ⟨Ao7, co7, eo7⟩ := Kd.fO OW.out; subst eo7))); (go_loopg [6, 19] k (fun kq v6 v19 w' => ∃ (kv : ByteArray) (gq : Int), v6 = .string kv ∧ v19 = .int .i64 gq ∧ aa (cZ.l0 kq kv jL (jL.length : Int) gq = some (r1, r2)) ∧ aa (kq ≤ k) ∧ aa (Kd.R Kd.string 9 w' w.heap.size (fun _ => True) (.slice Ao7 jL.length co7) jL) ∧ aa (w'.heap[Dq]? = some (.cells #[(.slice eD aU.length dR), .int .i64 aY, .int .i64 bI, .int .i64 bT, (.slice ek aV.length dQ)] 25 (0, 0))) ∧ aa (Below w.heap.size w w'))); case atStart => exact ⟨((⟨#[]⟩ : ByteArray)), (0), (by rfl), (by rfl), H', ⟨Nat.le_refl _⟩, ⟨by (with_reducible skip); exact OW.out⟩, ⟨by (with_reducible skip); exact su.out⟩, ⟨by exact HB.out⟩⟩
  case round =>
   clear H' vD Em JK JJ JM YC YB KR KM Ke ZE Y3; obtain ⟨kv, gq, rfl, rfl, HA, HK1, Dm, su, HB⟩ := hrel
   cases gk with
   | zero => exact absurd HA.out (by simp [cZ.l0])
   | succ k1 =>
    have H := HA.out; clear HA; simp only [cZ.l0] at H; by_cases c8 : gq < (jL.length : Int)
    ·rw [if_pos c8] at H; have O4 : decide (gq < (jL.length : Int)) = true := decide_eq_true c8; clear c8; by_cases c9 : 0 ≤ gq
     ·rw [if_pos c9] at H; have Yp : decide (0 ≤ gq) = true := decide_eq_true c9; clear c9; by_cases c10 : gq < (jL.length : Int)
      ·rw [if_pos c10] at H; have zW : decide (gq < (jL.length : Int)) = true := decide_eq_true c10; clear c10; have Ya := aa.mk H; clear H; have Ta : 0 ≤ (gq : Int) := of_decide_eq_true (by with_reducible assumption); have U9 : gq < (jL.length : Int) := of_decide_eq_true (by with_reducible assumption); obtain ⟨aas, e263, Vf⟩ := Kd.wU (Kd.eU Dm.out).2.2 gq Ta U9; cases e263; replace Ta := eq_true Ta; replace U9 := eq_true U9; (go_upto_if 25 with (fail)); go_cut [25] (fun v25 wc => ∃ (kq : Nat) (Gl : Bool), v25 = .bool Gl ∧ aa (cZ.j1 kq kv (jb ByteArray.empty jL gq) jL (jL.length : Int) gq ((jb ByteArray.empty jL gq).size : Int) Gl = some (r1, r2)) ∧ aa (kq ≤ k1) ∧ aa (Kd.R Kd.string 9 wc w.heap.size (fun _ => True) (.slice (some aas) jL.length co7) jL) ∧ aa (wc.heap[Dq]? = some (.cells #[(.slice eD aU.length dR), .int .i64 aY, .int .i64 bI, .int .i64 bT, (.slice ek aV.length dQ)] 25 (0, 0))) ∧ aa (Below w.heap.size w wc))
       case first =>
        have H := Ya.out; clear Ya; by_cases c12 : ((jb ByteArray.empty jL gq).size : Int) = 2
        ·rw [if_pos c12] at H; have xn : (((jb ByteArray.empty jL gq).size : Int) == 2) = true := beq_iff_eq.mpr c12; have Mr : (((jb ByteArray.empty jL gq).size : Int) != 2) = false := bne_eq_false_iff_eq.mpr c12; clear c12; (rw [xn]); have H' := aa.mk H; clear H; go_wp2; go_meet; case rel => exact ⟨_, ((((jb ByteArray.empty jL gq).size : Int) == 2)), (by simp [*]; done), H', ⟨by have := HK1.out; omega⟩, ⟨by (with_reducible skip); exact Dm.out⟩, ⟨by (with_reducible skip); exact su.out⟩, ⟨by exact HB.out⟩⟩
        ·rw [if_neg c12] at H; have xn : (((jb ByteArray.empty jL gq).size : Int) == 2) = false := beq_eq_false_iff_ne.mpr c12; have Mr : (((jb ByteArray.empty jL gq).size : Int) != 2) = true := bne_iff_ne.mpr c12; (rw [xn]); have H' := aa.mk H; clear H; go_wp2; go_meet; case rel => exact ⟨_, ((((jb ByteArray.empty jL gq).size : Int) == 3)), (by rfl), H', ⟨by have := HK1.out; omega⟩, ⟨by (with_reducible skip); exact Dm.out⟩, ⟨by (with_reducible skip); exact su.out⟩, ⟨by exact HB.out⟩⟩
       case rest =>
        clear Ya O4 Yp zW Vf Ta U9; obtain ⟨kq, Gl, rfl, HA, HJ10, Dm, su, HB⟩ := hcut
        cases kq with
        | zero => exact absurd HA.out (by simp [cZ.j1])
        | succ kj10 =>
         have H := HA.out; clear HA; simp only [cZ.j1] at H; by_cases c13 : Gl = true
         ·subst c13; rw [if_pos rfl] at H; by_cases c14 : 1 + (jb ByteArray.empty jL gq).size ≤ 9223372036854775807
          ·rw [if_pos c14] at H; have Aq := eq_true c14; have Iw : decide (1 + (jb ByteArray.empty jL gq).size ≤ 9223372036854775807) = true := decide_eq_true c14; have aiz : (9223372036854775807 < 1 + (jb ByteArray.empty jL gq).size) = False := eq_false (Nat.not_lt.2 c14); by_cases c15 : ((⟨#[123]⟩ : ByteArray) ++ (jb ByteArray.empty jL gq)).size + 1 ≤ 9223372036854775807
           ·rw [if_pos c15] at H; (have PK : 1 + (jb ByteArray.empty jL gq).size + 1 ≤ 9223372036854775807 := by have h := c15; rw [ByteArray.size_append] at h; exact h); have ajw := eq_true PK; have aiZ : decide (1 + (jb ByteArray.empty jL gq).size + 1 ≤ 9223372036854775807) = true := decide_eq_true PK; have ait : (9223372036854775807 < 1 + (jb ByteArray.empty jL gq).size + 1) = False := eq_false (Nat.not_lt.2 PK); have LM := eq_true c15; have aiX : decide (((⟨#[123]⟩ : ByteArray) ++ (jb ByteArray.empty jL gq)).size + 1 ≤ 9223372036854775807) = true := decide_eq_true c15; have aiC : (9223372036854775807 < ((⟨#[123]⟩ : ByteArray) ++ (jb ByteArray.empty jL gq)).size + 1) = False := eq_false (Nat.not_lt.2 c15); by_cases c16 : kv.size + (((⟨#[123]⟩ : ByteArray) ++ (jb ByteArray.empty jL gq)) ++ (⟨#[125]⟩ : ByteArray)).size ≤ 9223372036854775807
            ·rw [if_pos c16] at H; (have PY : kv.size + (1 + (jb ByteArray.empty jL gq).size + 1) ≤ 9223372036854775807 := by have h := c16; rw [ByteArray.size_append, ByteArray.size_append] at h; exact h); have aiS := eq_true PY; have aiJ : decide (kv.size + (1 + (jb ByteArray.empty jL gq).size + 1) ≤ 9223372036854775807) = true := decide_eq_true PY; have ah8 : (9223372036854775807 < kv.size + (1 + (jb ByteArray.empty jL gq).size + 1)) = False := eq_false (Nat.not_lt.2 PY); have Xo := eq_true c16; have aiK : decide (kv.size + (((⟨#[123]⟩ : ByteArray) ++ (jb ByteArray.empty jL gq)) ++ (⟨#[125]⟩ : ByteArray)).size ≤ 9223372036854775807) = true := decide_eq_true c16; have aiN : (9223372036854775807 < kv.size + (((⟨#[123]⟩ : ByteArray) ++ (jb ByteArray.empty jL gq)) ++ (⟨#[125]⟩ : ByteArray)).size) = False := eq_false (Nat.not_lt.2 c16); have H' := aa.mk H; clear H; go_wp2; go_roundg kj10; (case measure => have := HK1.out; have := HJ10.out; omega); case rel => exact ⟨(kv ++ (((⟨#[123]⟩ : ByteArray) ++ (jb ByteArray.empty jL gq)) ++ (⟨#[125]⟩ : ByteArray))), (wrap64 (gq + 1)), (by rfl), (by rfl), H', ⟨by have := HK1.out; have := HJ10.out; omega⟩, ⟨by (with_reducible skip); exact Dm.out⟩, ⟨by (with_reducible skip); exact su.out⟩, ⟨by exact HB.out⟩⟩
            ·rw [if_neg c16] at H; exact absurd H (by simp)
           ·rw [if_neg c15] at H; exact absurd H (by simp)
          ·rw [if_neg c14] at H; exact absurd H (by simp)
         ·replace c13 := Bool.eq_false_iff.mpr c13; subst c13; rw [if_neg (show ¬ (false = true) by decide)] at H; by_cases c17 : ((jb ByteArray.empty jL gq).size : Int) = 1
          ·rw [if_pos c17] at H; have Ma : (((jb ByteArray.empty jL gq).size : Int) == 1) = true := beq_iff_eq.mpr c17; have acy : (((jb ByteArray.empty jL gq).size : Int) != 1) = false := bne_eq_false_iff_eq.mpr c17; clear c17; by_cases c18 : kv.size + (jb ByteArray.empty jL gq).size ≤ 9223372036854775807
           ·rw [if_pos c18] at H; have Hz := eq_true c18; have ai6 : decide (kv.size + (jb ByteArray.empty jL gq).size ≤ 9223372036854775807) = true := decide_eq_true c18; have air : (9223372036854775807 < kv.size + (jb ByteArray.empty jL gq).size) = False := eq_false (Nat.not_lt.2 c18); have H' := aa.mk H; clear H; go_wp2; go_roundg kj10; (case measure => have := HK1.out; have := HJ10.out; omega); case rel => exact ⟨(kv ++ (jb ByteArray.empty jL gq)), (wrap64 (gq + 1)), (by rfl), (by rfl), H', ⟨by have := HK1.out; have := HJ10.out; omega⟩, ⟨by (with_reducible skip); exact Dm.out⟩, ⟨by (with_reducible skip); exact su.out⟩, ⟨by exact HB.out⟩⟩
           ·rw [if_neg c18] at H; exact absurd H (by simp)
          ·rw [if_neg c17] at H; have Ma : (((jb ByteArray.empty jL gq).size : Int) == 1) = false := beq_eq_false_iff_ne.mpr c17; have acy : (((jb ByteArray.empty jL gq).size : Int) != 1) = true := bne_iff_ne.mpr c17; by_cases c19 : kv.size + 1 ≤ 9223372036854775807
           ·rw [if_pos c19] at H; have Wy := eq_true c19; have aia : decide (kv.size + 1 ≤ 9223372036854775807) = true := decide_eq_true c19; have ai9 : (9223372036854775807 < kv.size + 1) = False := eq_false (Nat.not_lt.2 c19); have H' := aa.mk H; clear H; go_wp2; go_roundg kj10; (case measure => have := HK1.out; have := HJ10.out; omega); case rel => exact ⟨(kv ++ (⟨#[45]⟩ : ByteArray)), (wrap64 (gq + 1)), (by rfl), (by rfl), H', ⟨by have := HK1.out; have := HJ10.out; omega⟩, ⟨by (with_reducible skip); exact Dm.out⟩, ⟨by (with_reducible skip); exact su.out⟩, ⟨by exact HB.out⟩⟩
           ·rw [if_neg c19] at H; exact absurd H (by simp)
      ·rw [if_neg c10] at H; exact absurd H (by simp)
     ·rw [if_neg c9] at H; exact absurd H (by simp)
    ·rw [if_neg c8] at H; have O4 : decide (gq < (jL.length : Int)) = false := decide_eq_false c8; clear c8; simp only [Option.some.injEq, Prod.mk.injEq] at H; obtain ⟨rfl, rfl⟩ := H; go_wp2
     go_ret2
     exact ⟨by rfl, by exact HB.out⟩
 ·rw [if_neg c3] at H; have vD : (J2 == 0) = false := beq_eq_false_iff_ne.mpr c3; have Em : (J2 != 0) = true := bne_iff_ne.mpr c3; simp only [Option.some.injEq, Prod.mk.injEq] at H; obtain ⟨rfl, rfl⟩ := H; go_enter Try.func19, Try.ntmps19; go_wp2_with (first | ((with_reducible refine dm (N := 1) rfl ?_); refine dD ?hg (N := 1) ?hd (cs := #[.slice eD aU.length dR, .int .i64 aY, .int .i64 bI, .int .i64 bT, .slice ek aV.length dQ]) (t := 25) ?hr ?_; (case hd => rfl); (case hg => rfl); (case hr => (go_simp; done)); intro Dq hg w20 hbox hb; have su := aa.mk (hbox); have acj := aa.mk ((by rw [hg]; exact (az (by exact HB.out)) : w.heap.size ≤ Dq)); have aa6 := aa.mk ((by rw [hg]; exact (az (by exact HB.out)) : w.heap.size ≤ Dq)); replace HB := aa.mk (ax (by exact HB.out) hb); clear hb hbox hg; obtain ⟨Uh, Tg, TC, adE, adC, VD, UU, SE, afV, aen⟩ := cells5 su.out) | ((with_reducible refine bH (f := 24) rfl ?_); refine eO (some 11) rfl rfl Try.func24 (by kernel_rfl) rfl #[.agg #[.slice eD aU.length dR, .int .i64 aY, .int .i64 bI, .int .i64 bT, .slice ek aV.length dQ]] rfl (by (simp only [List.map_toArray, List.map_cons, List.map_nil]); rfl) ?_; (with_reducible refine (bM.calls k _ _ aU aY bI bT _ _ aV jL J2 _ ?side1 ?side2 ?side3 ?side4 A2.out).mono ?_); (case side1 => repeat (exact (Kd.aX qR.out HB.out))); (case side2 => exact uu.out); (case side3 => repeat (exact (Kd.aX qU.out HB.out))); (case side4 => exact uh.out); rintro e w22 ⟨ahT, rfl, ho0, hb⟩; refine ⟨_, rfl, ?_⟩; have OW := aa.mk (Kd.fI ho0 (az (by exact HB.out))); replace su := aa.mk (au (bU su.out) hb); replace HB := aa.mk (ax (by exact HB.out) hb); clear hb; (clear ho0)))
  go_ret2
  exact ⟨by rfl, by exact HB.out⟩
def dF.f (k : Nat)  : Option (Bool) := (fJ.f).bind fun vv => ((bM.f k vv.1 vv.2.1 vv.2.2.1 vv.2.2.2.1 vv.2.2.2.2).bind fun Hq => ((fJ.f).bind fun wB => ((cZ.f k wB.1 wB.2.1 wB.2.2.1 wB.2.2.2.1 wB.2.2.2.2).bind fun IW => ((jU.f 1 (([(⟨15, 15⟩ : S27)] : List (S27)))).bind fun qI => ((oJ.f qI.1 qI.2.1 qI.2.2.1 qI.2.2.2.1 qI.2.2.2.2).bind fun AJ => (if Hq.2 = 0 then (if IW.2 = 0 then (if AJ.2 = 0 then (if AJ.1 = 1 then (if IW.1.toList = ([65, 123, 65, 76, 125, 84] : List UInt8) then ((bE.f k Hq.1 (([(⟨#[65]⟩ : ByteArray), (⟨#[65, 76]⟩ : ByteArray), (⟨#[84]⟩ : ByteArray)] : List ByteArray))).bind fun F6 => (some F6)) else (some false)) else (some false)) else (some false)) else (some false)) else (some false)))))))
theorem dF.mono : ∀ k, LeO (dF.f k ) (dF.f (k + 1) ) := by
 intro  k; unfold dF.f
 repeat' first | (with_reducible exact bE.mono _ _ _) | (with_reducible exact bM.mono _ _ _ _ _ _) | (with_reducible exact cZ.mono _ _ _ _ _ _) | (with_reducible exact LeO.refl _) | (with_reducible refine LeO.ite ?_ ?_) | (with_reducible refine LeO.bind ?_ (fun _ => ?_))
set_option maxRecDepth 100000 in
theorem R3 : dF.f 60 = some true := by decide +kernel
theorem JW {k : Nat} {r : Bool} (h : dF.f k = some r) : r = true := by
 have h1 := zH dF.mono (Nat.le_max_left k 60) h; have h2 := zH dF.mono (Nat.le_max_right k 60) R3; exact Option.some.inj (h1.symm.trans h2)
set_option maxHeartbeats 8000000 in
set_option maxRecDepth 100000 in
theorem dF.calls (k : Nat)  (r : Bool) (w : World) (h : dF.f k  = some r) :
 Calls Try.prog 14 #[] w fun e w' => e = .returned (.bool r) ∧ Below w.heap.size w w' := by
 have hrT := JW h; have hu27 := Try.underlying27; have HB := aa.mk (Below.refl w.heap.size w); have H : ((fJ.f).bind fun vv => ((bM.f k vv.1 vv.2.1 vv.2.2.1 vv.2.2.2.1 vv.2.2.2.2).bind fun Hq => ((fJ.f).bind fun wB => ((cZ.f k wB.1 wB.2.1 wB.2.2.1 wB.2.2.2.1 wB.2.2.2.2).bind fun IW => ((jU.f 1 (([(⟨15, 15⟩ : S27)] : List (S27)))).bind fun qI => ((oJ.f qI.1 qI.2.1 qI.2.2.1 qI.2.2.2.1 qI.2.2.2.2).bind fun AJ => (if Hq.2 = 0 then (if IW.2 = 0 then (if AJ.2 = 0 then (if AJ.1 = 1 then (if IW.1.toList = ([65, 123, 65, 76, 125, 84] : List UInt8) then ((bE.f k Hq.1 (([(⟨#[65]⟩ : ByteArray), (⟨#[65, 76]⟩ : ByteArray), (⟨#[84]⟩ : ByteArray)] : List ByteArray))).bind fun F6 => (some F6)) else (some false)) else (some false)) else (some false)) else (some false)) else (some false)))))))) = some r := h; clear h; replace H := Option.bind_eq_some_iff.mp H; obtain ⟨⟨Jv, X4, Yq, YR, KF⟩, A10, H⟩ := H; dsimp only at H; have A1 := aa.mk A10; clear A10; replace H := Option.bind_eq_some_iff.mp H; obtain ⟨⟨Vj, QO⟩, A20, H⟩ := H; dsimp only at H; have A2 := aa.mk A20; clear A20; replace H := Option.bind_eq_some_iff.mp H; obtain ⟨⟨Rj, YH, Zd, YY, QT⟩, A30, H⟩ := H; dsimp only at H; have A3 := aa.mk A30; clear A30; replace H := Option.bind_eq_some_iff.mp H; obtain ⟨⟨RX, OZ⟩, A40, H⟩ := H; dsimp only at H; have A4 := aa.mk A40; clear A40; obtain ⟨Ua, QN⟩ : ∃ y_ : List (S27), y_ = (([(⟨15, 15⟩ : S27)] : List (S27))) := ⟨_, rfl⟩; (replace H : ((jU.f 1 Ua).bind fun qI => ((oJ.f qI.1 qI.2.1 qI.2.2.1 qI.2.2.2.1 qI.2.2.2.2).bind fun AJ => (if QO = 0 then (if OZ = 0 then (if AJ.2 = 0 then (if AJ.1 = 1 then (if RX.toList = ([65, 123, 65, 76, 125, 84] : List UInt8) then ((bE.f k Vj (([(⟨#[65]⟩ : ByteArray), (⟨#[65, 76]⟩ : ByteArray), (⟨#[84]⟩ : ByteArray)] : List ByteArray))).bind fun F6 => (some F6)) else (some false)) else (some false)) else (some false)) else (some false)) else (some false)))) = some r := by (rw [QN]; with_reducible exact H)); have aaT := aa.mk QN; clear QN; replace H := Option.bind_eq_some_iff.mp H; obtain ⟨⟨XT, Yc, Zp, YP, ZK⟩, A50, H⟩ := H; dsimp only at H; have A5 := aa.mk A50; clear A50; replace H := Option.bind_eq_some_iff.mp H; obtain ⟨⟨Uc, Tq⟩, A60, H⟩ := H; dsimp only at H; have A6 := aa.mk A60; clear A60; by_cases c7 : QO = 0
 ·rw [if_pos c7] at H; have Qt : (QO == 0) = true := beq_iff_eq.mpr c7; have akh : (QO != 0) = false := bne_eq_false_iff_eq.mpr c7; clear c7; by_cases c8 : OZ = 0
  ·rw [if_pos c8] at H; have O4 : (OZ == 0) = true := beq_iff_eq.mpr c8; have ajz : (OZ != 0) = false := bne_eq_false_iff_eq.mpr c8; clear c8; by_cases c9 : Tq = 0
   ·rw [if_pos c9] at H; have Yp : (Tq == 0) = true := beq_iff_eq.mpr c9; have ajB : (Tq != 0) = false := bne_eq_false_iff_eq.mpr c9; clear c9; by_cases c10 : Uc = 1
    ·rw [if_pos c10] at H; have zW : (Uc == 1) = true := beq_iff_eq.mpr c10; have aiR : (Uc != 1) = false := bne_eq_false_iff_eq.mpr c10; clear c10; by_cases c11 : RX.toList = ([65, 123, 65, 76, 125, 84] : List UInt8)
     ·rw [if_pos c11] at H; have EG : (RX.toList == ([65, 123, 65, 76, 125, 84] : List UInt8)) = true := beq_iff_eq.mpr c11; have ajl : (RX.toList != ([65, 123, 65, 76, 125, 84] : List UInt8)) = false := bne_eq_false_iff_eq.mpr c11; clear c11; obtain ⟨ado, Rn⟩ : ∃ y_ : List ByteArray, y_ = (([(⟨#[65]⟩ : ByteArray), (⟨#[65, 76]⟩ : ByteArray), (⟨#[84]⟩ : ByteArray)] : List ByteArray)) := ⟨_, rfl⟩; (replace H : ((bE.f k Vj ado).bind fun F6 => (some F6)) = some r := by (rw [Rn]; with_reducible exact H)); have aa8 := aa.mk Rn; clear Rn; replace H := Option.bind_eq_some_iff.mp H; obtain ⟨F6, aat, H⟩ := H; have A12 := aa.mk aat; clear aat; obtain rfl := Option.some.inj H; go_enter Try.func14, Try.ntmps14; go_wp2_with (first | ((with_reducible refine bH (f := 48) rfl ?_); refine eO (some 8) rfl rfl Try.func48 (by kernel_rfl) rfl #[] rfl (by (simp only [List.map_toArray, List.map_cons, List.map_nil]); done) ?_; (with_reducible refine (fJ.calls  Jv X4 Yq YR KF _ A1.out).mono ?_); rintro e w13 ⟨aht, agz, rfl, ho0, ho1, hb⟩; refine ⟨_, rfl, ?_⟩; have jS := aa.mk (Kd.nA (Kd.bK (ok' := fun k_ => some k_ ≠ (agz : Value).ownBlock) ho0 (fun k_ hk_ => hk_.2)) (az (by exact HB.out))); have jT := aa.mk (Kd.nA (Kd.bK (ok' := fun k_ => some k_ ≠ (aht : Value).ownBlock) ho1 (fun k_ hk_ => hk_.2)) (az (by exact HB.out))); replace HB := aa.mk (ax (by exact HB.out) hb); clear hb; clear ho0; clear ho1; obtain ⟨Sz, Su, ahg⟩ := Kd.kr jS.out; subst ahg; obtain ⟨Gq, Gn, Yr⟩ := Kd.kr jT.out; subst Yr) | ((with_reducible refine bH (f := 24) rfl ?_); refine eO (some 9) rfl rfl Try.func24 (by kernel_rfl) rfl #[.agg #[.slice Sz Jv.length Su, .int .i64 X4, .int .i64 Yq, .int .i64 YR, .slice Gq KF.length Gn]] rfl (by (simp only [List.map_toArray, List.map_cons, List.map_nil]); rfl) ?_; (with_reducible refine (bM.calls k _ _ Jv X4 Yq YR _ _ KF Vj QO _ ?side1 ?side2 ?side3 ?side4 A2.out).mono ?_); (case side1 => repeat (exact (Kd.je jS.out).2.2)); (case side2 => exact (Kd.je jS.out).2.1); (case side3 => repeat (exact (Kd.je jT.out).2.2)); (case side4 => exact (Kd.je jT.out).2.1); rintro e w16 ⟨VJ, rfl, ho0, hb⟩; refine ⟨_, rfl, ?_⟩; replace jS := aa.mk (Kd.dK (nU jS.out) (Kd.dH ho0) hb); replace jT := aa.mk (Kd.dK (nU jT.out) (Kd.dH ho0) hb); have jY := aa.mk (Kd.fI ho0 (az (by exact HB.out))); replace HB := aa.mk (ax (by exact HB.out) hb); clear hb; (clear ho0)) | ((with_reducible refine bH (f := 48) rfl ?_); refine eO (some 13) rfl rfl Try.func48 (by kernel_rfl) rfl #[] rfl (by (simp only [List.map_toArray, List.map_cons, List.map_nil]); done) ?_; (with_reducible refine (fJ.calls  Rj YH Zd YY QT _ A3.out).mono ?_); rintro e w17 ⟨agE, ahF, rfl, ho0, ho1, hb⟩; refine ⟨_, rfl, ?_⟩; have lD := aa.mk (Kd.nA (Kd.bK (ok' := fun k_ => some k_ ≠ (ahF : Value).ownBlock ∧ some k_ ≠ (.slice Sz Jv.length Su : Value).ownBlock ∧ some k_ ≠ (.slice Gq KF.length Gn : Value).ownBlock ∧ some k_ ≠ (VJ : Value).ownBlock) ho0 (fun k_ hk_ => ⟨hk_.2, (Kd.ic (Kd.vg (nU jS.out)) k_ hk_.1), (Kd.ic (Kd.vg (nU jT.out)) k_ hk_.1), (Kd.ic (Kd.pU (rU jY.out)) k_ hk_.1)⟩)) (az (by exact HB.out))); have lI := aa.mk (Kd.nA (Kd.bK (ok' := fun k_ => some k_ ≠ (agE : Value).ownBlock ∧ some k_ ≠ (.slice Sz Jv.length Su : Value).ownBlock ∧ some k_ ≠ (.slice Gq KF.length Gn : Value).ownBlock ∧ some k_ ≠ (VJ : Value).ownBlock) ho1 (fun k_ hk_ => ⟨hk_.2, (Kd.ic (Kd.vg (nU jS.out)) k_ hk_.1), (Kd.ic (Kd.vg (nU jT.out)) k_ hk_.1), (Kd.ic (Kd.pU (rU jY.out)) k_ hk_.1)⟩)) (az (by exact HB.out))); replace jS := aa.mk (Kd.bK (Kd.qj (Kd.qj (Kd.E9 (nU jS.out) hb) (Kd.lM ho0)) (Kd.lM ho1)) (fun _ h_ => h_.1)); replace jT := aa.mk (Kd.bK (Kd.qj (Kd.qj (Kd.E9 (nU jT.out) hb) (Kd.lM ho0)) (Kd.lM ho1)) (fun _ h_ => h_.1)); replace jY := aa.mk (Kd.eX (rU jY.out) hb); replace HB := aa.mk (ax (by exact HB.out) hb); clear hb; clear ho0; clear ho1; obtain ⟨YK, XV, agT⟩ := Kd.kr lD.out; subst agT; obtain ⟨zQ, zu, ZG⟩ := Kd.kr lI.out; subst ZG) | ((with_reducible refine bH (f := 19) rfl ?_); refine eO (some 14) rfl rfl Try.func19 (by kernel_rfl) rfl #[.agg #[.slice YK Rj.length XV, .int .i64 YH, .int .i64 Zd, .int .i64 YY, .slice zQ QT.length zu]] rfl (by (simp only [List.map_toArray, List.map_cons, List.map_nil]); rfl) ?_; (with_reducible refine (cZ.calls k _ _ Rj YH Zd YY _ _ QT RX OZ _ ?side1 ?side2 ?side3 ?side4 A4.out).mono ?_); (case side1 => repeat (exact (Kd.je lD.out).2.2)); (case side2 => exact (Kd.je lD.out).2.1); (case side3 => repeat (exact (Kd.je lI.out).2.2)); (case side4 => exact (Kd.je lI.out).2.1); rintro e w20 ⟨rfl, hb⟩; refine ⟨_, rfl, ?_⟩; replace jS := aa.mk (Kd.jG (nU jS.out) hb); replace jT := aa.mk (Kd.jG (nU jT.out) hb); replace jY := aa.mk (Kd.eX (rU jY.out) hb); replace lD := aa.mk (Kd.jG (nU lD.out) hb); replace lI := aa.mk (Kd.jG (nU lI.out) hb); replace HB := aa.mk (ax (by exact HB.out) hb); (clear hb)) | ((with_reducible refine dm (N := 19) rfl ?_); ((refine CB (by rfl) ?_; dsimp only)); refine Kd.uk k27 _ 27 ?hg (N := 19) ?hd (xs := ([(⟨15, 15⟩ : S27)] : List (S27))) (inner := [.int .i64 15, .int .i64 15]) (ok := fun _ => True) (okp := fun _ => True) ?hr ?hp (fun _ hk => hk) trivial (Below.refl _ _) (Nat.le_refl _) (by simp) ?_; (case hd => rfl); (case hg => rfl); (case hr => (go_simp; done)); (case hp => exact (dN.c2 (show Kd.M k27 _ _ _ (⟨15, 15⟩ : S27) [.int .i64 15, .int .i64 15] from (yT _ _ _ (⟨15, 15⟩ : S27) )) (dN.none _ _))); intro ajX w21 K6 hb hg_ hnew_; clear hg_ hnew_; (rw [← aaT.out] at K6); replace jS := aa.mk (Kd.dK (nU jS.out) (Kd.dH K6) hb); replace jT := aa.mk (Kd.dK (nU jT.out) (Kd.dH K6) hb); replace jY := aa.mk (Kd.eX (rU jY.out) hb); replace lD := aa.mk (Kd.dK (nU lD.out) (Kd.dH K6) hb); replace lI := aa.mk (Kd.dK (nU lI.out) (Kd.dH K6) hb); have pW := aa.mk (Kd.fI K6 (az (by exact HB.out))); replace HB := aa.mk (ax (by exact HB.out) hb); clear hb K6; obtain ⟨PD, Qn, YD⟩ := Kd.fO pW.out; subst YD) | ((with_reducible refine bH (f := 49) rfl ?_); refine eO (some 20) rfl rfl Try.func49 (by kernel_rfl) rfl #[.int .i64 1, .slice PD Ua.length Qn] rfl (by (simp only [List.map_toArray, List.map_cons, List.map_nil]); rfl) ?_; (with_reducible refine (jU.calls 1 (fun k_ => some k_ = (.slice PD Ua.length Qn : Value).ownBlock) _ _ Ua XT Yc Zp YP ZK _ ?side1 A5.out).mono ?_); (case side1 => exact Kd.R_V (Kd.xZ rfl (Kd.bC (Kd.bC (Kd.bC (Kd.bC (Kd.bC (pW.out) (Kd.dw jS.out) (by decide)) (Kd.dw jT.out) (by decide)) (Kd.gF jY.out) (by decide)) (Kd.dw lD.out) (by decide)) (Kd.dw lI.out) (by decide)))); rintro e w24 ⟨ahq, agk, rfl, ho0, ho1, hb⟩; refine ⟨_, rfl, ?_⟩; have CJ := aa.mk (Kd.nA (Kd.bK (ok' := fun k_ => some k_ ≠ (agk : Value).ownBlock ∧ some k_ ≠ (.slice Sz Jv.length Su : Value).ownBlock ∧ some k_ ≠ (.slice Gq KF.length Gn : Value).ownBlock ∧ some k_ ≠ (VJ : Value).ownBlock ∧ some k_ ≠ (.slice YK Rj.length XV : Value).ownBlock ∧ some k_ ≠ (.slice zQ QT.length zu : Value).ownBlock) ho0 (fun k_ hk_ => ⟨hk_.2, Or.elim hk_.1 (fun hs_ => ((Kd.bC (Kd.bC (Kd.bC (Kd.bC (Kd.bC (pW.out) (Kd.dw jS.out) (by decide)) (Kd.dw jT.out) (by decide)) (Kd.gF jY.out) (by decide)) (Kd.dw lD.out) (by decide)) (Kd.dw lI.out) (by decide)).1 k_ hs_.symm).1.1.1.1.2) (fun hn_ => (Kd.ic (Kd.vg (nU jS.out)) k_ hn_)), Or.elim hk_.1 (fun hs_ => ((Kd.bC (Kd.bC (Kd.bC (Kd.bC (Kd.bC (pW.out) (Kd.dw jS.out) (by decide)) (Kd.dw jT.out) (by decide)) (Kd.gF jY.out) (by decide)) (Kd.dw lD.out) (by decide)) (Kd.dw lI.out) (by decide)).1 k_ hs_.symm).1.1.1.2) (fun hn_ => (Kd.ic (Kd.vg (nU jT.out)) k_ hn_)), Or.elim hk_.1 (fun hs_ => ((Kd.bC (Kd.bC (Kd.bC (Kd.bC (Kd.bC (pW.out) (Kd.dw jS.out) (by decide)) (Kd.dw jT.out) (by decide)) (Kd.gF jY.out) (by decide)) (Kd.dw lD.out) (by decide)) (Kd.dw lI.out) (by decide)).1 k_ hs_.symm).1.1.2) (fun hn_ => (Kd.ic (Kd.pU (rU jY.out)) k_ hn_)), Or.elim hk_.1 (fun hs_ => ((Kd.bC (Kd.bC (Kd.bC (Kd.bC (Kd.bC (pW.out) (Kd.dw jS.out) (by decide)) (Kd.dw jT.out) (by decide)) (Kd.gF jY.out) (by decide)) (Kd.dw lD.out) (by decide)) (Kd.dw lI.out) (by decide)).1 k_ hs_.symm).1.2) (fun hn_ => (Kd.ic (Kd.vg (nU lD.out)) k_ hn_)), Or.elim hk_.1 (fun hs_ => ((Kd.bC (Kd.bC (Kd.bC (Kd.bC (Kd.bC (pW.out) (Kd.dw jS.out) (by decide)) (Kd.dw jT.out) (by decide)) (Kd.gF jY.out) (by decide)) (Kd.dw lD.out) (by decide)) (Kd.dw lI.out) (by decide)).1 k_ hs_.symm).2) (fun hn_ => (Kd.ic (Kd.vg (nU lI.out)) k_ hn_))⟩)) (az (by exact HB.out))); have Dr := aa.mk (Kd.nA (Kd.bK (ok' := fun k_ => some k_ ≠ (ahq : Value).ownBlock ∧ some k_ ≠ (.slice Sz Jv.length Su : Value).ownBlock ∧ some k_ ≠ (.slice Gq KF.length Gn : Value).ownBlock ∧ some k_ ≠ (VJ : Value).ownBlock ∧ some k_ ≠ (.slice YK Rj.length XV : Value).ownBlock ∧ some k_ ≠ (.slice zQ QT.length zu : Value).ownBlock) ho1 (fun k_ hk_ => ⟨hk_.2, Or.elim hk_.1 (fun hs_ => ((Kd.bC (Kd.bC (Kd.bC (Kd.bC (Kd.bC (pW.out) (Kd.dw jS.out) (by decide)) (Kd.dw jT.out) (by decide)) (Kd.gF jY.out) (by decide)) (Kd.dw lD.out) (by decide)) (Kd.dw lI.out) (by decide)).1 k_ hs_.symm).1.1.1.1.2) (fun hn_ => (Kd.ic (Kd.vg (nU jS.out)) k_ hn_)), Or.elim hk_.1 (fun hs_ => ((Kd.bC (Kd.bC (Kd.bC (Kd.bC (Kd.bC (pW.out) (Kd.dw jS.out) (by decide)) (Kd.dw jT.out) (by decide)) (Kd.gF jY.out) (by decide)) (Kd.dw lD.out) (by decide)) (Kd.dw lI.out) (by decide)).1 k_ hs_.symm).1.1.1.2) (fun hn_ => (Kd.ic (Kd.vg (nU jT.out)) k_ hn_)), Or.elim hk_.1 (fun hs_ => ((Kd.bC (Kd.bC (Kd.bC (Kd.bC (Kd.bC (pW.out) (Kd.dw jS.out) (by decide)) (Kd.dw jT.out) (by decide)) (Kd.gF jY.out) (by decide)) (Kd.dw lD.out) (by decide)) (Kd.dw lI.out) (by decide)).1 k_ hs_.symm).1.1.2) (fun hn_ => (Kd.ic (Kd.pU (rU jY.out)) k_ hn_)), Or.elim hk_.1 (fun hs_ => ((Kd.bC (Kd.bC (Kd.bC (Kd.bC (Kd.bC (pW.out) (Kd.dw jS.out) (by decide)) (Kd.dw jT.out) (by decide)) (Kd.gF jY.out) (by decide)) (Kd.dw lD.out) (by decide)) (Kd.dw lI.out) (by decide)).1 k_ hs_.symm).1.2) (fun hn_ => (Kd.ic (Kd.vg (nU lD.out)) k_ hn_)), Or.elim hk_.1 (fun hs_ => ((Kd.bC (Kd.bC (Kd.bC (Kd.bC (Kd.bC (pW.out) (Kd.dw jS.out) (by decide)) (Kd.dw jT.out) (by decide)) (Kd.gF jY.out) (by decide)) (Kd.dw lD.out) (by decide)) (Kd.dw lI.out) (by decide)).1 k_ hs_.symm).2) (fun hn_ => (Kd.ic (Kd.vg (nU lI.out)) k_ hn_))⟩)) (az (by exact HB.out))); replace jS := aa.mk (Kd.bK (Kd.qj (Kd.qj (Kd.E9 (nU jS.out) hb) (Kd.lM ho0)) (Kd.lM ho1)) (fun _ h_ => h_.1)); replace jT := aa.mk (Kd.bK (Kd.qj (Kd.qj (Kd.E9 (nU jT.out) hb) (Kd.lM ho0)) (Kd.lM ho1)) (fun _ h_ => h_.1)); replace jY := aa.mk (Kd.eX (rU jY.out) hb); replace lD := aa.mk (Kd.bK (Kd.qj (Kd.qj (Kd.E9 (nU lD.out) hb) (Kd.lM ho0)) (Kd.lM ho1)) (fun _ h_ => h_.1)); replace lI := aa.mk (Kd.bK (Kd.qj (Kd.qj (Kd.E9 (nU lI.out) hb) (Kd.lM ho0)) (Kd.lM ho1)) (fun _ h_ => h_.1)); replace pW := aa.mk (Kd.eX (rU pW.out) hb); replace HB := aa.mk (ax (by exact HB.out) hb); clear hb; clear ho0; clear ho1; obtain ⟨Ue, Ut, Zj⟩ := Kd.kr CJ.out; subst Zj; obtain ⟨UQ, Vb, Zb⟩ := Kd.kr Dr.out; subst Zb) | ((with_reducible refine bH (f := 21) rfl ?_); refine eO (some 21) rfl rfl Try.func21 (by kernel_rfl) rfl #[.agg #[.slice Ue XT.length Ut, .int .i64 Yc, .int .i64 Zp, .int .i64 YP, .slice UQ ZK.length Vb]] rfl (by (simp only [List.map_toArray, List.map_cons, List.map_nil]); rfl) ?_; (with_reducible refine (oJ.calls _ _ XT Yc Zp YP _ _ ZK Uc Tq _ ?side1 ?side2 ?side3 ?side4 A6.out).mono ?_); (case side1 => repeat (exact (Kd.je CJ.out).2.2)); (case side2 => exact (Kd.je CJ.out).2.1); (case side3 => repeat (exact (Kd.je Dr.out).2.2)); (case side4 => exact (Kd.je Dr.out).2.1); rintro e w27 ⟨rfl, hb⟩; refine ⟨_, rfl, ?_⟩; replace jS := aa.mk (Kd.jG (nU jS.out) hb); replace jT := aa.mk (Kd.jG (nU jT.out) hb); replace jY := aa.mk (Kd.eX (rU jY.out) hb); replace lD := aa.mk (Kd.jG (nU lD.out) hb); replace lI := aa.mk (Kd.jG (nU lI.out) hb); replace pW := aa.mk (Kd.eX (rU pW.out) hb); replace CJ := aa.mk (Kd.jG (nU CJ.out) hb); replace Dr := aa.mk (Kd.jG (nU Dr.out) hb); replace HB := aa.mk (ax (by exact HB.out) hb); (clear hb)) | ((with_reducible refine dm (N := 44) rfl ?_); ((refine CB (by rfl) ?_; dsimp only)); refine Kd.uk Kd.string _ 9 ?hg (N := 44) ?hd (xs := ([(⟨#[65]⟩ : ByteArray), (⟨#[65, 76]⟩ : ByteArray), (⟨#[84]⟩ : ByteArray)] : List ByteArray)) (inner := [.string (⟨#[65]⟩ : ByteArray), .string (⟨#[65, 76]⟩ : ByteArray), .string (⟨#[84]⟩ : ByteArray)]) (ok := fun _ => True) (okp := fun _ => True) ?hr ?hp (fun _ hk => hk) trivial (Below.refl _ _) (Nat.le_refl _) (by simp) ?_; (case hd => rfl); (case hg => rfl); (case hr => (go_simp; done)); (case hp => exact (dN.one (show Kd.M Kd.string _ _ _ (⟨#[65]⟩ : ByteArray) [.string (⟨#[65]⟩ : ByteArray)] from rfl) (dN.one (show Kd.M Kd.string _ _ _ (⟨#[65, 76]⟩ : ByteArray) [.string (⟨#[65, 76]⟩ : ByteArray)] from rfl) (dN.one (show Kd.M Kd.string _ _ _ (⟨#[84]⟩ : ByteArray) [.string (⟨#[84]⟩ : ByteArray)] from rfl) (dN.none _ _))))); intro aj5 w28 Er hb hg_ hnew_; clear hg_ hnew_; (rw [← aa8.out] at Er); replace jS := aa.mk (Kd.dK (nU jS.out) (Kd.dH Er) hb); replace jT := aa.mk (Kd.dK (nU jT.out) (Kd.dH Er) hb); replace lD := aa.mk (Kd.dK (nU lD.out) (Kd.dH Er) hb); replace lI := aa.mk (Kd.dK (nU lI.out) (Kd.dH Er) hb); replace pW := aa.mk (Kd.eX (rU pW.out) hb); replace CJ := aa.mk (Kd.dK (nU CJ.out) (Kd.dH Er) hb); replace Dr := aa.mk (Kd.dK (nU Dr.out) (Kd.dH Er) hb); have Rl := aa.mk (Kd.fI (Kd.qf Er (Kd.pU (rU jY.out))) (az (by exact HB.out))); replace jY := aa.mk (Kd.kX (rU jY.out) (Kd.dH Er) hb); replace HB := aa.mk (ax (by exact HB.out) hb); clear hb Er; obtain ⟨akk, ajQ, agj⟩ := Kd.fO jY.out; subst agj; obtain ⟨ajy, ajC, ahZ⟩ := Kd.fO Rl.out; subst ahZ) | (go_at_call 42; (with_reducible refine (bE.calls k _ _ Vj _ _ ado F6 _ ?side1 ?side2 ?side3 ?side4 A12.out).mono ?_); (case side1 => repeat (exact (Kd.eU jY.out).2.2)); (case side2 => exact (Kd.eU jY.out).2.1); (case side3 => repeat (exact (Kd.eU Rl.out).2.2)); (case side4 => exact (Kd.eU Rl.out).2.1); rintro e w' ⟨rfl, ⟨nd, rfl⟩⟩))
      go_ret
      exact ⟨by simp [*, NK, NF] <;> rfl, by exact lU HB.out⟩
     ·rw [if_neg c11] at H; exact absurd ((Option.some.inj H).trans hrT) (by decide)
    ·rw [if_neg c10] at H; exact absurd ((Option.some.inj H).trans hrT) (by decide)
   ·rw [if_neg c9] at H; exact absurd ((Option.some.inj H).trans hrT) (by decide)
  ·rw [if_neg c8] at H; exact absurd ((Option.some.inj H).trans hrT) (by decide)
 ·rw [if_neg c7] at H; exact absurd ((Option.some.inj H).trans hrT) (by decide)
end Go.Proofs.Ytihedeofkhapiaa.Pr
end
section
namespace Go.Proofs.Ytihedeofkhapiaa.Pr
open Go.RowKit Go.Proofs.YtihedeofkhapiaaW.PrintWords Go.Proofs.YtihedeofkhapiaaW.PrintLast Go.Proofs.YtihedeofkhapiaaW.PrintMore
theorem Ev.call {α β : Type} {o : Option α} {f : Nat → α → Option β} {a : α} {r : β} (h : o = some a) (k : Ev (fun n => f n a) r) : Ev (fun n => o.bind (f n)) r := by
 subst h; exact k
theorem Ev.pos {α : Type} {c : Prop} [Decidable c] {g f : Nat → Option α} {r : α} (h : c) (k : Ev f r) : Ev (fun n => if c then f n else g n) r :=
 Ev.congr (fun n => if_pos h) k
theorem Ev.neg {α : Type} {c : Prop} [Decidable c] {g f : Nat → Option α} {r : α} (h : ¬ c) (k : Ev g r) : Ev (fun n => if c then f n else g n) r :=
 Ev.congr (fun n => if_neg h) k
theorem rdO (T : List ByteArray) (i : Nat) (h : i < T.length) : jb ByteArray.empty T (i : Int) = T[i] := by
 simp [jb, List.getD_eq_getElem?_getD, h]
theorem KZ (L : List (List Int)) (hL : L.length ≤ 100) : ∀ (d i : Nat) (o : List ByteArray), i + d = L.length → o.length = i →
 Ev (fun k => bM.l0 k o L (L.length : Int) (i : Int)) (o ++ (L.drop i).map strOfNums, 0) := by
 intro d
 induction d with
 | zero =>
  intro i o hi ho; refine Ev.step (f := fun _ => some (o, 0)) (fun k => by rw [bM.l0, if_neg (by omega)]) ?_; rw [List.drop_eq_nil_of_le (by omega), List.map_nil, List.append_nil]; exact Ev.now _
 | succ d ih =>
  intro i o hi ho; (have e : iY L (i : Int) = L[i] := by simp [iY, List.getD_eq_getElem?_getD, show i < L.length by omega]); (have hw : wrap64 ((i : Int) + 1) = ((i + 1 : Nat) : Int) := by rw [eT (by omega) (by omega)]; omega); have q := ih (i + 1) (o ++ [strOfNums L[i]]) (by omega) (by simp; omega); rw [List.append_assoc] at q; rw [List.drop_eq_getElem_cons (show i < L.length by omega), List.map_cons]; refine Ev.step (fun k => ?_) q; rw [bM.l0, if_pos (by omega), if_pos (by omega), if_pos (by omega), if_pos (by omega), e, hw]
theorem ajm (l : List Int) (n : Int) (hl : l.length ≤ 1000) (h : n ∈ l) : Ev (fun k => dC.f k l n) true := by
 have key : ∀ (d i : Nat), i + d = l.length → n ∈ l.drop i → Ev (fun k => dC.l0 k l n (i : Int)) true := by
  intro d
  induction d with
  | zero =>
   intro i hi hm; rw [List.drop_eq_nil_of_le (by omega)] at hm; exact absurd hm List.not_mem_nil
  | succ d ih =>
   intro i hi hm; (have hil : i < l.length := by omega); (have e : rd l (i : Int) = l[i] := by simp [rd, List.getD_eq_getElem?_getD, hil]); (have hw : wrap64 ((i : Int) + 1) = ((i + 1 : Nat) : Int) := by rw [eT (by omega) (by omega)]; omega); by_cases he : l[i] = n
   ·refine Ev.step (f := fun _ => some true) (fun k => ?_) (Ev.now _); rw [dC.l0, if_pos (by omega), if_pos (by omega), e, if_pos he]
   ·rw [List.drop_eq_getElem_cons hil] at hm; have hm' := (List.mem_cons.1 hm).resolve_left (fun q => he q.symm); refine Ev.step (fun k => ?_) (ih (i + 1) (by omega) hm'); rw [dC.l0, if_pos (by omega), if_pos (by omega), e, if_neg he, hw]
 exact Ev.congr (fun k => by rw [dC.f]; rfl) (key l.length 0 (by omega) (by simpa using h))
theorem abL (l : List Int) : (strOfNums l).size = l.length := by simp [strOfNums, ByteArray.size]
theorem afL {a1 a2 a3 : Int} {r : AB} (hg : oZ a1 a2 a3 r) (ht : MH r) (h2 : a2 ≤ 8) (h3 : a3 ≤ 8) : (∀ h ∈ r.1, pE h.f1) ∧ rT r.2.2.2.2.1 := by
 refine ⟨fun h hm => ?_, ?_, fun q hq => ?_⟩
 ·have := hg.1.2.2 h hm; exact ⟨this.2.2.2.1, by have := this.2.2.2.2.2; omega⟩
 ·have := hg.2.2.2.2.2.1; omega
 ·obtain ⟨_, _, ms, cs, ⟨_, _, hA⟩, _⟩ := ht; obtain ⟨i, hi, rfl⟩ := List.getElem_of_mem hq; obtain ⟨k, v, _, _, hx, _⟩ := hA i hi; exact Et.sm hx
theorem Yh {hs : List S66} {w c t : Int} {sq : List (List S27)} (hck : eH hs w c t sq = 0) (hl : sq.length ≤ 100) {F : List Int} (hfit : fB.f hs w c t sq = some (F, 0)) :
 Ev (fun k => bM.f k hs w c t sq) ((fA (-1) 0 w c t hs sq).map strOfNums, 0) := by
 (have hLl : (fA (-1) 0 w c t hs sq).length = sq.length := by simp [fA]); refine Ev.congr (f := fun k => bM.l0 k [] (fA (-1) 0 w c t hs sq) ((fA (-1) 0 w c t hs sq).length : Int) ((0 : Nat) : Int)) (fun k => ?_) (by simpa using KZ (fA (-1) 0 w c t hs sq) (by omega) (fA (-1) 0 w c t hs sq).length 0 [] (by omega) rfl); rw [bM.f, hfit, Option.bind_some, if_pos rfl, dG.f, if_pos hck, Option.bind_some]; rfl
theorem Y5 {hs : List S66} {w c t : Int} {sq : List (List S27)} (hck : eH hs w c t sq = 0) (hne : mJ hs w c t sq (List.finRange hs.length) ≠ []) :
 fB.f hs w c t sq = some (mJ hs w c t sq (List.finRange hs.length), 0) := by
 rw [fB.f, um, if_pos hck, if_neg hne]
theorem Tz (hs : List S66) (w c t : Int) (sq : List (List S27)) (h1 : hs.length ≤ 100) (h2 : ∀ h ∈ hs, h.f1.length ≤ 100) (h3 : sq.length ≤ 100) (h4 : ∀ q ∈ sq, q.length ≤ 100) : Ev (fun k => aC.f k hs w c t sq) (hs, w, c, t, sq) := by
 have L1 : ∀ (d i : Nat) (acc : List (List S27)), i + d = sq.length → acc.length = i → acc ++ sq.drop i = sq → Ev (fun k => aC.l1 k sq (i : Int) hs w c t acc) (hs, w, c, t, sq) := by
  intro d
  induction d with
  | zero =>
   intro i acc hi hl he; rw [List.drop_eq_nil_of_le (by omega), List.append_nil] at he; subst he; exact Ev.step (f := fun _ => some (hs, w, c, t, acc)) (fun k => by rw [aC.l1, if_neg (by omega)]) (Ev.now _)
  | succ d ih =>
   intro i acc hi hl he; (have hil : i < sq.length := by omega); (have hw : wrap64 ((i : Int) + 1) = ((i + 1 : Nat) : Int) := by rw [eT (by omega) (by omega)]; omega); have hq := h4 _ (List.getElem_mem hil); rw [List.drop_eq_getElem_cons hil] at he; (have k1 : ([] : List S27).length + (sq[i]).length < 8796093022208 := by rw [List.length_nil]; omega); (have k2 : acc.length < 5864062014805 := by omega); refine Ev.step (fun k => ?_) (ih (i + 1) (acc ++ [sq[i]]) (by omega) (by simp [hl]) (by rw [List.append_assoc]; exact he)); rw [aC.l1, if_pos (by omega), Option.bind_some, if_pos (by omega), sP sq i hil, if_pos k1, if_pos k2, hw, List.nil_append]
 have L0 : ∀ (d i : Nat) (acc : List S66), i + d = hs.length → acc.length = i → acc ++ hs.drop i = hs → Ev (fun k => aC.l0 k hs sq (i : Int) acc w c t) (hs, w, c, t, sq) := by
  intro d
  induction d with
  | zero =>
   intro i acc hi hl he; rw [List.drop_eq_nil_of_le (by omega), List.append_nil] at he; subst he; refine Ev.step (fun k => ?_) (L1 sq.length 0 [] (by omega) rfl (by simp)); rw [aC.l0, if_neg (by omega)]; rfl
  | succ d ih =>
   intro i acc hi hl he; (have hil : i < hs.length := by omega); (have hw : wrap64 ((i : Int) + 1) = ((i + 1 : Nat) : Int) := by rw [eT (by omega) (by omega)]; omega); have hq := h2 _ (List.getElem_mem hil); rw [List.drop_eq_getElem_cons hil] at he; (have k1 : ([] : List S86).length + (hs[i].f1).length < 8796093022208 := by rw [List.length_nil]; omega); (have k2 : acc.length < 3518437208883 := by omega); refine Ev.step (fun k => ?_) (ih (i + 1) (acc ++ [hs[i]]) (by omega) (by simp [hl]) (by rw [List.append_assoc]; exact he)); rw [aC.l0, if_pos (by omega), if_pos (by omega), Option.bind_some, ll hs i hil, if_pos k1, if_pos k2, hw, List.nil_append]
 exact Ev.congr (fun k => by rw [aC.f]; rfl) (L0 hs.length 0 [] (by omega) rfl (by simp))
end Go.Proofs.Ytihedeofkhapiaa.Pr
end
