/- Part 32 of 34 of the proof of: SightEither: for every slice of numbers, the law returns true: of a line made of them, the order of lights, and of hands under other numbers, does not matter, and if squares change places, so do their letters; no condition beyond the statement's own. -/
import Derived.RangeFuncBox
import Derived.Maps.AppendAt
import Derived.Maps.OwnIn
import Derived.Maps.RangeWalk
import Derived.Sort.KeysCollected
import Derived.Laws.MakeOwn
import Derived.Laws.OwnMore
import Derived.Sort.CutIn
import Derived.Sort.LoopGhostIn
import Derived.Test.YtihedeofkhapiaaSX5
import Derived.Test.YtihedeofkhapiaaSX21
import Derived.Test.YtihedeofkhapiaaSX24
import Derived.Test.YtihedeofkhapiaaSX29
import Derived.Test.YtihedeofkhapiaaSX30
import Derived.Test.YtihedeofkhapiaaSX31
set_option linter.unusedVariables false
set_option linter.unusedSimpArgs false
section
namespace Go.Proofs.Ytihedeofkhapiaa.Pr
open Go.RowKit Go.Shelf Go.Proofs.YtihedeofkhapiaaW.PrintWords Go.Proofs.YtihedeofkhapiaaW.PrintLast Go.Proofs.YtihedeofkhapiaaW.PrintMore
attribute [local go_sem] Oper.semAt_some
def Aw (gs gl a1 a2 a3 : Int) (l0 : List S66) (l4 : List (List S27)) (i x k : Nat) : Bool :=
 let m := ek a1 a2 l0 l4 x
 let st := gT gs gl m (ah l0 (x : Int)).f1 l4.length
 vP gs gl i (au (ah l0 (x : Int)).f1 (k : Int)) && decide (m.getD (i * 8 + k) 0 < 1048576) && decide (wrap64 (wrap64 (st.2 - st.1.getD i 0) + m.getD (i * 8 + k) 0) ≤ a3)
def oz (gs gl a1 a2 a3 : Int) (l0 : List S66) (l4 : List (List S27)) (i x : Nat) : Nat → Int → Bool
 | 0, _ => false
 | k + 1, c => oz gs gl a1 a2 a3 l0 l4 i x k c || (Aw gs gl a1 a2 a3 l0 l4 i x k && (c == (au (ah l0 (x : Int)).f1 (k : Int)).f0))
def nS (gs gl a1 a2 a3 : Int) (l0 : List S66) (l4 : List (List S27)) (i : Nat) (pre : List (Fin l0.length)) (c : Int) : Bool :=
 pre.any fun x => oz gs gl a1 a2 a3 l0 l4 i x.1 (ah l0 (x.1 : Int)).f1.length c
def jM (gs gl a1 a2 a3 : Int) (l0 : List S66) (l4 : List (List S27)) (i : Nat) : List Int :=
 ((List.range 256).map Int.ofNat).filter (nS gs gl a1 a2 a3 l0 l4 i (List.finRange l0.length))
def iF (gs gl a1 a2 a3 : Int) (l0 : List S66) (l4 : List (List S27)) : List (List Int) := (List.range l4.length).map (jM gs gl a1 a2 a3 l0 l4)
def iP.f (gZ : Int) (bM : Int) (jO : List (S66)) (kL : Int) (kK : Int) (mM : Int) (gy : List (List (S27))) : Option ((List (List Int))) :=
 if nC jO kL kK mM gy = 0 then some (iF gZ bM kL kK mM jO gy) else none
theorem CX (gs gl a1 a2 a3 : Int) (l0 : List S66) (l4 : List (List S27)) : ∀ l ∈ iF gs gl a1 a2 a3 l0 l4, l.length ≤ 256 := fun l hl => by
 obtain ⟨i, _, rfl⟩ := List.mem_map.1 hl; exact Nat.le_trans (List.length_filter_le _ _) (by simp)
theorem wE : ∀ {p : Option Int} {l : List S86}, pK p l = 0 → ∀ s ∈ l, 65 ≤ s.f0 ∧ s.f0 ≤ 90
 | _, [], _, s, hs => by cases hs
 | p, s :: r, h, t, ht => by
  simp only [pK] at h; by_cases h1 : s.f0 < 65 ∨ s.f0 > 90
  ·rw [if_pos h1] at h; cases h
  ·rw [if_neg h1] at h; by_cases h2 : inP s.f1 1 1023 = true
   ·rw [if_pos h2] at h; by_cases h3 : ∃ q, p = some q ∧ s.f0 ≤ q
    ·rw [if_pos h3] at h; cases h
    ·rw [if_neg h3] at h; rcases List.mem_cons.1 ht with rfl | ht
     ·omega
     ·exact wE h t ht
   ·rw [if_neg h2] at h; cases h
theorem Ed {l0 : List S66} (h : pu l0 = 0) (x k : Nat) (hx : x < l0.length) (hk : k < (ah l0 (x : Int)).f1.length) : 65 ≤ (au (ah l0 (x : Int)).f1 (k : Int)).f0 ∧ (au (ah l0 (x : Int)).f1 (k : Int)).f0 ≤ 90 := by
 have h1 := Dx h (ah l0 (x : Int)) (by rw [FW, List.getD_eq_getElem?_getD, List.getElem?_eq_getElem hx]; exact List.getElem_mem _); have h2 := (Aa h1).2.2.2.2.2; refine wE h2 _ ?_; rw [Bu, List.getD_eq_getElem?_getD, List.getElem?_eq_getElem hk]; exact List.getElem_mem _
def oV (W : World) (b : Nat) (S : Int → Bool) (N : Nat) : Prop := ∃ (D : DataW Unit) (nn : Nat), W.ownsMap Try.prog 5 (plainElem Try.prog 4) b nn D ∧ nn ≤ N ∧ ∀ c, Maps.has D (.int .u8 c) = S c
theorem oV.kept {W W' : World} {b : Nat} {S : Int → Bool} {N : Nat} (h : oV W b S N) {row : Option Nat} (hg : W.grownBy W' row) (hb : row ≠ some b) : oV W' b S N := by
 obtain ⟨D, nn, h1, h2⟩ := h; exact ⟨D, nn, h1.kept hg (fun e => hb e.symm), h2⟩
theorem oV.lt {W : World} {b : Nat} {S : Int → Bool} {N : Nat} (h : oV W b S N) : b < W.heap.size := by
 obtain ⟨D, nn, h1, h2⟩ := h; exact h1.lt
theorem oV.below {W W' : World} {b : Nat} {S : Int → Bool} {N : Nat} (h : oV W b S N) (hb : Below W.heap.size W W') : oV W' b S N := h.kept (kr hb none) (by simp)
theorem oV.more {W : World} {b : Nat} {S : Int → Bool} {N N' : Nat} (h : oV W b S N) (hn : N ≤ N') : oV W b S N' := by
 obtain ⟨D, nn, h1, h2, h3⟩ := h; exact ⟨D, nn, h1, Nat.le_trans h2 hn, h3⟩
theorem oV.put {D : DataW Unit} {W : World} {b nn N : Nat} {S : Int → Bool} {c : Int} {D0 : DataW Unit} (h : W.ownsMap Try.prog 5 (plainElem Try.prog 4) b nn (D0.put (.int .u8 c) D)) (hD : Maps.IsMap D0) (hn : nn ≤ N) (hs : ∀ c, Maps.has D0 (.int .u8 c) = S c) : oV W b (fun x => S x || x == c) N := by
 refine ⟨_, nn, h, hn, fun x => ?_⟩; by_cases hx : x = c
 ·subst hx; rw [Maps.has_put_same (k := .int .u8 x) hD trivial]; simp
 ·rw [Maps.has_put_other (by simpa using hx), hs x]; simp [hx]
theorem oV.congr {W : World} {b N : Nat} {S S' : Int → Bool} (h : oV W b S N) (he : ∀ c, S c = S' c) : oV W b S' N := by
 obtain ⟨D, nn, h1, h2, h3⟩ := h; exact ⟨D, nn, h1, h2, fun c => (h3 c).trans (he c)⟩
def yA (S : Int → Bool) (left : Lit → Bool) (ss : List Int) : Prop := ss.Nodup ∧ (∀ x, x ∈ ss ↔ (S x = true ∧ left (.int .u8 x) = false)) ∧ ∀ x ∈ ss, 0 ≤ x ∧ x < 256
theorem wf_u8 {x : Int} : (Lit.int .u8 x).wf = true ↔ 0 ≤ x ∧ x < 256 := by
 have e1 : IntKind.u8.min = 0 := rfl; have e2 : IntKind.u8.max = 255 := rfl; simp only [Lit.wf, e1, e2]; simp; omega
theorem yA.start {D : DataW Unit} {S : Int → Bool} (h : ∀ c, Maps.has D (.int .u8 c) = S c) : yA S (Maps.has D) [] := ⟨List.nodup_nil, fun x => by rw [h x]; cases S x <;> simp, fun x hx => by cases hx⟩
theorem yA.step {S : Int → Bool} {left : Lit → Bool} {ss : List Int} (h : yA S left ss) {x : Int} (hl : left (.int .u8 x) = true) (hs : S x = true) (hw : 0 ≤ x ∧ x < 256) : yA S (fun z => left z && !z.sameKey (.int .u8 x)) (ss ++ [x]) := by
 (have hnew : x ∉ ss := fun hx => by have := ((h.2.1 x).1 hx).2; rw [hl] at this; cases this); refine ⟨List.nodup_append.2 ⟨h.1, by simp, fun a ha b hb => by simp at hb; subst hb; exact fun e => hnew (e ▸ ha)⟩, fun y => ?_, fun y hy => ?_⟩
 ·by_cases hy : y = x
  ·subst hy; simp [hs, Lit.sameKey]
  ·simp [h.2.1 y, hy, Lit.sameKey]
 ·rcases List.mem_append.1 hy with hy | hy
  ·exact h.2.2 y hy
  ·simp at hy; subst hy; exact hw
theorem yA.perm {gs gl a1 a2 a3 : Int} {l0 : List S66} {l4 : List (List S27)} {i : Nat} {left : Lit → Bool} {ss : List Int} (h : yA (nS gs gl a1 a2 a3 l0 l4 i (List.finRange l0.length)) left ss) (hl : ∀ kl, left kl = false) : (jM gs gl a1 a2 a3 l0 l4 i).Perm ss := by
 have hnd : ((List.range 256).map Int.ofNat).Nodup := by
  refine List.pairwise_map.2 (List.nodup_range.imp fun hne e => hne ?_); exact Int.ofNat.inj e
 (refine (List.perm_ext_iff_of_nodup (hnd.filter _) h.1).2 fun x => ?_); rw [List.mem_filter, h.2.1 x]; constructor
 ·rintro ⟨_, h2⟩; exact ⟨h2, hl _⟩
 ·rintro ⟨h1, h2⟩; have := h.2.2 x ((h.2.1 x).2 ⟨h1, h2⟩); exact ⟨List.mem_map.2 ⟨x.toNat, by simp; omega, by simp; omega⟩, h1⟩
theorem Ch (gs gl a1 a2 a3 : Int) (l0 : List S66) (l4 : List (List S27)) (i : Nat) : (jM gs gl a1 a2 a3 l0 l4 i).Pairwise (· ≤ ·) := by
 refine List.Pairwise.filter _ (List.pairwise_map.2 (List.pairwise_le_range.imp fun h => ?_)); exact Int.ofNat_le.2 h
theorem MM {key : Value} {kl : Lit} (h : keyOf Try.prog 5 key = some kl) : ∃ x : Int, key = .int .u8 x ∧ kl = .int .u8 x ∧ (Lit.int .u8 x).wf = true := Maps.keyOf_int_inv Try.underlying5 h
theorem Zy {W : World} {g : Nat} {v : Int} (h : W.cell? ⟨g, 0, none⟩ = some (.int .u8 v)) : Kd.C (Kd.int .u8) W (some ⟨g, 0, none⟩) 1 [v] := by
 refine ⟨rfl, by simp, fun _ => ⟨_, rfl, fun j p hp => ?_⟩⟩
 cases j with
 | zero =>
  simp at hp; subst hp; refine ⟨[.int .u8 v], rfl, rfl, fun i u hu => ?_⟩
  cases i with
  | zero =>
   simp at hu; subst hu; exact h
  | succ i => simp at hu
 | succ j => simp at hp
theorem OC (W : World) (n : Nat) (hn : n ≤ 1000) : (Instr.makeSlice 88 (.int .i64 (n : Int)) (.int .i64 (n : Int))).run Try.prog W = .ok (.slice (some ⟨W.heap.size, 0, none⟩) n n) (W.alloc (.cells (madeCells #[.int .u8 0] n) 5)) := by
 obtain ⟨i, h1, h2, h3, h4⟩ := info_parts (P := Try.prog) (e := 5) (z := .int .u8 0) (size := 1) (bytes := 1) (by kernel_rfl); have h := run_makeSlice (P := Try.prog) W 88 5 i (.int .u8 0) Try.underlying88 h1 h2 .i64 .i64 n n (by omega) (by omega) (by rw [h3]; omega) (by rw [h4]; omega) (by omega); rw [h3] at h; rw [show (Value.int .u8 0).cells = #[Value.int .u8 0] from rfl] at h
 simpa using h
theorem Yw (W : World) (n base : Nat) (hn : n ≤ 1000) (hb : base ≤ W.heap.size) : Kd.R (Kd.int .u8) 5 (W.alloc (.cells (madeCells #[.int .u8 0] n) 5)) base (fun k => k = W.heap.size) (.slice (some ⟨W.heap.size, 0, none⟩) n n) (List.replicate n 0) := by
 obtain ⟨i, h1, h2, h3, h4⟩ := info_parts (P := Try.prog) (e := 5) (z := .int .u8 0) (size := 1) (bytes := 1) (by kernel_rfl); obtain ⟨w', e1, e2, e3⟩ := run_makeSlice_full (P := Try.prog) (w := W) base 88 5 i (.int .u8 0) 1 Try.underlying88 h1 h2 h3 .i64 .i64 n (by omega) (by rw [h4]; omega) (by unfold maxLen; omega) hb; rw [OC W n hn] at e1; injection e1 with _ e1; subst e1; refine Kd.wF (enc := Value.int .u8) ?_ (fun k hk => by simp [Value.ownBlock] at hk; exact hk.symm); rw [List.length_replicate]
 have : encs (Value.int .u8) (List.replicate n (0 : Int)) = (madeCells (Value.int IntKind.u8 0).cells (n * 1)).toList := by
  rw [show (Value.int IntKind.u8 0).cells = #[Value.int .u8 0] from rfl, Nat.mul_one]; apply List.ext_getElem?; intro j; simp only [encs, madeCells, List.map_replicate]; simp; by_cases hj : j < n
  ·simp [hj, Nat.mod_one]
  ·simp [hj]
 rw [this]; exact e2
theorem Eh {gs gl a1 a2 a3 : Int} {l0 : List S66} {l4 : List (List S27)} {i : Nat} (pre : List (Fin l0.length)) (x : Fin l0.length) (c : Int) : nS gs gl a1 a2 a3 l0 l4 i (pre ++ [x]) c = (nS gs gl a1 a2 a3 l0 l4 i pre c || oz gs gl a1 a2 a3 l0 l4 i x.1 (ah l0 (x.1 : Int)).f1.length c) := by
 simp [nS, List.any_append]
theorem w64 (n : Int) : wrap64 n = IntKind.i64.wrap n := by
 simp only [IntKind.wrap, IntKind.bits, IntKind.signed, wrap64]; simp; split <;> omega
theorem Us (W : World) (n : Nat) (hn : n ≤ 8) : (Instr.makeSlice 104 (.int .i64 (n : Int)) (.int .i64 (n : Int))).run Try.prog W = .ok (.slice (some ⟨W.heap.size, 0, none⟩) n n) (W.alloc (.cells (madeCells #[.slice none 0 0] n) 88)) := by
 obtain ⟨i, h1, h2, h3, h4⟩ := info_parts (P := Try.prog) (e := 88) (z := .slice none 0 0) (size := 1) (bytes := 24) (by kernel_rfl); have h := run_makeSlice (P := Try.prog) W 104 88 i (.slice none 0 0) Try.underlying104 h1 h2 .i64 .i64 n n (by omega) (by omega) (by rw [h3]; omega) (by rw [h4]; omega) (by omega); rw [h3] at h; rw [show (Value.slice none 0 0).cells = #[Value.slice none 0 0] from rfl] at h
 simpa using h
def ym (b : Nat) (ds : List Deferred) (W : World) : Prop := (∀ d ∈ ds, ∃ D, d = { target := .collected D, args := #[] } ∧ b ≤ D ∧ W.heap[D]? = some (.deferred (some []))) ∧ ds.Nodup
theorem yo {C : World → Prop} {b : Nat} (hC : ∀ (W : World) (D : Nat) (o : Obj), C W → b ≤ D → W.heap[D]? = some (.deferred (some [])) → C (W.putObj D o)) {F : Fence} {n : Nat} {P : Program} {fn : Func} {tmps : Array Value} {R : Ending → World → Prop}
 (hend : ∀ W, C W → LeavesIn F n P fn tmps R [] .returning W) : ∀ (ds : List Deferred) (W : World), ym b ds W → C W → LeavesInM F n P fn tmps R ds .returning W
 | [], W, _, h => hend W h
 | d :: ds, W, hm, h => by
  obtain ⟨D, rfl, hb, hD⟩ := hm.1 d (List.mem_cons_self); refine ⟨by simp, .inl ⟨_, _, rfl, run_takeDeferred hD, ?_⟩⟩; refine yo hC hend ds _ ⟨fun d' hd' => ?_, (List.nodup_cons.1 hm.2).2⟩ (hC _ _ _ h hb hD); obtain ⟨D', rfl, hb', hD'⟩ := hm.1 d' (List.mem_cons_of_mem _ hd'); refine ⟨D', rfl, hb', ?_⟩
  have hne : D ≠ D' := by
   rintro rfl; exact (List.nodup_cons.1 hm.2).1 hd'
  simp only [World.putObj]; rw [Array.getElem?_setIfInBounds_ne hne]; exact hD'
theorem ym.below {b : Nat} {ds : List Deferred} {W W1 : World} (h : ym b ds W) (hb : Below W.heap.size W W1) : ym b ds W1 :=
 ⟨fun d hd => by
  obtain ⟨D, e, h1, h2⟩ := h.1 d hd
  exact ⟨D, e, h1, (hb.block D (bY h2)).trans h2⟩, h.2⟩
structure pG (w1 : World) (i : Nat) (S : Int → Bool) (N : Nat) (W : World) : Prop where
 sq : W.heap[w1.heap.size]? = some (.cells #[.int .i64 (i : Int)] 3 (0, 0))
 mp : W.heap[w1.heap.size + 1 + 1]? = some (.cells #[.map (some (w1.heap.size + 1))] 128 (0, 0))
 set : oV W (w1.heap.size + 1) S N
 below : Below w1.heap.size w1 W
theorem pG.kept {w1 : World} {i : Nat} {S : Int → Bool} {N : Nat} {W W' : World} (h : pG w1 i S N W) {row : Option Nat} (hg : W.grownBy W' row) (hr : ∀ r, row = some r → w1.heap.size + 1 + 1 < r) : pG w1 i S N W' := by
 refine ⟨(hg.block _ (bY h.sq) ?_).trans h.sq, (hg.block _ (bY h.mp) ?_).trans h.mp, h.set.kept hg ?_, h.below.grown hg h.below.size (fun j hj => ?_)⟩
 ·intro e; have := hr _ e.symm; omega
 ·intro e; have := hr _ e.symm; omega
 ·intro e; have := hr _ e; omega
 ·have := hr j hj; omega
theorem pG.step {w1 : World} {i : Nat} {S : Int → Bool} {N : Nat} {W W' : World} (h : pG w1 i S N W) (hb : Below W.heap.size W W') : pG w1 i S N W' := h.kept (kr hb none) (by simp)
structure mU (w1 : World) (i : Nat) (S : Int → Bool) (N bo B0 Bx By : Nat) (m es : List Int) (W wr : World) : Prop where
 rnd : pG w1 i S N wr
 arr : oJ wr Bx m
 eac : vg wr By es
 keeps : KeepsFrom B0 W wr
 kp : KpB w1.heap.size bo W wr
theorem mU.step {w1 : World} {i : Nat} {S : Int → Bool} {N bo B0 Bx By : Nat} {m es : List Int} {W wr wn : World} (h : mU w1 i S N bo B0 Bx By m es W wr) (hb : Below wr.heap.size wr wn) : mU w1 i S N bo B0 Bx By m es W wn := by
 have hs := h.rnd.below.size; exact ⟨h.rnd.step hb, h.arr.below hb, h.eac.below hb, h.keeps.trans ((lw hb).from _), h.kp.trans ⟨hb.mono hs, fun o ho _ => (hb.block _ (bY ho)).trans ho⟩⟩
theorem mU.congr {w1 : World} {i : Nat} {S S' : Int → Bool} {N bo B0 Bx By : Nat} {m es : List Int} {W wr : World} (h : mU w1 i S N bo B0 Bx By m es W wr) (he : ∀ c, S c = S' c) : mU w1 i S' N bo B0 Bx By m es W wr :=
 { h with rnd := { h.rnd with set := h.rnd.set.congr he } }
theorem mU.more {w1 : World} {i : Nat} {S : Int → Bool} {N N' bo B0 Bx By : Nat} {m es : List Int} {W wr : World} (h : mU w1 i S N bo B0 Bx By m es W wr) (hn : N ≤ N') : mU w1 i S N' bo B0 Bx By m es W wr :=
 { h with rnd := { h.rnd with set := h.rnd.set.more hn } }
theorem mU.turn {w1 : World} {i : Nat} {S S' : Int → Bool} {N N' bo B0 Bx By : Nat} {m es : List Int} {W wr wn : World} (h : mU w1 i S N bo B0 Bx By m es W wr) (hg : wr.grownBy wn (some (w1.heap.size + 1))) (hm : oV wn (w1.heap.size + 1) S' N')
 (hB : w1.heap.size + 1 < B0) (hbo : w1.heap.size + 1 < bo) (hx : w1.heap.size + 1 < Bx) (hy : w1.heap.size + 1 < By) : mU w1 i S' N' bo B0 Bx By m es W wn := by
 have hb : Below w1.heap.size w1 wn := h.rnd.below.grown hg h.rnd.below.size (fun j hj => by cases hj; omega)
 refine ⟨⟨(hg.block _ (bY h.rnd.sq) (by simp)).trans h.rnd.sq, (hg.block _ (bY h.rnd.mp) (by simp)).trans h.rnd.mp, hm, hb⟩, ⟨h.arr.1, (hg.block _ (bY h.arr.2) (by simp; omega)).trans h.arr.2⟩, ⟨h.eac.1, (hg.block _ (bY h.eac.2) (by simp; omega)).trans h.eac.2⟩,
  h.keeps.trans (KeepsFrom.of_grownBy hg (fun j hj => by cases hj; exact hB)), h.kp.trans ⟨?_, fun o ho _ => (hg.block _ (bY ho) (by simp; omega)).trans ho⟩⟩
 have := (Below.refl w1.heap.size wr).grown hg h.rnd.below.size (fun j hj => by cases hj; omega); exact this
theorem Bf {F : Fence} {n : Nat} {P : Program} {c : Code} {Q : Exit → Act → World → Prop} {a : Act} {W : World} (R : World → Prop) (h : R W) (k : ∀ W', R W' → Code.wpIn F n P c Q a W') : Code.wpIn F n P c Q a W := k W h
structure rM (w : World) (gs gl : Int) (A0 : Option Addr) (c0 : Nat) (l0 : List S66) (a1 a2 a3 : Int) (A4 : Option Addr) (c4 : Nat) (l4 : List (List S27)) (i : Nat) (ds : List Deferred) (W : World) : Prop where
 given : W.heap[w.heap.size]? = some (.cells #[.int .i64 gs, .int .u8 gl] 100 (0, 0))
 line : W.heap[w.heap.size + 1]? = some (.cells #[.slice A0 l0.length c0, .int .i64 a1, .int .i64 a2, .int .i64 a3, .slice A4 l4.length c4] 25 (0, 0))
 rows : ∃ (cs : Array Value) (fo : Nat → Nat), cs.size = l4.length ∧ W.heap[w.heap.size + 1 + 1]? = some (.cells cs 88 (0, 0)) ∧ (∀ u ∈ cs, u.oneCell' = true) ∧
  ∀ j, j < i → ∃ v, cs[j]? = some v ∧ Kd.R (Kd.int .u8) 5 W w.heap.size (fun k => fo k = j) v (jM gs gl a1 a2 a3 l0 l4 j)
 marks : ym w.heap.size ds W
 below : Below w.heap.size w W
theorem rM.step {w : World} {gs gl : Int} {A0 : Option Addr} {c0 : Nat} {l0 : List S66} {a1 a2 a3 : Int} {A4 : Option Addr} {c4 : Nat} {l4 : List (List S27)} {i : Nat} {ds : List Deferred} {W W1 : World}
 (h : rM w gs gl A0 c0 l0 a1 a2 a3 A4 c4 l4 i ds W) (hb : Below W.heap.size W W1) : rM w gs gl A0 c0 l0 a1 a2 a3 A4 c4 l4 i ds W1 := by
 refine ⟨(hb.block _ (bY h.given)).trans h.given, (hb.block _ (bY h.line)).trans h.line, ?_, h.marks.below hb, jg h.below h.below.size hb⟩; obtain ⟨cs, fo, h1, h2, h3, h4⟩ := h.rows; refine ⟨cs, fo, h1, (hb.block _ (bY h2)).trans h2, h3, fun j hj => ?_⟩; obtain ⟨v, e, hr⟩ := h4 j hj; exact ⟨v, e, Kd.dz hr hb⟩
def JU (Q : Exit → Act → World → Prop) : Exit → Act → World → Prop
 | .panic _, _, _ => False
 | e, a, w => Q e a w
theorem LU {Q : Exit → Act → World → Prop} {a : Act} {w : World} (h : Q .normal a w) : JU Q .normal a w := h
theorem I4 {P : Program} {c : Code} {Q : Exit → Act → World → Prop} {a : Act} {w : World} (h : c.wp P (JU Q) a w) : c.wp P Q a w :=
 wp_mono h fun e a w h => by
  cases e with
  | panic ch => exact h.elim
  | normal => exact h
  | exit id => exact h
  | goto l => exact h
  | ret => exact h
  | outgrown => exact h
theorem rM.next {w : World} {gs gl : Int} {A0 : Option Addr} {c0 : Nat} {l0 : List S66} {a1 a2 a3 : Int} {A4 : Option Addr} {c4 : Nat} {l4 : List (List S27)} {i : Nat} {ds : List Deferred} {w1 Wn : World} {v : Value} {D : Nat}
 (h : rM w gs gl A0 c0 l0 a1 a2 a3 A4 c4 l4 i ds w1) (hi : i < l4.length) (hbelow : Below w.heap.size w Wn)
 (hbut : ∀ k, k < w1.heap.size → k ≠ w.heap.size + 1 + 1 → Wn.heap[k]? = w1.heap[k]?)
 (hout : ∀ cs, w1.heap[w.heap.size + 1 + 1]? = some (.cells cs 88 (0, 0)) → Wn.heap[w.heap.size + 1 + 1]? = some (.cells (cs.setIfInBounds i v) 88 (0, 0)))
 (hone : v.oneCell' = true) (hw1 : w.heap.size ≤ w1.heap.size) (hv : Kd.R (Kd.int .u8) 5 Wn w1.heap.size (fun _ => True) v (jM gs gl a1 a2 a3 l0 l4 i)) (hD : Wn.heap[D]? = some (.deferred (some []))) (hDw : w1.heap.size ≤ D) :
 rM w gs gl A0 c0 l0 a1 a2 a3 A4 c4 l4 (i + 1) ({ target := .collected D, args := #[] } :: ds) Wn := by
 refine ⟨(hbut _ (bY h.given) (by omega)).trans h.given, (hbut _ (bY h.line) (by omega)).trans h.line, ?_, ⟨fun d hd => ?_, ?_⟩, hbelow⟩
 ·obtain ⟨cs, fo, h1, h2, h3, h4⟩ := h.rows; refine ⟨cs.setIfInBounds i v, fun k => if w1.heap.size ≤ k then i else fo k, by simpa using h1, hout cs h2, fun u hu => ?_, fun j hj => ?_⟩
  ·rw [Array.mem_iff_getElem] at hu; obtain ⟨k, hk, rfl⟩ := hu; rw [Array.getElem_setIfInBounds]
   ·split
    ·exact hone
    ·exact h3 _ (Array.getElem_mem (by simpa using hk))
   ·simpa using hk
  ·by_cases hji : j = i
   ·subst hji; refine ⟨v, by simp [h1, hi], ?_⟩; exact Kd.fU (Kd.bW (Kd.lc hv) (fun k hk => by simp [hk.2.1])) hw1
   ·obtain ⟨u, e, hr⟩ := h4 j (by omega); refine ⟨u, by rw [Array.getElem?_setIfInBounds_ne (fun e => hji e.symm)]; exact e, ?_⟩; have hr1 := Kd.lc (Kd.dQ hr h2 (fun q hq => by simp [Kd.int, Kd.scalar] at hq; subst hq; decide))
    exact Kd.bW (Kd.vX hr1 (fun k hk => hbut k hk.2.2.1 hk.1.2)) (fun k hk => by
     have h5 := hk.2.2.1; show (if w1.heap.size ≤ k then i else fo k) = j; rw [if_neg (by omega)]
     exact hk.1.1)
 ·rcases List.mem_cons.1 hd with rfl | hd
  ·exact ⟨D, rfl, Nat.le_trans hw1 hDw, hD⟩
  ·obtain ⟨D', e, h1, h2⟩ := h.marks.1 d hd; refine ⟨D', e, h1, ?_⟩; rw [hbut D' (bY h2) ?_]
   ·exact h2
   ·rintro rfl; obtain ⟨cs, fo, _, h3, _⟩ := h.rows; rw [h3] at h2; cases h2
 ·refine List.nodup_cons.2 ⟨fun hd => ?_, h.marks.2⟩; obtain ⟨D', e, h1, h2⟩ := h.marks.1 _ hd; injection e with e _; injection e with e; subst e; have := bY h2; omega
theorem rM.all {w : World} {gs gl : Int} {A0 : Option Addr} {c0 : Nat} {l0 : List S66} {a1 a2 a3 : Int} {A4 : Option Addr} {c4 : Nat} {l4 : List (List S27)} {ds : List Deferred} {W : World}
 (h : rM w gs gl A0 c0 l0 a1 a2 a3 A4 c4 l4 l4.length ds W) (h8 : l4.length ≤ 8) : Kd.S (Kd.slice 5 (Kd.int .u8)) 88 W w.heap.size (fun _ => True) (.slice (some ⟨w.heap.size + 1 + 1, 0, none⟩) l4.length l4.length) (iF gs gl a1 a2 a3 l0 l4) := by
 obtain ⟨cs, fo, h1, h2, h3, h4⟩ := h.rows; have hlen : (iF gs gl a1 a2 a3 l0 l4).length = l4.length := by simp [iF]
 obtain ⟨f, hr⟩ := Kd.Nw (d := Kd.slice 5 (Kd.int .u8)) (w := W) (base := w.heap.size) (ok := fun k => True ∧ some k ≠ (Value.slice (some ⟨w.heap.size + 1 + 1, 0, none⟩) l4.length l4.length).ownBlock) (xs := iF gs gl a1 a2 a3 l0 l4) (inner := cs.toList)
  (fun j k => fo k = j ∧ k ≠ w.heap.size + 1 + 1) (fun i j k e1 e2 => e1.1.symm.trans e2.1) (fun j k e => ⟨trivial, by simp [Value.ownBlock]; exact e.2⟩) (by rw [hlen]; simp [Kd.slice, h1]) (fun j x hx => by
    have hj : j < l4.length := by
     rw [← hlen]; exact (List.getElem?_eq_some_iff.1 hx).1
    obtain ⟨v, e, hv⟩ := h4 j hj
    have hx' : x = jM gs gl a1 a2 a3 l0 l4 j := by
     simp [iF, hj] at hx; exact hx.symm
    subst hx'; refine ⟨v, ?_, Kd.dQ hv h2 (fun q hq => by simp [Kd.int, Kd.scalar] at hq; subst hq; decide)⟩; show (cs.toList.drop (j * 1)).take 1 = [v]; (have e' : cs.toList[j]? = some v := by simpa using e); rw [Nat.mul_one]; obtain ⟨hj2, hj3⟩ := List.getElem?_eq_some_iff.1 e'; rw [List.drop_eq_getElem_cons hj2, hj3]
    rfl)
 refine ⟨f, fun _ _ => trivial, cs.toList, ?_, hr⟩; rw [List.length_zipIdx, hlen]; refine ⟨by simp [Kd.tag, Kd.slice, h1], .inr ⟨w.heap.size + 1 + 1, l4.length, cs, rfl, by omega, h2, Nat.le_refl _, by unfold maxLen; omega, by simp [Kd.tag, Kd.slice, h1], ?_⟩⟩; refine List.take_of_length_le ?_; simp [Kd.tag, Kd.slice, h1]
theorem PH {α : Type} {d : Kd α} {e : Nat} {W : World} {base : Nat} {ok : Nat → Prop} {v : Value} {xs : List α} (h : Kd.S d e W base ok v xs) {l : Nat} {o o' : Obj} (hl : W.heap[l]? = some o) (ho : o.isCells = false) : Kd.S d e (W.putObj l o') base ok v xs := by
 obtain ⟨f, h⟩ := h; exact ⟨f, Ha h hl ho⟩
set_option maxRecDepth 100000 in
set_option maxHeartbeats 4000000 in
theorem iP.calls (gZ : Int) (bM : Int) (vK : Option Addr) (vE : Nat) (jO : List (S66)) (kL : Int) (kK : Int) (mM : Int) (tV : Option Addr) (tL : Nat) (gy : List (List (S27))) (r : List (List Int)) (w : World) (WJ : Kd.C k66 w vK jO.length jO) (acS : jO.length ≤ vE) (Wu : Kd.C (Kd.slice 27 k27) w tV gy.length gy) (acw : gy.length ≤ tL) (h : iP.f gZ bM jO kL kK mM gy = some r) :
 Calls Try.prog 59 #[.agg #[.int .i64 gZ, .int .u8 bM], .agg #[.slice vK jO.length vE, .int .i64 kL, .int .i64 kK, .int .i64 mM, .slice tV gy.length tL]] w fun e w' => ∃ v0_ : Value, e = .returned (v0_) ∧ Kd.S (Kd.slice 5 (Kd.int .u8)) 88 w' w.heap.size (fun _ => True) v0_ r ∧ Below w.heap.size w w' := by
 unfold iP.f at h; by_cases hck : nC jO kL kK mM gy = 0; (case neg => rw [if_neg hck] at h; cases h); rw [if_pos hck] at h; obtain rfl := Option.some.inj h; have hsh := CX gZ bM kL kK mM jO gy; have hv := uF hck; have HV := aa.mk hv; have HS := aa.mk (uM hv.2.2.2.2.1); have HSH := aa.mk hsh; have HR0 := aa.mk WJ; have HR4 := aa.mk Wu; obtain ⟨n, hn⟩ : ∃ n, n = gy.length := ⟨_, rfl⟩; (have hmk : ∀ W : World, (Instr.makeSlice 104 (.int .i64 (gy.length : Int)) (.int .i64 (gy.length : Int))).run Try.prog W = .ok (.slice (some ⟨W.heap.size, 0, none⟩) gy.length gy.length) (W.alloc (.cells (madeCells #[.slice none 0 0] gy.length) 88)) := fun W => Us W _ hv.2.2.2.1); clear hv hck hsh h WJ Wu acS acw; refine callsIn_wide (n := 10).1 ?_; refine callsIn_of_wp_marks Try.func59 rfl trivial ?_ rfl; simp only [Try.ntmps59, List.size_toArray, List.length_cons, List.length_nil, Nat.reduceAdd, Nat.reduceSub, Array.replicate_succ, Array.replicate_zero, List.push_toArray, List.append_toArray, List.nil_append, List.cons_append]; refine wpIn_wide.2 ?_; (go_wp2_with (fail)); refine wp_loop_ghost_k (fun gk a W => ∃ (u6 u7 u8 u9 u10 u11 u12 u13 u14 u15 u24 u25 u26 u27 u28 u29 u30 u31 u32 u33 u34 u35 u36 u37 u38 u39 u40 u41 u42 u43 u44 u45 u46 u47 u48 u49 u50 u51 u52 u53 u54 u55 u56 u57 u58 u59 u60 u61 u62 u63 u64 u65 u66 u67 u68 u69 u70 u71 u72 u73 u74 u75 u76 u77 u78 u79 u80 u81 u82 u83 u84 u85 u86 u87 u88 u89 u90 u91 u92 u93 u94 u95 u96 u97 u98 u99 u100 u101 u102 u103 u104 u105 u106 u107 u108 : Value) (i : Nat) (ds : List Deferred), gk + i = gy.length ∧ a = { tmps := #[.agg #[.int .i64 gZ, .int .u8 bM], .agg #[.slice vK jO.length vE, .int .i64 kL, .int .i64 kK, .int .i64 mM, .slice tV gy.length tL], .pointer (some ⟨w.heap.size, 0, none⟩), .pointer (some ⟨w.heap.size + 1, 0, none⟩), .slice none 0 0, .slice (some ⟨w.heap.size + 1 + 1, 0, none⟩) gy.length gy.length, u6, u7, u8, u9, u10, u11, u12, u13, u14, u15, .pointer (some ⟨w.heap.size + 1, 4, none⟩), .slice tV gy.length tL, .int .i64 gy.length, .slice (some ⟨w.heap.size + 1 + 1, 0, none⟩) gy.length gy.length, .pointer (some ⟨w.heap.size + 1, 4, none⟩), .slice tV gy.length tL, .int .i64 gy.length, .int .i64 i, u24, u25, u26, u27, u28, u29, u30, u31, u32, u33, u34, u35, u36, u37, u38, u39, u40, u41, u42, u43, u44, u45, u46, u47, u48, u49, u50, u51, u52, u53, u54, u55, u56, u57, u58, u59, u60, u61, u62, u63, u64, u65, u66, u67, u68, u69, u70, u71, u72, u73, u74, u75, u76, u77, u78, u79, u80, u81, u82, u83, u84, u85, u86, u87, u88, u89, u90, u91, u92, u93, u94, u95, u96, u97, u98, u99, u100, u101, u102, u103, u104, u105, u106, u107, u108], defers := ds } ∧ aa (rM w gZ bM vK vE jO kL kK mM tV tL gy i ds W)) gy.length ?start ?round
 case start =>
  refine ⟨_, _, _, _, _, _, _, _, _, _, _, _, _, _, _, _, _, _, _, _, _, _, _, _, _, _, _, _, _, _, _, _, _, _, _, _, _, _, _, _, _, _, _, _, _, _, _, _, _, _, _, _, _, _, _, _, _, _, _, _, _, _, _, _, _, _, _, _, _, _, _, _, _, _, _, _, _, _, _, _, _, _, _, _, _, _, _, _, _, _, _, _, _, _, _, 0, [], by omega, rfl, ⟨⟨?_, ?_, ⟨madeCells #[.slice none 0 0] gy.length, fun _ => 0, size_madeCells _ _, ?_, ?_, fun j hj => absurd hj (by omega)⟩, ⟨fun d hd => (by cases hd), List.nodup_nil⟩, ?_⟩⟩⟩
  ·exact dF (dF (heap_alloc_new w _) _) _
  ·refine dF ?_ _; have := heap_alloc_new (w.alloc (.cells #[.int .i64 gZ, .int .u8 bM] 100)) (.cells #[.slice vK jO.length vE, .int .i64 kL, .int .i64 kK, .int .i64 mM, .slice tV gy.length tL] 25)
   rwa [World.size_alloc] at this
  ·have := heap_alloc_new ((w.alloc (.cells #[.int .i64 gZ, .int .u8 bM] 100)).alloc (.cells #[.slice vK jO.length vE, .int .i64 kL, .int .i64 kK, .int .i64 mM, .slice tV gy.length tL] 25)) (.cells (madeCells #[.slice none 0 0] gy.length) 88)
   rwa [World.size_alloc, World.size_alloc] at this
  ·intro u hu; simp [madeCells] at hu; obtain ⟨k, _, rfl⟩ := hu; rw [Nat.mod_one]; rfl
  ·exact bv (bv (bv (Below.refl _ _) _) _) _
 case round =>
  intro gk a w1 hinv; obtain ⟨u6, hinv⟩ := hinv; obtain ⟨u7, hinv⟩ := hinv; obtain ⟨u8, hinv⟩ := hinv; obtain ⟨u9, hinv⟩ := hinv; obtain ⟨u10, hinv⟩ := hinv; obtain ⟨u11, hinv⟩ := hinv; obtain ⟨u12, hinv⟩ := hinv; obtain ⟨u13, hinv⟩ := hinv; obtain ⟨u14, hinv⟩ := hinv; obtain ⟨u15, hinv⟩ := hinv; obtain ⟨u24, hinv⟩ := hinv; obtain ⟨u25, hinv⟩ := hinv; obtain ⟨u26, hinv⟩ := hinv; obtain ⟨u27, hinv⟩ := hinv; obtain ⟨u28, hinv⟩ := hinv; obtain ⟨u29, hinv⟩ := hinv; obtain ⟨u30, hinv⟩ := hinv; obtain ⟨u31, hinv⟩ := hinv; obtain ⟨u32, hinv⟩ := hinv; obtain ⟨u33, hinv⟩ := hinv; obtain ⟨u34, hinv⟩ := hinv; obtain ⟨u35, hinv⟩ := hinv; obtain ⟨u36, hinv⟩ := hinv; obtain ⟨u37, hinv⟩ := hinv; obtain ⟨u38, hinv⟩ := hinv; obtain ⟨u39, hinv⟩ := hinv; obtain ⟨u40, hinv⟩ := hinv; obtain ⟨u41, hinv⟩ := hinv; obtain ⟨u42, hinv⟩ := hinv; obtain ⟨u43, hinv⟩ := hinv; obtain ⟨u44, hinv⟩ := hinv; obtain ⟨u45, hinv⟩ := hinv; obtain ⟨u46, hinv⟩ := hinv; obtain ⟨u47, hinv⟩ := hinv; obtain ⟨u48, hinv⟩ := hinv; obtain ⟨u49, hinv⟩ := hinv; obtain ⟨u50, hinv⟩ := hinv; obtain ⟨u51, hinv⟩ := hinv; obtain ⟨u52, hinv⟩ := hinv; obtain ⟨u53, hinv⟩ := hinv; obtain ⟨u54, hinv⟩ := hinv; obtain ⟨u55, hinv⟩ := hinv; obtain ⟨u56, hinv⟩ := hinv; obtain ⟨u57, hinv⟩ := hinv; obtain ⟨u58, hinv⟩ := hinv; obtain ⟨u59, hinv⟩ := hinv; obtain ⟨u60, hinv⟩ := hinv; obtain ⟨u61, hinv⟩ := hinv; obtain ⟨u62, hinv⟩ := hinv; obtain ⟨u63, hinv⟩ := hinv; obtain ⟨u64, hinv⟩ := hinv; obtain ⟨u65, hinv⟩ := hinv; obtain ⟨u66, hinv⟩ := hinv; obtain ⟨u67, hinv⟩ := hinv; obtain ⟨u68, hinv⟩ := hinv; obtain ⟨u69, hinv⟩ := hinv; obtain ⟨u70, hinv⟩ := hinv; obtain ⟨u71, hinv⟩ := hinv; obtain ⟨u72, hinv⟩ := hinv; obtain ⟨u73, hinv⟩ := hinv; obtain ⟨u74, hinv⟩ := hinv; obtain ⟨u75, hinv⟩ := hinv; obtain ⟨u76, hinv⟩ := hinv; obtain ⟨u77, hinv⟩ := hinv; obtain ⟨u78, hinv⟩ := hinv; obtain ⟨u79, hinv⟩ := hinv; obtain ⟨u80, hinv⟩ := hinv; obtain ⟨u81, hinv⟩ := hinv; obtain ⟨u82, hinv⟩ := hinv; obtain ⟨u83, hinv⟩ := hinv; obtain ⟨u84, hinv⟩ := hinv; obtain ⟨u85, hinv⟩ := hinv; obtain ⟨u86, hinv⟩ := hinv; obtain ⟨u87, hinv⟩ := hinv; obtain ⟨u88, hinv⟩ := hinv; obtain ⟨u89, hinv⟩ := hinv; obtain ⟨u90, hinv⟩ := hinv; obtain ⟨u91, hinv⟩ := hinv; obtain ⟨u92, hinv⟩ := hinv; obtain ⟨u93, hinv⟩ := hinv; obtain ⟨u94, hinv⟩ := hinv; obtain ⟨u95, hinv⟩ := hinv; obtain ⟨u96, hinv⟩ := hinv; obtain ⟨u97, hinv⟩ := hinv; obtain ⟨u98, hinv⟩ := hinv; obtain ⟨u99, hinv⟩ := hinv; obtain ⟨u100, hinv⟩ := hinv; obtain ⟨u101, hinv⟩ := hinv; obtain ⟨u102, hinv⟩ := hinv; obtain ⟨u103, hinv⟩ := hinv; obtain ⟨u104, hinv⟩ := hinv; obtain ⟨u105, hinv⟩ := hinv; obtain ⟨u106, hinv⟩ := hinv; obtain ⟨u107, hinv⟩ := hinv; obtain ⟨u108, hinv⟩ := hinv; obtain ⟨i, ds, hgi, ha, hM⟩ := hinv; subst ha; intro J K hJ hK; (try dsimp only); clear hmk
  cases gk with
  | zero =>
   (obtain rfl : i = gy.length := by omega); (have c1 : decide (gy.length < gy.length) = false := by simp); go_wp2_with (fail)
   refine yo (C := fun W => Kd.S (Kd.slice 5 (Kd.int .u8)) 88 W w.heap.size (fun _ => True) (.slice (some ⟨w.heap.size + 1 + 1, 0, none⟩) gy.length gy.length) (iF gZ bM kL kK mM jO gy) ∧ Below w.heap.size w W) (b := w.heap.size)
    ?_ ?_ ds w1 hM.out.marks ⟨rM.all hM.out HV.out.2.2.2.1, hM.out.below⟩
   ·exact fun W D o h hb hD => ⟨PH h.1 hD rfl, h.2.trans (belowK_b (w := w) (Nat.le_refl _) W D _ _ hb hD rfl rfl)⟩
   ·intro W h; exact ⟨_, results_tmp (show Try.f59.results = #[ResultVar.tmp 4] from rfl) _ _ _, _, rfl, h.1, h.2⟩
  | succ g0 =>
   (have c1 : decide (i < gy.length) = true := by simp; omega); have hlt : w.heap.size + 1 < w1.heap.size := bY hM.out.line; have hmm := @run_makeMap Try.prog; (go_upto_region 6 with (fail)); refine CO (fun W => pG w1 i (fun _ => false) 0 W) ?_ ?_
   ·refine ⟨?_, ?_, ⟨DataW.map [], 0, ?_, Nat.le_refl _, fun c => rfl⟩, bv (bv (bv (Below.refl _ _) _) _) _⟩
    ·exact dF (dF (heap_alloc_new w1 _) _) _
    ·have := heap_alloc_new ((w1.alloc (.cells #[.int .i64 (i : Int)] 3)).alloc (.map #[] 0)) (.cells #[.map (some (w1.heap.size + 1))] 128)
     rwa [World.size_alloc, World.size_alloc] at this
    ·have := World.ownsMap_made (H := Unit) (w1.alloc (.cells #[.int .i64 (i : Int)] 3)) Try.prog 5 (plainElem (H := Unit) Try.prog 4); rw [World.size_alloc] at this; exact this.alloc _
   intro W hR; have HR := aa.mk hR; have HM := aa.mk (hM.out.step (hR.below)); clear hR hmm hlt; have hz0 : W.cell? ⟨w.heap.size + 1, 0, none⟩ = some (.slice vK jO.length vE) := (ai HM.out.line 0).trans rfl; have hz1 : W.cell? ⟨w.heap.size + 1, 1, none⟩ = some (.int .i64 kL) := (ai HM.out.line 1).trans rfl; have hz2 : W.cell? ⟨w.heap.size + 1, 2, none⟩ = some (.int .i64 kK) := (ai HM.out.line 2).trans rfl; have hz3 : W.cell? ⟨w.heap.size + 1, 3, none⟩ = some (.int .i64 mM) := (ai HM.out.line 3).trans rfl; have hz4 : W.cell? ⟨w.heap.size + 1, 4, none⟩ = some (.slice tV gy.length tL) := (ai HM.out.line 4).trans rfl; (go_wp2_with (fail)); refine (callsIn_wide (n := 9).1 (Bv 9 _ _ _ _ _ _ _ _ _ _)).mono ?_; rintro e w2 ⟨rfl, rfl⟩; have HRL := aa.mk (HR.out.step (bv (Below.refl _ _) (.cells #[.slice vK jO.length vE, .int .i64 kL, .int .i64 kK, .int .i64 mM, .slice tV gy.length tL] 25))); have bL := heap_alloc_new W (.cells #[.slice vK jO.length vE, .int .i64 kL, .int .i64 kK, .int .i64 mM, .slice tV gy.length tL] 25); have hB0 := bv HM.out.below (.cells #[.slice vK jO.length vE, .int .i64 kL, .int .i64 kK, .int .i64 mM, .slice tV gy.length tL] 25); (have hsz : (W.alloc (.cells #[.slice vK jO.length vE, .int .i64 kL, .int .i64 kK, .int .i64 mM, .slice tV gy.length tL] 25)).heap.size = W.heap.size + 1 := by simp); have hlt1 : w1.heap.size + 1 + 1 < W.heap.size := bY HR.out.mp
   have hlt0 : w.heap.size + 1 + 1 < w1.heap.size := by
    obtain ⟨cs, fo, _, h2, _⟩ := hM.out.rows; exact bY h2
   obtain ⟨bo, hbo⟩ : ∃ bo, bo = W.heap.size := ⟨_, rfl⟩; rw [← hbo] at bL hsz hlt1 ⊢; obtain ⟨W0, hW0⟩ : ∃ W0, W0 = (W.alloc (.cells #[.slice vK jO.length vE, .int .i64 kL, .int .i64 kK, .int .i64 mM, .slice tV gy.length tL] 25)) := ⟨_, rfl⟩; rw [← hW0] at HRL bL hsz hB0 ⊢; clear hW0 hz0 hz1 hz2 hz3 hz4 hbo HR HM; (go_wp2_with (fail)); refine (wpIn_wide (n := 10)).1 ?_
   refine wpIn_rangeFunc_ownH (n := 10) rfl (by omega) (gf := 73) (lb := #[.pointer (some ⟨bo, 0, none⟩)]) rfl trivial (enters_of Try.func73 (by kernel_rfl) rfl)
    (wu 9 (by omega) bo w1.heap.size vK vE jO kL kK mM tV tL gy HV.out.2.2.2.1 HS.out w W0 (by omega) HR0.out HR4.out hB0 (by omega) bL) MK (Oi (by omega)) (Below.refl _ _) (fun _ => rfl)
    (fun pre W => pG w1 i (nS gZ bM kL kK mM jO gy i pre) (8 * pre.length) W ∧ bo < W.heap.size)
    (fun _ _ _ => False)
    (fun pre A B row hs hg hr => ⟨hs.1.kept hg (fun r e => by have := (hr r e).1; omega), Nat.lt_of_lt_of_le hs.2 hg.size⟩)
    (fun _ _ _ _ _ hs _ _ => hs)
    ⟨HRL.out, by omega⟩
    (fun x a' W => ∃ Bx, bo < Bx ∧ oJ W Bx (ek kL kK jO gy x.1) ∧ a' = { tmps := #[.agg #[.int .i64 gZ, .int .u8 bM], .agg #[.slice vK jO.length vE, .int .i64 kL, .int .i64 kK, .int .i64 mM, .slice tV gy.length tL], .pointer (some ⟨w.heap.size, 0, none⟩), .pointer (some ⟨w.heap.size + 1, 0, none⟩), .slice none 0 0, .slice (some ⟨w.heap.size + 1 + 1, 0, none⟩) gy.length gy.length, .pointer (some ⟨w1.heap.size, 0, none⟩), .pointer (some ⟨w1.heap.size + 1 + 1, 0, none⟩), .int .i64 (x.1 : Int), .pointer (some ⟨Bx, 0, none⟩), u10, u11, u12, u13, u14, u15, .pointer (some ⟨w.heap.size + 1, 4, none⟩), .slice tV gy.length tL, .int .i64 gy.length, .slice (some ⟨w.heap.size + 1 + 1, 0, none⟩) gy.length gy.length, .pointer (some ⟨w.heap.size + 1, 4, none⟩), .slice tV gy.length tL, .int .i64 gy.length, .int .i64 i, .bool true, .int .i64 i, .map (some (w1.heap.size + 1)), .agg #[.slice vK jO.length vE, .int .i64 kL, .int .i64 kK, .int .i64 mM, .slice tV gy.length tL], .func (.func 73) #[] #[.pointer (some ⟨bo, 0, none⟩)], .int .i64 (x.1 : Int), .agg (nums .i64 (ek kL kK jO gy x.1)).toArray, u31, u32, u33, u34, u35, u36, u37, u38, u39, u40, u41, u42, u43, u44, u45, u46, u47, u48, u49, u50, u51, u52, u53, u54, u55, u56, u57, u58, u59, u60, u61, u62, u63, u64, u65, u66, u67, u68, u69, u70, u71, u72, u73, u74, u75, u76, u77, u78, u79, u80, u81, u82, u83, u84, u85, u86, u87, u88, u89, u90, u91, u92, u93, u94, u95, u96, u97, u98, u99, u100, u101, u102, u103, u104, u105, u106, u107, u108], defers := [] })
    (fun x a' _ X Y row hs hg hr => by obtain ⟨Bx, h1, h2, h3⟩ := hs; exact ⟨Bx, h1, ⟨h2.1, uU (β := Unit) Bx _ 97 () X Y row h2.2 hg (fun r e => (hr r e).2)⟩, h3⟩)
    ?assign ?body ?done ?stop
   case assign =>
    rintro l pre x W K ⟨hI, hbW⟩ hK; dsimp only [LP]; have hlen := jC kL kK gy (ah jO (x.1 : Int)).f1 gy.length; (have hin : (Try.prog.info? 97).map (·.size) = some 64 := by kernel_rfl); have H64 := aa.mk (show (nums .i64 (ek kL kK jO gy x.1)).toArray.size = 64 by simp [nums, ek, hlen]); have HIN := aa.mk hin; have HA := aa.mk (tZ (ek kL kK jO gy x.1)); have HI := aa.mk hI; have hK2 := aa.mk hK; clear hlen hin hK hI
    gi_wp2_with (refine jh rfl 97 (.tmp 9) (.tmp 30) rfl W.heap.size _ rfl rfl 97 _ (heap_alloc_new W _) (by rw [H64.out]; exact HIN.out) (by rw [H64.out]; rfl) HA.out ?_)
    rw [mK]; have hW1 := HI.out.below.size; refine hK2.out _ _ ((KeepsOthers.alloc _ _).from _) ⟨(Below.refl _ W).alloc hW1 _, fun o ho hc => dF ho _⟩ ⟨HI.out.step (bv (Below.refl _ _) _), by simp; omega⟩ ⟨W.heap.size, hbW, ⟨jC _ _ _ _ _, heap_alloc_new W _⟩, rfl⟩
   case body =>
    rintro l pre x a' W hl ⟨r, hr⟩ ⟨hI, hbW⟩ ⟨Bx, hBx, bN, rfl⟩ hlt; (have hin : (Try.prog.info? 97).map (·.size) = some 64 := by kernel_rfl); (have hin5 : (Try.prog.info? 95).map (·.size) = some 8 := by kernel_rfl); have H64 := aa.mk (show (nums .i64 (ek kL kK jO gy x.1)).toArray.size = 64 by simp [nums, bN.1]); have HIN := aa.mk hin; have HIN5 := aa.mk hin5; have HI := aa.mk hI; have HN := aa.mk bN; have HM := aa.mk (hM.out.step hI.below); have HPL := aa.mk hlt; clear hin hin5 hI bN hlt; have hz0 : W.cell? ⟨w.heap.size + 1, 0, none⟩ = some (.slice vK jO.length vE) := (ai HM.out.line 0).trans rfl; have hz1 : W.cell? ⟨w.heap.size + 1, 1, none⟩ = some (.int .i64 kL) := (ai HM.out.line 1).trans rfl; have hz2 : W.cell? ⟨w.heap.size + 1, 2, none⟩ = some (.int .i64 kK) := (ai HM.out.line 2).trans rfl; have hz3 : W.cell? ⟨w.heap.size + 1, 3, none⟩ = some (.int .i64 mM) := (ai HM.out.line 3).trans rfl; have hz4 : W.cell? ⟨w.heap.size + 1, 4, none⟩ = some (.slice tV gy.length tL) := (ai HM.out.line 4).trans rfl; have hg0 : W.cell? ⟨w.heap.size, 0, none⟩ = some (.int .i64 gZ) := (ai HM.out.given 0).trans rfl; have hg1 : W.cell? ⟨w.heap.size, 1, none⟩ = some (.int .u8 bM) := (ai HM.out.given 1).trans rfl
    gi_wp2_with (refine pq rfl 97 (.tmp 9) rfl Bx rfl 97 _ (0, 0) _ HN.out.2 Try.underlying97 rfl (by rw [H64.out]; exact HIN.out) ?_)
    refine ⟨trivial, (CallsIn.inRound l (callsIn_wide.2 (sums.calls gZ bM vK vE jO kL kK mM tV gy.length tL x.1 (ek kL kK jO gy x.1) W (Kd.iK HR0.out HM.out.below) x.2 HN.out.1 HV.out.2.2.2.1 (HS.out x.1 x.2)))).mono ?_⟩; rintro e w2 ⟨rfl, hb⟩; obtain ⟨es, hes⟩ : ∃ es, es = (gT gZ bM (ek kL kK jO gy x.1) (ah jO (x.1 : Int)).f1 gy.length).1 := ⟨_, rfl⟩; obtain ⟨tot, htot⟩ : ∃ tot, tot = (gT gZ bM (ek kL kK jO gy x.1) (ah jO (x.1 : Int)).f1 gy.length).2 := ⟨_, rfl⟩; rw [← hes, ← htot]; (have hel : es.length = 8 := by rw [hes]; exact kP _ _ _ _ _); have HE := aa.mk (show (nums .i64 es).toArray.size = 8 by simp [nums, hel]); have HEL := aa.mk hel; have HA := aa.mk (tZ es); have HES := aa.mk (And.intro hes htot); have HB2 := aa.mk hb; have HI2 := aa.mk (HI.out.step hb); have HN2 := aa.mk (HN.out.below hb); have HM2 := aa.mk (hM.out.step HI2.out.below); clear hes htot hel hb hz0 hz1 hz2 hz3 hz4 hg0 hg1
    gi_upto_region 10 with (refine jh rfl 95 (.tmp 10) (.tmp 37) rfl w2.heap.size _ rfl rfl 95 _ (heap_alloc_new w2 _) (by rw [HE.out]; exact HIN5.out) (by rw [HE.out]; rfl) HA.out ?_; rw [mK])
    refine Bf (fun W3 => mU w1 i (nS gZ bM kL kK mM jO gy i pre) (8 * pre.length) bo W0.heap.size Bx w2.heap.size (ek kL kK jO gy x.1) es W W3) ?_ ?_
    ·exact ⟨HI2.out.step (bv (Below.refl _ _) _), HN2.out.below (bv (Below.refl _ _) _), ⟨HEL.out, heap_alloc_new w2 _⟩, ((lw HB2.out).trans (KeepsOthers.alloc _ _)).from _,
      ⟨(HB2.out.mono HI.out.below.size).alloc (Nat.le_trans HI.out.below.size HB2.out.size) _, fun o ho _ => dF ((HB2.out.block _ (bY ho)).trans ho) _⟩⟩
    intro W3 hM3; have HM3 := aa.mk hM3; have HL3 := aa.mk (hM.out.step hM3.rnd.below); obtain ⟨By, hBy⟩ : ∃ By, By = w2.heap.size := ⟨_, rfl⟩; (have hByb : w1.heap.size + 1 + 1 < By := by rw [hBy]; exact bY HI2.out.mp); rw [← hBy] at HM3 ⊢; clear hM3 HM2 HN2 HI2 HB2 hBy; have hz0 : W3.cell? ⟨w.heap.size + 1, 0, none⟩ = some (.slice vK jO.length vE) := (ai HL3.out.line 0).trans rfl; obtain ⟨ad, A2, c2, e, hx0, hx1, hx2, hl2, hi2⟩ := xP HR0.out x.1 (by omega) (by have := x.2; omega); cases e; rw [Int.toNat_natCast] at hx0 hx1 hx2; obtain ⟨sh, hsh⟩ : ∃ sh, sh = (ah jO (x.1 : Int)).f1 := ⟨_, rfl⟩; rw [← hsh] at hx2 hl2 hi2; have hx2' := (HL3.out.below.cell (World.block_lt_of_cell? w _ hx2)).trans hx2; have HI := aa.mk hi2; have HSL := aa.mk (show sh.length ≤ 8 by rw [hsh]; exact HS.out x.1 x.2); have HSHX := aa.mk hsh; have hxlt := x.2; clear hx0 hx1 hx2 hi2 hsh
    gi_wp2_with (fail)
    gi_loopg [46] sh.length (fun g v46 wr => ∃ k : Nat, k + g = sh.length ∧ v46 = .int .i64 k ∧ aa (mU w1 i (fun c => nS gZ bM kL kK mM jO gy i pre c || oz gZ bM kL kK mM jO gy i x.1 k c) (8 * pre.length + k) bo W0.heap.size Bx By (ek kL kK jO gy x.1) es W wr))
    case atStart => exact ⟨0, by omega, rfl, ⟨{ HM3.out with rnd := { HM3.out.rnd with set := HM3.out.rnd.set.congr (fun c => by simp [oz]) } }⟩⟩
    case round =>
     clear hz0 hx2' HM3 HL3; obtain ⟨k, hkg, rfl, HB⟩ := hrel
     cases gk with
     | zero =>
      obtain rfl : k = sh.length := by omega
      gi_wp2_with (fail)
      refine ⟨HB.out.keeps, HB.out.kp, ⟨HB.out.rnd.sq, HB.out.rnd.mp, (HB.out.rnd.set.more ?_).congr ?_, HB.out.rnd.below⟩, Nat.lt_of_lt_of_le hbW HB.out.kp.1.size⟩
      ·have := HSL.out; simp; omega
      ·intro c; rw [Eh, ← HSHX.out]
     | succ g2 =>
      (have ck : decide (k < sh.length) = true := by simp; omega); obtain ⟨bd, e, hx0, hx1⟩ := rW HI.out k (by omega) (by omega); cases e; rw [Int.toNat_natCast] at hx0 hx1; have HL := aa.mk (hM.out.step HB.out.rnd.below); replace hx0 := (HL.out.below.cell (World.block_lt_of_cell? w _ hx0)).trans hx0; replace hx1 := (HL.out.below.cell (World.block_lt_of_cell? w _ hx1)).trans hx1; obtain ⟨sk, hsk⟩ : ∃ sk, sk = au sh (k : Int) := ⟨_, rfl⟩; rw [← hsk] at hx0 hx1; have HSK := aa.mk hsk; clear hsk; have HN' := aa.mk hkg
      gi_upto_region 13 with (fail)
      obtain ⟨bs, hbs⟩ : ∃ bs, bs = wr.heap.size := ⟨_, rfl⟩; refine Bf (fun W4 => mU w1 i (fun c => nS gZ bM kL kK mM jO gy i pre c || oz gZ bM kL kK mM jO gy i x.1 k c) (8 * pre.length + k) bo W0.heap.size Bx By (ek kL kK jO gy x.1) es W W4 ∧ W4.heap[bs]? = some (.cells #[.int .u8 sk.f0, .int .i64 sk.f1] 86 (0, 0))) ⟨HB.out.step (bv (Below.refl _ _) _), by rw [hbs]; exact heap_alloc_new wr _⟩ ?_; intro W4 hM4; have HM4 := aa.mk hM4.1; have HS4 := aa.mk hM4.2; have HL4 := aa.mk (hM.out.step hM4.1.rnd.below); rw [← hbs]; clear hM4 HL HB hx0 hx1 hbs hkg; have hg0 := cell_regrown ((ai HL4.out.given 0).trans rfl : W4.cell? ⟨w.heap.size, 0, none⟩ = some (.int .i64 gZ)); have hg1 := cell_regrown ((ai HL4.out.given 1).trans rfl : W4.cell? ⟨w.heap.size, 1, none⟩ = some (.int .u8 bM)); have hz3 := cell_regrown ((ai HL4.out.line 3).trans rfl : W4.cell? ⟨w.heap.size + 1, 3, none⟩ = some (.int .i64 mM)); have hsq := cell_regrown ((ai HM4.out.rnd.sq 0).trans rfl : W4.cell? ⟨w1.heap.size, 0, none⟩ = some (.int .i64 (i : Int))); have hs0 := cell_regrown ((ai HS4.out 0).trans rfl : W4.cell? ⟨bs, 0, none⟩ = some (.int .u8 sk.f0)); have hs1 := cell_regrown ((ai HS4.out 1).trans rfl : W4.cell? ⟨bs, 1, none⟩ = some (.int .i64 sk.f1)); (have hk8 : k < 8 := by have := HSL.out; have := HN'.out; omega); (have hi8 : i < 8 := by have := HV.out.2.2.2.1; omega); obtain ⟨nv, hnv⟩ : ∃ nv, nv = (ek kL kK jO gy x.1).getD (i * 8 + k) 0 := ⟨_, rfl⟩; obtain ⟨ev, hev⟩ : ∃ ev, ev = es.getD i 0 := ⟨_, rfl⟩; have hn0 := HM4.out.arr.cell (i * 8 + k) (by omega); have he0 := HM4.out.eac.cell i hi8; rw [← hnv] at hn0; rw [← hev] at he0; have hn := cell_regrown hn0; have he := cell_regrown he0; (have bi : (i : Int) < 8 := by omega); (have bk : (k : Int) < 8 := by omega); have HNV := aa.mk hnv; have HEV := aa.mk hev; clear hn0 he0 hnv hev
      have HH := aa.mk (show Aw gZ bM kL kK mM jO gy i x.1 k = (vP gZ bM (i : Int) sk && decide (nv < 1048576) && decide (IntKind.i64.wrap (IntKind.i64.wrap (tot - ev) + nv) ≤ mM)) by
       rw [HSK.out, HNV.out, HEV.out, HES.out.1, HES.out.2, HSHX.out, ← w64, ← w64]; rfl)
      cases hmay : vP gZ bM (i : Int) sk with
      | false =>
       refine mX (by kernel_rfl) (by kernel_rfl) (by kernel_rfl) ?_
       repeat
        (refine wpQuietIn_step (fun _ _ _ _ => trivial) (fun K hK => ?_)
         go_simp
         first
          | (refine hK _ ?_; clear hK K)
          | (apply Exists.intro
             refine ⟨fun _ => ?_, hK _ ?_⟩; (refine CallsIn.regrown_of (CallsIn.inRound l (callsIn_wide.2 (ut gZ bM i sk _))))
             clear hK K))
       refine wpQuietIn_nil ?_; rintro _ ⟨p, rfl⟩; obtain ⟨W5, hW5⟩ : ∃ W5, W5 = Go.Sort.grow (redrawn W4 p.d) p.os := ⟨_, rfl⟩; have hb5 := below_regrown W4 p.d p.os; rw [← hW5] at hb5 ⊢; have HM5 := aa.mk (HM4.out.step hb5); have HS5 := aa.mk ((hb5.block _ (bY HS4.out)).trans HS4.out); clear hg0 hg1 hz3 hsq hs0 hs1 hn he hb5 hW5; have HF := aa.mk (show Aw gZ bM kL kK mM jO gy i x.1 k = false from HH.out.trans (by simp [hmay]))
       gi_wp2_with (fail)
       gi_roundg g2
       (case measure => omega); case rel => exact ⟨k + 1, by have := HN'.out; omega, by go_num, ⟨(HM5.out.more (by omega)).congr (fun c => by rw [oz, HF.out]; simp)⟩⟩
      | true =>
       cases hc1 : decide (nv < 1048576) with
       | false =>
        refine mX (by kernel_rfl) (by kernel_rfl) (by kernel_rfl) ?_
        repeat
         (refine wpQuietIn_step (fun _ _ _ _ => trivial) (fun K hK => ?_)
          go_simp
          first
           | (refine hK _ ?_; clear hK K)
           | (apply Exists.intro
              refine ⟨fun _ => ?_, hK _ ?_⟩; (refine CallsIn.regrown_of (CallsIn.inRound l (callsIn_wide.2 (ut gZ bM i sk _))))
              clear hK K))
        refine wpQuietIn_nil ?_; rintro _ ⟨p, rfl⟩; obtain ⟨W5, hW5⟩ : ∃ W5, W5 = Go.Sort.grow (redrawn W4 p.d) p.os := ⟨_, rfl⟩; have hb5 := below_regrown W4 p.d p.os; rw [← hW5] at hb5 ⊢; have HM5 := aa.mk (HM4.out.step hb5); have HS5 := aa.mk ((hb5.block _ (bY HS4.out)).trans HS4.out); clear hg0 hg1 hz3 hsq hs0 hs1 hn he hb5 hW5; have HF := aa.mk (show Aw gZ bM kL kK mM jO gy i x.1 k = false from HH.out.trans (by simp [hmay, hc1]))
        gi_wp2_with (fail)
        gi_roundg g2
        (case measure => omega); case rel => exact ⟨k + 1, by have := HN'.out; omega, by go_num, ⟨(HM5.out.more (by omega)).congr (fun c => by rw [oz, HF.out]; simp)⟩⟩
       | true =>
        cases hc2 : decide (IntKind.i64.wrap (IntKind.i64.wrap (tot - ev) + nv) ≤ mM) with
        | false =>
         refine mX (by kernel_rfl) (by kernel_rfl) (by kernel_rfl) ?_
         repeat
          (refine wpQuietIn_step (fun _ _ _ _ => trivial) (fun K hK => ?_)
           go_simp
           first
            | (refine hK _ ?_; clear hK K)
            | (apply Exists.intro
               refine ⟨fun _ => ?_, hK _ ?_⟩; (refine CallsIn.regrown_of (CallsIn.inRound l (callsIn_wide.2 (ut gZ bM i sk _))))
               clear hK K))
         refine wpQuietIn_nil ?_; rintro _ ⟨p, rfl⟩; obtain ⟨W5, hW5⟩ : ∃ W5, W5 = Go.Sort.grow (redrawn W4 p.d) p.os := ⟨_, rfl⟩; have hb5 := below_regrown W4 p.d p.os; rw [← hW5] at hb5 ⊢; have HM5 := aa.mk (HM4.out.step hb5); have HS5 := aa.mk ((hb5.block _ (bY HS4.out)).trans HS4.out); clear hg0 hg1 hz3 hsq hs0 hs1 hn he hb5 hW5; have HF := aa.mk (show Aw gZ bM kL kK mM jO gy i x.1 k = false from HH.out.trans (by simp [hmay, hc1, hc2]))
         gi_wp2_with (fail)
         gi_roundg g2
         (case measure => omega); case rel => exact ⟨k + 1, by have := HN'.out; omega, by go_num, ⟨(HM5.out.more (by omega)).congr (fun c => by rw [oz, HF.out]; simp)⟩⟩
        | true =>
         refine mX (by kernel_rfl) (by kernel_rfl) (by kernel_rfl) ?_
         repeat
          (refine wpQuietIn_step (fun _ _ _ _ => trivial) (fun K hK => ?_)
           go_simp
           first
            | (refine hK _ ?_; clear hK K)
            | (apply Exists.intro
               refine ⟨fun _ => ?_, hK _ ?_⟩; (refine CallsIn.regrown_of (CallsIn.inRound l (callsIn_wide.2 (ut gZ bM i sk _))))
               clear hK K))
         refine wpQuietIn_nil ?_; rintro _ ⟨p, rfl⟩; obtain ⟨W5, hW5⟩ : ∃ W5, W5 = Go.Sort.grow (redrawn W4 p.d) p.os := ⟨_, rfl⟩; have hb5 := below_regrown W4 p.d p.os; rw [← hW5] at hb5 ⊢; have HM5 := aa.mk (HM4.out.step hb5); have HS5 := aa.mk ((hb5.block _ (bY HS4.out)).trans HS4.out); clear hg0 hg1 hz3 hsq hs0 hs1 hn he hb5 hW5; have HF := aa.mk (show Aw gZ bM kL kK mM jO gy i x.1 k = true from HH.out.trans (by simp [hmay, hc1, hc2])); obtain ⟨D, nn, hown, hnn, hhas⟩ := HM5.out.rnd.set; have hlet := Ed HV.out.2.2.2.2.1 x.1 k hxlt (by rw [← HSHX.out]; have := HN'.out; omega); rw [← HSHX.out, ← HSK.out] at hlet
         have hkey : keyOf Try.prog 5 (.int .u8 sk.f0) = some (.int .u8 sk.f0) := by
          have hwf : (Lit.int .u8 sk.f0).wf = true := by
           have e1 : IntKind.u8.min = 0 := rfl; have e2 : IntKind.u8.max = 255 := rfl; simp only [Lit.wf, e1, e2]; simp; omega
          simp [keyOf, mapKey, Try.underlying5, hwf]
         have hmx : nn < maxLen := by
          have := HPL.out; have := HV.out.2.1; have := HSL.out; unfold maxLen; omega
         have HOWN := aa.mk hown; have HHAS := aa.mk hhas; have hq := (ai HM5.out.rnd.mp 0).trans rfl; have hs0 : W5.cell? ⟨bs, 0, none⟩ = some (.int .u8 sk.f0) := (ai HS5.out 0).trans rfl; have hmp : W5.cell? ⟨w1.heap.size + 1 + 1, 0, none⟩ = some (.map (some (w1.heap.size + 1))) := hq; clear hown hhas hq
         gi_wp2_with (refine wpListIn_mapUpdate_own W5 rfl (.tmp 79) (.tmp 81) (.const (.bool true)) 128 rfl 5 4 (Maps.int_keyed Try.underlying5) Try.underlying128 (plainElem Try.prog 4) (w1.heap.size + 1) nn D rfl HOWN.out hmx (.int .u8 sk.f0) (.bool true) (.int .u8 sk.f0) rfl rfl hkey (.lit (.bool true)) [] (plainElem_bool Try.underlying4 true) ?_; intro w6 r1 r2; have R1 := aa.mk r1; have R2 := aa.mk r2; clear r1 r2)
         gi_roundg g2
         case measure => omega
         case rel =>
          refine ⟨k + 1, by have := HN'.out; omega, by go_num, ⟨(HM5.out.turn R2.out (oV.put R1.out HOWN.out.isMap (show nn + 1 ≤ 8 * pre.length + (k + 1) by omega) HHAS.out) (by omega) (by omega) (by omega) (by omega)).congr (fun c => ?_)⟩⟩; rw [oz, HF.out, ← HSHX.out, ← HSK.out]; simp [Bool.or_assoc]
   case done =>
    rintro D ys W hD rfl ⟨hR, hbW⟩ hKD; obtain ⟨DD, nn, hown, hnn, hhas⟩ := hR.set; have HOWN := aa.mk hown; have HHAS := aa.mk hhas; have HNN := aa.mk (show nn ≤ 8 * jO.length by simpa using hnn); have HR := aa.mk hR; have HKD := aa.mk hKD; have hmp : W.cell? ⟨w1.heap.size + 1 + 1, 0, none⟩ = some (.map (some (w1.heap.size + 1))) := (ai hR.mp 0).trans rfl; have HDS := aa.mk (show w1.heap.size ≤ D by omega); clear hown hhas hnn hR hKD HRL bL hB0 hsz hD; go_wp2_with (at_range; refine wpList_range_own _ rfl (.tmp 83) 128 rfl 5 4 (Maps.int_keyed Try.underlying5) Try.underlying128 _ (w1.heap.size + 1) nn DD rfl HOWN.out ?_; intro w3 hrg hg3 hs3)
    go_frame
    (go_loopg [14] (Maps.size DD) (fun g v14 wr => ∃ (left : Lit → Bool) (ss : List Int), aa (wr.ranges Try.prog 5 (plainElem (H := Unit) Try.prog 4) (w1.heap.size + 1) W.heap.size nn DD left g) ∧ aa (ss.length + g ≤ Maps.size DD) ∧ aa (Kd.R (Kd.int .u8) 5 wr W.heap.size (fun k => k ≠ W.heap.size) v14 ss) ∧ aa (yA (nS gZ bM kL kK mM jO gy i (List.finRange jO.length)) left ss) ∧ aa (Below W.heap.size W wr) ∧ aa (W.heap.size < wr.heap.size))); case atStart => exact ⟨_, [], ⟨hrg⟩, ⟨by simp⟩, ⟨Kd.vZ _ _ _ _ _⟩, ⟨yA.start HHAS.out⟩, ⟨(Below.refl _ _).grown hg3 (Nat.le_refl _) (fun j hj => by cases hj)⟩, ⟨by omega⟩⟩
    case round =>
     clear hrg hg3 hs3 hmp; obtain ⟨left, ss, hrg, hcs, hrow, hC, hB, hlt⟩ := hrel
     have hss : ss.length + gk ≤ 32 := by
      have h1 := hcs.out; have h2 := HOWN.out.size_le; have h3 := HNN.out; have h4 := HV.out.2.1; omega
     go_wp2_with (at_next; refine wpList_next_ranges _ rfl (.tmp 84) rfl 5 (Maps.int_keyed Try.underlying5) (plainElem Try.prog 4) (Value.int .u8) (fun v : Value => v) (fun key kl hk => by obtain ⟨x, e, _⟩ := MM hk; exact ⟨x, e⟩) (fun v y hv => ⟨v, rfl⟩) (w1.heap.size + 1) W.heap.size nn DD left gk rfl hrg.out ?_ ?_)
     ·intro hc0 hl0; obtain ⟨T, hT⟩ : ∃ T, T = jM gZ bM kL kK mM jO gy i := ⟨_, rfl⟩; have hTm : T.length ≤ 256 := HSH.out T (by rw [hT]; exact List.mem_map.2 ⟨i, by simp; omega, rfl⟩); (have hp : T.Perm ss := by rw [hT]; exact hC.out.perm hl0); (have hsl : ss.length ≤ 256 := by rw [← hp.length_eq]; exact hTm); (have hts : T.Pairwise (· ≤ ·) := by rw [hT]; exact Ch _ _ _ _ _ _ _ _); have HSORT := aa.mk (Nh (fun k => k ≠ W.heap.size) u14 ss T W wr hB.out hrow.out (Nat.le_trans hsl (by decide)) hts hp); have HTT := aa.mk hT; (have hms : ∀ X : World, (Instr.makeSlice 88 (.int .i64 (T.length : Int)) (.int .i64 (T.length : Int))).run Try.prog X = .ok (.slice (some ⟨X.heap.size, 0, none⟩) T.length T.length) (X.alloc (.cells (madeCells #[.int .u8 0] T.length) 5)) := fun X => OC X _ (by omega)); clear hp hts hsl hT hc0 hl0 hss; (go_upto_region 22 with (go_at_call 79; refine HSORT.out.mono ?_; rintro e w6 ⟨rfl, q1, q2, q3⟩; have Q1 := aa.mk q1; have Q2 := aa.mk q2; clear q1 q2 q3)); obtain ⟨A14, c14, rfl⟩ := Kd.eD Q1.out; have HR6 := aa.mk (HR.out.step Q2.out); have HM6 := aa.mk (hM.out.step HR6.out.below); obtain ⟨cs, fo, h1, h2, h3, h4⟩ := HM6.out.rows; have HC6 := aa.mk h2; have hsq : w6.cell? ⟨w1.heap.size, 0, none⟩ = some (.int .i64 (i : Int)) := (ai HR6.out.sq 0).trans rfl; obtain ⟨uo, hco⟩ : ∃ uo, w6.cell? ⟨w.heap.size + 1 + 1, i, none⟩ = some uo := ⟨_, (ai h2 i).trans (Array.getElem?_eq_getElem (by omega))⟩; have hfo : w6.frozen? ⟨w.heap.size + 1 + 1, i, none⟩ = false := bf h2 i; have hlt6 : w.heap.size + 1 + 1 < w6.heap.size := bY h2; have hlt7 : w1.heap.size < w6.heap.size := bY HR6.out.sq; (have hi4 : i < gy.length := by omega); (have hi5 : (i : Int) < (gy.length : Int) := by omega); clear h1 h2 h3 h4; refine I4 ?_; go_region_with (fail)
      all_goals
       have hV : (w6.setCell ⟨w.heap.size + 1 + 1, i, none⟩ (.slice (some ⟨w6.heap.size, 0, none⟩) T.length T.length)).heap.size = w6.heap.size := by simp
       have hmade := Yw (w6.setCell ⟨w.heap.size + 1 + 1, i, none⟩ (.slice (some ⟨w6.heap.size, 0, none⟩) T.length T.length)) T.length w6.heap.size (by omega) (by rw [hV]; exact Nat.le_refl _)
       rw [hV] at hmade
       have hxo : (((w6.setCell ⟨w.heap.size + 1 + 1, i, none⟩ (.slice (some ⟨w6.heap.size, 0, none⟩) T.length T.length)).alloc (.cells (madeCells #[.int .u8 0] T.length) 5)).drew).heap[w.heap.size + 1 + 1]? = some (.cells (cs.setIfInBounds i (.slice (some ⟨w6.heap.size, 0, none⟩) T.length T.length)) 88 (0, 0)) :=
        fe (dF (heap_setCell_same w6 _ i _ _ _ HC6.out) _)
       have hxb : ∀ k, k < w6.heap.size → k ≠ w.heap.size + 1 + 1 → (((w6.setCell ⟨w.heap.size + 1 + 1, i, none⟩ (.slice (some ⟨w6.heap.size, 0, none⟩) T.length T.length)).alloc (.cells (madeCells #[.int .u8 0] T.length) 5)).drew).heap[k]? = w6.heap[k]? := fun k hk hne => by
        have e1 := Below.heap_setCell w6 ⟨w.heap.size + 1 + 1, i, none⟩ (.slice (some ⟨w6.heap.size, 0, none⟩) T.length T.length) k hne; have e2 := (bv (Below.refl _ (w6.setCell ⟨w.heap.size + 1 + 1, i, none⟩ (.slice (some ⟨w6.heap.size, 0, none⟩) T.length T.length))) (.cells (madeCells #[.int .u8 0] T.length) 5)).block k (by rw [hV]; exact hk); exact e2.trans e1
       have hxw : Below w.heap.size w (((w6.setCell ⟨w.heap.size + 1 + 1, i, none⟩ (.slice (some ⟨w6.heap.size, 0, none⟩) T.length T.length)).alloc (.cells (madeCells #[.int .u8 0] T.length) 5)).drew) :=
        oq (bv (dJ HM6.out.below (by omega)) _)
       have hxR := Kd.iE hmade
       have hxs : w6.heap.size < (((w6.setCell ⟨w.heap.size + 1 + 1, i, none⟩ (.slice (some ⟨w6.heap.size, 0, none⟩) T.length T.length)).alloc (.cells (madeCells #[.int .u8 0] T.length) 5)).drew).heap.size := by
        simp [World.drew]
       obtain ⟨X, hX⟩ : ∃ X, X = (((w6.setCell ⟨w.heap.size + 1 + 1, i, none⟩ (.slice (some ⟨w6.heap.size, 0, none⟩) T.length T.length)).alloc (.cells (madeCells #[.int .u8 0] T.length) 5)).drew) := ⟨_, rfl⟩
       rw [← hX] at hxo hxb hxw hxR hxs ⊢
       have hWw := HR.out.below.size
       have hlt0' : w.heap.size + 1 + 1 < w1.heap.size := hlt0
       have hxT : Kd.R (Kd.int .u8) 5 X W.heap.size (fun _ => True) (.slice A14 T.length c14) T := Kd.bW (Kd.vX (Kd.lc Q1.out) (fun k hk => hxb k hk.2.2.1 (by have := hk.2.1; omega))) (fun _ _ => trivial)
       have HXC := aa.mk (Kd.dD hxT).2.2
       have HXR := aa.mk hxR
       have HXB := aa.mk hxb
       have HXO := aa.mk hxo
       have HXW := aa.mk hxw
       have hsq' : X.cell? ⟨w1.heap.size, 0, none⟩ = some (.int .i64 (i : Int)) := (ai ((hxb _ hlt7 (by omega)).trans HR6.out.sq) 0).trans rfl
       have hxv : X.cell? ⟨w.heap.size + 1 + 1, i, none⟩ = some (.slice (some ⟨w6.heap.size, 0, none⟩) T.length T.length) := by
        obtain ⟨cs', fo', g1, g2, _⟩ := HM6.out.rows; rw [HC6.out] at g2; injection g2 with g2; injection g2 with g2; subst g2; rw [ai hxo i]; simp [g1, hi4]
       have hWD : W.heap[D]? = some (.deferred (some [])) := HKD.out
       have HDL := aa.mk (show D < w6.heap.size by have := bY hWD; have := Q2.out.size; omega)
       have HXD := aa.mk ((hxb D HDL.out (by have := HDS.out; omega)).trans ((Q2.out.block D (bY hWD)).trans hWD))
       clear hV hmade hxo hxb hxw hxR hX hsq hco hfo hxT hWD hms
       refine LU ?_
       go_wp2_with (refine Kd.ZE (enc := Value.int .u8) 0 (w0 := X) w6.heap.size rfl (.tmp 104) (.tmp 105) 88 88 5 rfl Try.underlying88 (by kernel_rfl) (.slice (some ⟨w6.heap.size, 0, none⟩) T.length T.length) (List.replicate T.length 0) T A14 T.length c14 (fun k => k = w6.heap.size) rfl rfl HXR.out HXC.out (Below.refl _ _) (Nat.le_of_lt hxs) ?_; intro w8 r8 b8 g8; have R8 := aa.mk r8; have B8 := aa.mk b8; have G8 := aa.mk g8; clear r8 b8 g8)
       have hT8 : List.take (min T.length (List.replicate T.length (0 : Int)).length) T ++ List.drop (min T.length (List.replicate T.length (0 : Int)).length) (List.replicate T.length (0 : Int)) = T := by simp
       have r8 := R8.out
       rw [hT8, HTT.out] at r8
       have hx6 : w1.heap.size ≤ w6.heap.size := Nat.le_of_lt hlt7
       rw [yN i gy.length hi4 (by have := HV.out.2.2.2.1; omega)]
       refine Handed.intro g0 (by omega) (hJ _ _ _ ⟨_, _, _, _, _, _, _, _, _, _, _, _, _, _, _, _, _, _, _, _, _, _, _, _, _, _, _, _, _, _, _, _, _, _, _, _, _, _, _, _, _, _, _, _, _, _, _, _, _, _, _, _, _, _, _, _, _, _, _, _, _, _, _, _, _, _, _, _, _, _, _, _, _, _, _, _, _, _, _, _, _, _, _, _, _, _, _, _, _, _, _, _, _, _, _, i + 1, { target := .collected D, args := #[] } :: ds, by omega, rfl, ⟨rM.next hM.out hi4 (HXW.out.trans (B8.out.mono (by omega))) (fun k hk hne => (B8.out.block k (by omega)).trans ((HXB.out k (by omega) hne).trans (HR6.out.below.block k hk))) (fun cs' h' => ?_) rfl (by omega) (Kd.fU (Kd.bW r8 (fun _ _ => trivial)) hx6) ((B8.out.block D HDL.out).trans HXD.out) HDS.out⟩⟩)
       have e6 := (HR6.out.below.block _ hlt0').trans h'
       rw [HC6.out] at e6
       injection e6 with e6
       injection e6 with e6
       subst e6
       have hx9 := HXO.out
       rw [HTT.out] at hx9
       exact (B8.out.block _ hlt6).trans hx9
     ·intro x c kl yd yp w4 cnt2 hkey hlk hv hat hrg2 hlt2 hg2 hs2 hen; obtain ⟨x', ex, rfl, hwf⟩ := MM hkey; (obtain rfl : x = x' := by simpa using ex); have HX := aa.mk (hC.out.step hlk ((HHAS.out x).symm.trans (Maps.has_true_of_atKey hat)) (wf_u8.1 hwf)); have hbw := hrow.out; (have hnr : ∀ k, u14.ownBlock = some k → k ≠ W.heap.size ∧ W.heap.size ≤ k := fun k e => ⟨((Kd.lc hrow.out).1 k e).1, ((Kd.lc hrow.out).1 k e).2.1⟩); have HO := aa.mk (Kd.KI hrow.out hg2 (fun k hk e => hk (by injection e))); have HB4 := aa.mk (hB.out.grown hg2 (Nat.le_of_lt hlt.out) (fun j hj => by cases hj; exact Nat.le_refl _)); have HL4 := aa.mk (show W.heap.size < w4.heap.size by rw [hs2]; exact hlt.out); have HRG := aa.mk hrg2; have HNR := aa.mk hnr; have HLT := aa.mk hlt2; clear hkey hlk hv hat hrg2 hg2 hs2 hwf hbw hnr hlt2; (go_wp2_with (refine Kd.Ew (Value.int .u8) 0 (w0 := W) W.heap.size rfl (.tmp 89) (.tmp 91) 88 5 (.int .u8 0) 1 rfl Try.underlying88 (by kernel_rfl) rfl (by decide) u14 ss [x] (some ⟨w4.heap.size, 0, none⟩) 1 1 (fun k => k ≠ W.heap.size) rfl rfl (fun k hk => by have := HL4.out; simp at hk; omega) (Kd.dz HO.out (bv (Below.refl _ _) _)) (Zy ((World.cell?_alloc_at _ _ _ _ rfl).trans rfl)) (bv HB4.out _) (by have := HL4.out; simp; omega) (by omega) ?_; intro v1 w5 hr5 hb5 hg5 hat5)); have HRG5 := aa.mk ((HRG.out.alloc _).kept hg5 (fun e => by have := (HNR.out _ e.symm).2; omega) (fun e => (HNR.out _ e.symm).1 rfl)); have hs5 := hg5.size; go_roundg cnt2; (case measure => exact HLT.out); case rel => exact ⟨_, ss ++ [x], HRG5, ⟨by have := hcs.out; have := HLT.out; simp; omega⟩, ⟨hr5⟩, HX, ⟨hb5⟩, ⟨by have := HL4.out; simp at hs5; omega⟩⟩
   case stop =>
    rintro D c pre W _ _ h _; exact h.elim
end Go.Proofs.Ytihedeofkhapiaa.Pr
end
section
namespace Go.Proofs.Ytihedeofkhapiaa.Pr
open Go.RowKit Go.Proofs.YtihedeofkhapiaaW.PrintWords Go.Proofs.YtihedeofkhapiaaW.PrintLast Go.Proofs.YtihedeofkhapiaaW.PrintMore
attribute [local go_sem] nP nM oZ pE mi mq nL nJ
def bE.l0 : Nat → List ByteArray → List (List Int) → Int → Int → Option (List ByteArray × Int)
 | 0, _, _, _, _ => none
 | k + 1, x6, x19, x20, x21 => if x21 < x20 then (if 0 ≤ x21 then (if x21 < (x19.length : Int) then (if x6.length < 8796093022208 then (bE.l0 k (x6 ++ [strOfNums (vN x19 x21)]) x19 x20 (wrap64 (x21 + 1))) else (none)) else (none)) else (none)) else (some (x6, 0))
def bE.f (k : Nat) (bH : List (S66)) (bM : Int) (dG : Int) (dO : Int) (bD : List (List (S27))) : Option (List ByteArray × Int) := (iH.f bH bM dG dO bD).bind fun F3 => (if F3.2 = 0 then ((iP.f (-1) 0 bH bM dG dO bD).bind fun rR => (bE.l0 k ([] : List ByteArray) rR (rR.length : Int) 0)) else (some (([] : List ByteArray), F3.2)))
theorem bE.iB : ∀ k, (∀ y0 y1 y2 y3, LeO (bE.l0 k y0 y1 y2 y3) (bE.l0 (k + 1) y0 y1 y2 y3))
 | 0 => fun _ _ _ _ r h => by simp [bE.l0] at h
 | k + 1 => by
  have ih0 := bE.iB k
  ·intro y0 y1 y2 y3; unfold bE.l0
   repeat' first | (with_reducible exact ih0 _ _ _ _) | (with_reducible exact LeO.refl _) | (with_reducible refine LeO.ite ?_ ?_)
theorem bE.mono : ∀ a0 a1 a2 a3 a4 k, LeO (bE.f k a0 a1 a2 a3 a4) (bE.f (k + 1) a0 a1 a2 a3 a4) := by
 intro a0 a1 a2 a3 a4 k; have ih0 := bE.iB k; unfold bE.f
 repeat' first | (with_reducible exact ih0 _ _ _ _) | (with_reducible exact LeO.refl _) | (with_reducible refine LeO.ite ?_ ?_) | (with_reducible refine LeO.bind ?_ (fun _ => ?_))
set_option maxHeartbeats 8000000 in
set_option maxRecDepth 100000 in
theorem bE.calls (k : Nat) (gF : Option Addr) (fV : Nat) (bH : List (S66)) (bM : Int) (dG : Int) (dO : Int) (gB : Option Addr) (fZ : Nat) (bD : List (List (S27))) (r1 : List ByteArray) (r2 : Int) (w : World) (og : Kd.C k66 w gF bH.length bH) (qI : bH.length ≤ fV) (ol : Kd.C (Kd.slice 27 k27) w gB bD.length bD) (qJ : bD.length ≤ fZ) (h : bE.f k bH bM dG dO bD = some (r1, r2)) :
 Calls Try.prog 24 #[.agg #[.slice gF bH.length fV, .int .i64 bM, .int .i64 dG, .int .i64 dO, .slice gB bD.length fZ]] w fun e w' => ∃ v0_ : Value, e = .returned (.tuple #[v0_, .int .i64 r2]) ∧ Kd.R Kd.string 9 w' w.heap.size (fun _ => True) v0_ r1 ∧ Below w.heap.size w w' := by
 have hu25 := Try.underlying25; have hu100 := Try.underlying100; have wz := aa.mk og; have yJ := aa.mk qI; clear og qI; have wH := aa.mk ol; have yh := aa.mk qJ; clear ol qJ; have HB := aa.mk (Below.refl w.heap.size w); have H : ((iH.f bH bM dG dO bD).bind fun F3 => (if F3.2 = 0 then ((iP.f (-1) 0 bH bM dG dO bD).bind fun rR => (bE.l0 k ([] : List ByteArray) rR (rR.length : Int) 0)) else (some (([] : List ByteArray), F3.2)))) = some (r1, r2) := h; clear h; replace H := Option.bind_eq_some_iff.mp H; obtain ⟨⟨abv, IU⟩, A20, H⟩ := H; dsimp only at H; have A2 := aa.mk A20; clear A20; by_cases c3 : IU = 0
 ·rw [if_pos c3] at H; have xz : (IU == 0) = true := beq_iff_eq.mpr c3; have Hl : (IU != 0) = false := bne_eq_false_iff_eq.mpr c3; clear c3; replace H := Option.bind_eq_some_iff.mp H; obtain ⟨rR, A40, H⟩ := H; have A4 := aa.mk A40; clear A40; have H' := aa.mk H; clear H; go_enter Try.func24, Try.ntmps24; (go_wp2_with (first | ((with_reducible refine dL (N := 1) rfl ?_); refine eG ?hg (N := 1) ?hd (cs := #[.slice gF bH.length fV, .int .i64 bM, .int .i64 dG, .int .i64 dO, .slice gB bD.length fZ]) (t := 25) ?hr ?_; (case hd => rfl); (case hg => rfl); (case hr => (go_simp; done)); intro DN hg w5 hbox hb; have qY := aa.mk (hbox); have abu := aa.mk ((by rw [hg]; exact (aK (by exact HB.out)) : w.heap.size ≤ DN)); have aaq := aa.mk ((by rw [hg]; exact (aK (by exact HB.out)) : w.heap.size ≤ DN)); replace HB := aa.mk (bn (by exact HB.out) hb); clear hb hbox hg; obtain ⟨En, E5, XB, Yb, YV, EW, Fs, XI, Y7, X4⟩ := cells5 qY.out) | ((with_reducible refine bC (f := 58) rfl ?_); refine fA (some 11) rfl rfl Try.func58 (by kernel_rfl) rfl #[.agg #[.slice gF bH.length fV, .int .i64 bM, .int .i64 dG, .int .i64 dO, .slice gB bD.length fZ]] rfl (by (simp only [List.map_toArray, List.map_cons, List.map_nil]); rfl) ?_; (with_reducible refine (iH.calls _ _ bH bM dG dO _ _ bD abv IU _ ?side1 ?side2 ?side3 ?side4 A2.out).mono ?_); (case side1 => repeat (exact (Kd.iK wz.out HB.out))); (case side2 => exact yJ.out); (case side3 => repeat (exact (Kd.iK wH.out HB.out))); (case side4 => exact yh.out); rintro e w7 ⟨ahi, rfl, ho0, hb⟩; refine ⟨_, rfl, ?_⟩; have PO := aa.mk (Kd.fU ho0 (aK (by exact HB.out))); replace qY := aa.mk (aN (bU qY.out) hb); replace HB := aa.mk (bn (by exact HB.out) hb); clear hb; clear ho0; obtain ⟨Hg, Hf, Px, Yx, Zl, Ht, Hw, Oz, Zd, Zm⟩ := cells5 qY.out) | ((with_reducible refine bC (f := 59) rfl ?_); refine fA (some 19) rfl rfl Try.func59 (by kernel_rfl) rfl #[.agg #[.int .i64 (-1), .int .u8 0], .agg #[.slice gF bH.length fV, .int .i64 bM, .int .i64 dG, .int .i64 dO, .slice gB bD.length fZ]] rfl (by (simp only [List.map_toArray, List.map_cons, List.map_nil]); rfl) ?_; (with_reducible refine (iP.calls (-1) 0 _ _ bH bM dG dO _ _ bD rR _ ?side1 ?side2 ?side3 ?side4 A4.out).mono ?_); (case side1 => repeat (exact (Kd.iK wz.out HB.out))); (case side2 => exact yJ.out); (case side3 => repeat (exact (Kd.iK wH.out HB.out))); (case side4 => exact yh.out); rintro e w9 ⟨akY, rfl, ho0, hb⟩; refine ⟨_, rfl, ?_⟩; replace PO := aa.mk (Kd.dz (rU PO.out) hb); have Wl := aa.mk (Kd.RV ho0 (aK (by exact HB.out))); replace qY := aa.mk (aN (bU qY.out) hb); replace HB := aa.mk (bn (by exact HB.out) hb); clear hb; clear ho0; obtain ⟨fH, fw, Ef⟩ := Kd.Ug Wl.out; subst Ef))); (go_loopg [6, 21] k (fun kq v6 v21 w' => ∃ (gH : List ByteArray) (oO : Int), v21 = .int .i64 oO ∧ aa (bE.l0 kq gH rR (rR.length : Int) oO = some (r1, r2)) ∧ aa (kq ≤ k) ∧ aa (Kd.R Kd.string 9 w' w.heap.size (fun _ => True) v6 gH) ∧ aa (Kd.S (Kd.slice 5 (Kd.int .u8)) 88 w' w.heap.size (fun _ => True) (.slice fH rR.length fw) rR) ∧ aa (w'.heap[DN]? = some (.cells #[(.slice gF bH.length fV), .int .i64 bM, .int .i64 dG, .int .i64 dO, (.slice gB bD.length fZ)] 25 (0, 0))) ∧ aa (Below w.heap.size w w'))); case atStart => exact ⟨(([] : List ByteArray)), (0), (by rfl), H', ⟨Nat.le_refl _⟩, ⟨by exact Kd.vZ _ _ _ _ _⟩, ⟨by (with_reducible skip); exact Wl.out⟩, ⟨by (with_reducible skip); exact qY.out⟩, ⟨by exact HB.out⟩⟩
  case round =>
   clear H' xz Hl En E5 XB Yb YV Hg Hf Px Yx Zl EW Fs XI Y7 X4 Ht Hw Oz Zd Zm; obtain ⟨gH, oO, rfl, HA, HK1, iI, GZ, qY, HB⟩ := hrel
   cases gk with
   | zero => exact absurd HA.out (by simp [bE.l0])
   | succ k1 =>
    have H := HA.out; clear HA; simp only [bE.l0] at H; by_cases c11 : oO < (rR.length : Int)
    ·rw [if_pos c11] at H; have NQ : decide (oO < (rR.length : Int)) = true := decide_eq_true c11; clear c11; by_cases c12 : 0 ≤ oO
     ·rw [if_pos c12] at H; have Aj : decide (0 ≤ oO) = true := decide_eq_true c12; clear c12; by_cases c13 : oO < (rR.length : Int)
      ·rw [if_pos c13] at H; have aka : decide (oO < (rR.length : Int)) = true := decide_eq_true c13; clear c13; by_cases c14 : gH.length < 8796093022208
       ·rw [if_pos c14] at H; have acG := aa.mk c14; clear c14; obtain ⟨ac1, NU⟩ : ∃ y_ : List ByteArray, y_ = (gH ++ [strOfNums (vN rR oO)]) := ⟨_, rfl⟩; (replace H : (bE.l0 k1 ac1 rR (rR.length : Int) (wrap64 (oO + 1))) = some (r1, r2) := by (rw [NU]; with_reducible exact H)); have abX := aa.mk NU; clear NU; have H' := aa.mk H; clear H; have Vu : 0 ≤ (oO : Int) := of_decide_eq_true (by with_reducible assumption); have Rw : oO < (rR.length : Int) := of_decide_eq_true (by with_reducible assumption); obtain ⟨aiW, A254_0, c254_0, e254, VG, JQ, JJ⟩ := abJ (Kd.OQ GZ.out).2.2 oO Vu Rw; cases e254; obtain ⟨ce254, XW, Y6, Pp⟩ := Kd.aaY GZ.out [] oO Vu (by exact Rw); obtain ⟨ve254_0, rfl, Ep⟩ := Y6; have yg := Pp 0 _ rfl; rw [Nat.add_zero, show ((Kd.slice 5 (Kd.int .u8))).sz = 1 from rfl, Nat.mul_one] at yg; replace yg := Option.some.inj (yg.symm.trans VG); rw [yg] at Ep; have KP := aa.mk (show Kd.R (Kd.int .u8) 5 _ _ _ _ (vN rR oO) from Ep); clear yg Ep Pp XW; have Sd := aa.mk JJ; have afl := aa.mk JQ; clear JJ JQ; replace Vu := eq_true Vu; replace Rw := eq_true Rw; have hcv15 := Kd.Oo (P := Try.prog) (A := A254_0) (c := c254_0) Try.underlying88 Try.underlying5 Try.underlying9 (by exact Sd.out); (go_wp2_with (((with_reducible refine pg (b := .append) (xs := #[.tmp 25, .tmp 28]) rfl ?_); at_builtin; refine Kd.Cz Kd.string (w0 := w) w.heap.size rfl (.tmp 25) (.tmp 28) 48 9 (.string ⟨#[]⟩) 16 rfl Try.underlying48 aaA rfl (by decide) (by omega) u6 gH (strOfNums (vN rR oO)) [.string (strOfNums (vN rR oO))] (fun _ => True) (fun _ => False) rfl rfl ?aP (fun _ hk => hk.elim) ?aF ?aO ?aB ?aS ?aL ?_; (case aP => exact rfl); (case aB => exact (by exact HB.out)); (case aF => exact (fun _ _ => trivial)); (case aO => exact (rU iI.out)); (case aS => exact (aK (by exact HB.out))); (case aL => have := acG.out; omega); intro akA w16 ho hb hg hat; rw [← abX.out] at ho; replace GZ := aa.mk (Kd.Q8 (by (with_reducible skip); exact GZ.out) (Kd.fO (rU iI.out)) (by decide) hg); replace qY := aa.mk (dI (bU qY.out) hg (Kd.pQ iI.out qY.out (by decide))); replace KP := aa.mk (Kd.jK (rU KP.out) (Kd.fO (rU iI.out)) (by decide) hg); replace HB := aa.mk (hb); have aa3 := aa.mk (ho); clear iI ho hb hg hat))); go_roundg k1; (case measure => have := HK1.out; omega); case rel => exact ⟨(ac1), (wrap64 (oO + 1)), (by rfl), H', ⟨by have := HK1.out; omega⟩, ⟨by (with_reducible skip); exact aa3.out⟩, ⟨by (with_reducible skip); exact GZ.out⟩, ⟨by (with_reducible skip); exact qY.out⟩, ⟨by exact HB.out⟩⟩
       ·rw [if_neg c14] at H; exact absurd H (by simp)
      ·rw [if_neg c13] at H; exact absurd H (by simp)
     ·rw [if_neg c12] at H; exact absurd H (by simp)
    ·rw [if_neg c11] at H; have NQ : decide (oO < (rR.length : Int)) = false := decide_eq_false c11; clear c11; simp only [Option.some.injEq, Prod.mk.injEq] at H; obtain ⟨rfl, rfl⟩ := H; go_wp2
     go_ret2
     exact ⟨_, by rfl, by (with_reducible skip); exact iI.out, by exact HB.out⟩
 ·rw [if_neg c3] at H; have xz : (IU == 0) = false := beq_eq_false_iff_ne.mpr c3; have Hl : (IU != 0) = true := bne_iff_ne.mpr c3; simp only [Option.some.injEq, Prod.mk.injEq] at H; obtain ⟨rfl, rfl⟩ := H; go_enter Try.func24, Try.ntmps24; go_wp2_with (first | ((with_reducible refine dL (N := 1) rfl ?_); refine eG ?hg (N := 1) ?hd (cs := #[.slice gF bH.length fV, .int .i64 bM, .int .i64 dG, .int .i64 dO, .slice gB bD.length fZ]) (t := 25) ?hr ?_; (case hd => rfl); (case hg => rfl); (case hr => (go_simp; done)); intro DN hg w17 hbox hb; have qY := aa.mk (hbox); have abu := aa.mk ((by rw [hg]; exact (aK (by exact HB.out)) : w.heap.size ≤ DN)); have aaq := aa.mk ((by rw [hg]; exact (aK (by exact HB.out)) : w.heap.size ≤ DN)); replace HB := aa.mk (bn (by exact HB.out) hb); clear hb hbox hg; obtain ⟨SC, UJ, U9, QA, UN, RA, RF, Q3, QT, Vj⟩ := cells5 qY.out) | ((with_reducible refine bC (f := 58) rfl ?_); refine fA (some 11) rfl rfl Try.func58 (by kernel_rfl) rfl #[.agg #[.slice gF bH.length fV, .int .i64 bM, .int .i64 dG, .int .i64 dO, .slice gB bD.length fZ]] rfl (by (simp only [List.map_toArray, List.map_cons, List.map_nil]); rfl) ?_; (with_reducible refine (iH.calls _ _ bH bM dG dO _ _ bD abv IU _ ?side1 ?side2 ?side3 ?side4 A2.out).mono ?_); (case side1 => repeat (exact (Kd.iK wz.out HB.out))); (case side2 => exact yJ.out); (case side3 => repeat (exact (Kd.iK wH.out HB.out))); (case side4 => exact yh.out); rintro e w19 ⟨ahi, rfl, ho0, hb⟩; refine ⟨_, rfl, ?_⟩; have PO := aa.mk (Kd.fU ho0 (aK (by exact HB.out))); replace qY := aa.mk (aN (bU qY.out) hb); replace HB := aa.mk (bn (by exact HB.out) hb); clear hb; (clear ho0)))
  go_ret2
  exact ⟨_, by rfl, by exact Kd.vZ _ _ _ _ _, by exact HB.out⟩
mutual
def dC.l0 : Nat → ByteArray → List ByteArray → Int → Int → Option (ByteArray × Int)
 | 0, _, _, _, _ => none
 | k + 1, x6, x17, x18, x19 => if x19 < x18 then (if 0 ≤ x19 then (if x19 < (x17.length : Int) then (if ((iy ByteArray.empty x17 x19).size : Int) = 2 then (dC.j1 k x6 (iy ByteArray.empty x17 x19) x17 x18 x19 ((iy ByteArray.empty x17 x19).size : Int) (((iy ByteArray.empty x17 x19).size : Int) == 2)) else (dC.j1 k x6 (iy ByteArray.empty x17 x19) x17 x18 x19 ((iy ByteArray.empty x17 x19).size : Int) (((iy ByteArray.empty x17 x19).size : Int) == 3))) else (none)) else (none)) else (some (x6, 0))
def dC.j1 : Nat → ByteArray → ByteArray → List ByteArray → Int → Int → Int → Bool → Option (ByteArray × Int)
 | 0, _, _, _, _, _, _, _ => none
 | k + 1, x6, x8, x17, x18, x19, x24, x25 => if x25 = true then (if 1 + x8.size ≤ 9223372036854775807 then (if ((⟨#[123]⟩ : ByteArray) ++ x8).size + 1 ≤ 9223372036854775807 then (if x6.size + (((⟨#[123]⟩ : ByteArray) ++ x8) ++ (⟨#[125]⟩ : ByteArray)).size ≤ 9223372036854775807 then (dC.l0 k (x6 ++ (((⟨#[123]⟩ : ByteArray) ++ x8) ++ (⟨#[125]⟩ : ByteArray))) x17 x18 (wrap64 (x19 + 1))) else (none)) else (none)) else (none)) else (if x24 = 1 then (if x6.size + x8.size ≤ 9223372036854775807 then (dC.l0 k (x6 ++ x8) x17 x18 (wrap64 (x19 + 1))) else (none)) else (if x6.size + 1 ≤ 9223372036854775807 then (dC.l0 k (x6 ++ (⟨#[45]⟩ : ByteArray)) x17 x18 (wrap64 (x19 + 1))) else (none)))
end
def dC.f (k : Nat) (bH : List (S66)) (bM : Int) (dG : Int) (dO : Int) (bD : List (List (S27))) : Option (ByteArray × Int) := (bE.f k bH bM dG dO bD).bind fun xW => (if xW.2 = 0 then (dC.l0 k (⟨#[]⟩ : ByteArray) xW.1 (xW.1.length : Int) 0) else (some ((⟨#[]⟩ : ByteArray), xW.2)))
theorem dC.iB : ∀ k, (∀ y0 y1 y2 y3, LeO (dC.l0 k y0 y1 y2 y3) (dC.l0 (k + 1) y0 y1 y2 y3)) ∧ (∀ y0 y1 y2 y3 y4 y5 y6, LeO (dC.j1 k y0 y1 y2 y3 y4 y5 y6) (dC.j1 (k + 1) y0 y1 y2 y3 y4 y5 y6))
 | 0 => ⟨fun _ _ _ _ r h => by simp [dC.l0] at h, fun _ _ _ _ _ _ _ r h => by simp [dC.j1] at h⟩
 | k + 1 => by
  obtain ⟨ih0, ih1⟩ := dC.iB k; refine ⟨?_, ?_⟩
  ·intro y0 y1 y2 y3; unfold dC.l0
   repeat' first | (with_reducible exact ih1 _ _ _ _ _ _ _) | (with_reducible exact LeO.refl _) | (with_reducible refine LeO.ite ?_ ?_)
  ·intro y0 y1 y2 y3 y4 y5 y6; unfold dC.j1
   repeat' first | (with_reducible exact ih0 _ _ _ _) | (with_reducible exact LeO.refl _) | (with_reducible refine LeO.ite ?_ ?_)
theorem dC.mono : ∀ a0 a1 a2 a3 a4 k, LeO (dC.f k a0 a1 a2 a3 a4) (dC.f (k + 1) a0 a1 a2 a3 a4) := by
 intro a0 a1 a2 a3 a4 k; obtain ⟨ih0, ih1⟩ := dC.iB k; unfold dC.f
 repeat' first | (with_reducible exact ih0 _ _ _ _) | (with_reducible exact bE.mono _ _ _ _ _ _) | (with_reducible exact LeO.refl _) | (with_reducible refine LeO.ite ?_ ?_) | (with_reducible refine LeO.bind ?_ (fun _ => ?_))
set_option maxHeartbeats 8000000 in
set_option maxRecDepth 100000 in
theorem dC.calls (k : Nat) (gF : Option Addr) (fV : Nat) (bH : List (S66)) (bM : Int) (dG : Int) (dO : Int) (gB : Option Addr) (fZ : Nat) (bD : List (List (S27))) (r1 : ByteArray) (r2 : Int) (w : World) (og : Kd.C k66 w gF bH.length bH) (qI : bH.length ≤ fV) (ol : Kd.C (Kd.slice 27 k27) w gB bD.length bD) (qJ : bD.length ≤ fZ) (h : dC.f k bH bM dG dO bD = some (r1, r2)) :
 Calls Try.prog 19 #[.agg #[.slice gF bH.length fV, .int .i64 bM, .int .i64 dG, .int .i64 dO, .slice gB bD.length fZ]] w fun e w' => e = .returned (.tuple #[.string r1, .int .i64 r2]) ∧ Below w.heap.size w w' := by
 have hu25 := Try.underlying25; have wz := aa.mk og; have yJ := aa.mk qI; clear og qI; have wH := aa.mk ol; have yh := aa.mk qJ; clear ol qJ; have HB := aa.mk (Below.refl w.heap.size w); have H : ((bE.f k bH bM dG dO bD).bind fun xW => (if xW.2 = 0 then (dC.l0 k (⟨#[]⟩ : ByteArray) xW.1 (xW.1.length : Int) 0) else (some ((⟨#[]⟩ : ByteArray), xW.2)))) = some (r1, r2) := h; clear h; replace H := Option.bind_eq_some_iff.mp H; obtain ⟨⟨kG, H7⟩, A20, H⟩ := H; dsimp only at H; have A2 := aa.mk A20; clear A20; by_cases c3 : H7 = 0
 ·rw [if_pos c3] at H; have xz : (H7 == 0) = true := beq_iff_eq.mpr c3; have Hl : (H7 != 0) = false := bne_eq_false_iff_eq.mpr c3; clear c3; have H' := aa.mk H; clear H; go_enter Try.func19, Try.ntmps19; (go_wp2_with (first | ((with_reducible refine dL (N := 1) rfl ?_); refine eG ?hg (N := 1) ?hd (cs := #[.slice gF bH.length fV, .int .i64 bM, .int .i64 dG, .int .i64 dO, .slice gB bD.length fZ]) (t := 25) ?hr ?_; (case hd => rfl); (case hg => rfl); (case hr => (go_simp; done)); intro Be hg w4 hbox hb; have rH := aa.mk (hbox); have abH := aa.mk ((by rw [hg]; exact (aK (by exact HB.out)) : w.heap.size ≤ Be)); have aaH := aa.mk ((by rw [hg]; exact (aK (by exact HB.out)) : w.heap.size ≤ Be)); replace HB := aa.mk (bn (by exact HB.out) hb); clear hb hbox hg; obtain ⟨Hm, IM, Il, YA, XC, Jt, I9, H9, YB, X8⟩ := cells5 rH.out) | ((with_reducible refine bC (f := 24) rfl ?_); refine fA (some 11) rfl rfl Try.func24 (by kernel_rfl) rfl #[.agg #[.slice gF bH.length fV, .int .i64 bM, .int .i64 dG, .int .i64 dO, .slice gB bD.length fZ]] rfl (by (simp only [List.map_toArray, List.map_cons, List.map_nil]); rfl) ?_; (with_reducible refine (bE.calls k _ _ bH bM dG dO _ _ bD kG H7 _ ?side1 ?side2 ?side3 ?side4 A2.out).mono ?_); (case side1 => repeat (exact (Kd.iK wz.out HB.out))); (case side2 => exact yJ.out); (case side3 => repeat (exact (Kd.iK wH.out HB.out))); (case side4 => exact yh.out); rintro e w6 ⟨agX, rfl, ho0, hb⟩; refine ⟨_, rfl, ?_⟩; have Md := aa.mk (Kd.fU ho0 (aK (by exact HB.out))); replace rH := aa.mk (aN (bU rH.out) hb); replace HB := aa.mk (bn (by exact HB.out) hb); clear hb; clear ho0; obtain ⟨Ao7, co7, eo7⟩ := Kd.eD Md.out; subst eo7))); (go_loopg [6, 19] k (fun kq v6 v19 w' => ∃ (gH : ByteArray) (gY : Int), v6 = .string gH ∧ v19 = .int .i64 gY ∧ aa (dC.l0 kq gH kG (kG.length : Int) gY = some (r1, r2)) ∧ aa (kq ≤ k) ∧ aa (Kd.R Kd.string 9 w' w.heap.size (fun _ => True) (.slice Ao7 kG.length co7) kG) ∧ aa (w'.heap[Be]? = some (.cells #[(.slice gF bH.length fV), .int .i64 bM, .int .i64 dG, .int .i64 dO, (.slice gB bD.length fZ)] 25 (0, 0))) ∧ aa (Below w.heap.size w w'))); case atStart => exact ⟨((⟨#[]⟩ : ByteArray)), (0), (by rfl), (by rfl), H', ⟨Nat.le_refl _⟩, ⟨by (with_reducible skip); exact Md.out⟩, ⟨by (with_reducible skip); exact rH.out⟩, ⟨by exact HB.out⟩⟩
  case round =>
   clear H' xz Hl Hm IM Il YA XC Jt I9 H9 YB X8; obtain ⟨gH, gY, rfl, rfl, HA, HK1, Cs, rH, HB⟩ := hrel
   cases gk with
   | zero => exact absurd HA.out (by simp [dC.l0])
   | succ k1 =>
    have H := HA.out; clear HA; simp only [dC.l0] at H; by_cases c8 : gY < (kG.length : Int)
    ·rw [if_pos c8] at H; have MZ : decide (gY < (kG.length : Int)) = true := decide_eq_true c8; clear c8; by_cases c9 : 0 ≤ gY
     ·rw [if_pos c9] at H; have Uf : decide (0 ≤ gY) = true := decide_eq_true c9; clear c9; by_cases c10 : gY < (kG.length : Int)
      ·rw [if_pos c10] at H; have Ac : decide (gY < (kG.length : Int)) = true := decide_eq_true c10; clear c10; have XH := aa.mk H; clear H; have Qr : 0 ≤ (gY : Int) := of_decide_eq_true (by with_reducible assumption); have RG : gY < (kG.length : Int) := of_decide_eq_true (by with_reducible assumption); obtain ⟨acT, e263, VW⟩ := Kd.qi (Kd.dD Cs.out).2.2 gY Qr RG; cases e263; replace Qr := eq_true Qr; replace RG := eq_true RG; (go_upto_if 25 with (fail)); go_cut [25] (fun v25 wc => ∃ (kq : Nat) (Fh : Bool), v25 = .bool Fh ∧ aa (dC.j1 kq gH (iy ByteArray.empty kG gY) kG (kG.length : Int) gY ((iy ByteArray.empty kG gY).size : Int) Fh = some (r1, r2)) ∧ aa (kq ≤ k1) ∧ aa (Kd.R Kd.string 9 wc w.heap.size (fun _ => True) (.slice (some acT) kG.length co7) kG) ∧ aa (wc.heap[Be]? = some (.cells #[(.slice gF bH.length fV), .int .i64 bM, .int .i64 dG, .int .i64 dO, (.slice gB bD.length fZ)] 25 (0, 0))) ∧ aa (Below w.heap.size w wc))
       case first =>
        have H := XH.out; clear XH; by_cases c12 : ((iy ByteArray.empty kG gY).size : Int) = 2
        ·rw [if_pos c12] at H; have Aj : (((iy ByteArray.empty kG gY).size : Int) == 2) = true := beq_iff_eq.mpr c12; have Ky : (((iy ByteArray.empty kG gY).size : Int) != 2) = false := bne_eq_false_iff_eq.mpr c12; clear c12; (rw [Aj]); have H' := aa.mk H; clear H; go_wp2; go_meet; case rel => exact ⟨_, ((((iy ByteArray.empty kG gY).size : Int) == 2)), (by simp [*]; done), H', ⟨by have := HK1.out; omega⟩, ⟨by (with_reducible skip); exact Cs.out⟩, ⟨by (with_reducible skip); exact rH.out⟩, ⟨by exact HB.out⟩⟩
        ·rw [if_neg c12] at H; have Aj : (((iy ByteArray.empty kG gY).size : Int) == 2) = false := beq_eq_false_iff_ne.mpr c12; have Ky : (((iy ByteArray.empty kG gY).size : Int) != 2) = true := bne_iff_ne.mpr c12; (rw [Aj]); have H' := aa.mk H; clear H; go_wp2; go_meet; case rel => exact ⟨_, ((((iy ByteArray.empty kG gY).size : Int) == 3)), (by rfl), H', ⟨by have := HK1.out; omega⟩, ⟨by (with_reducible skip); exact Cs.out⟩, ⟨by (with_reducible skip); exact rH.out⟩, ⟨by exact HB.out⟩⟩
       case rest =>
        clear XH MZ Uf Ac VW Qr RG; obtain ⟨kq, Fh, rfl, HA, HJ10, Cs, rH, HB⟩ := hcut
        cases kq with
        | zero => exact absurd HA.out (by simp [dC.j1])
        | succ kj10 =>
         have H := HA.out; clear HA; simp only [dC.j1] at H; by_cases c13 : Fh = true
         ·subst c13; rw [if_pos rfl] at H; by_cases c14 : 1 + (iy ByteArray.empty kG gY).size ≤ 9223372036854775807
          ·rw [if_pos c14] at H; have Gy := eq_true c14; have Gt : decide (1 + (iy ByteArray.empty kG gY).size ≤ 9223372036854775807) = true := decide_eq_true c14; have aiD : (9223372036854775807 < 1 + (iy ByteArray.empty kG gY).size) = False := eq_false (Nat.not_lt.2 c14); by_cases c15 : ((⟨#[123]⟩ : ByteArray) ++ (iy ByteArray.empty kG gY)).size + 1 ≤ 9223372036854775807
           ·rw [if_pos c15] at H; (have Ml : 1 + (iy ByteArray.empty kG gY).size + 1 ≤ 9223372036854775807 := by have h := c15; rw [ByteArray.size_append] at h; exact h); have ai2 := eq_true Ml; have ajh : decide (1 + (iy ByteArray.empty kG gY).size + 1 ≤ 9223372036854775807) = true := decide_eq_true Ml; have ajw : (9223372036854775807 < 1 + (iy ByteArray.empty kG gY).size + 1) = False := eq_false (Nat.not_lt.2 Ml); have Xd := eq_true c15; have aix : decide (((⟨#[123]⟩ : ByteArray) ++ (iy ByteArray.empty kG gY)).size + 1 ≤ 9223372036854775807) = true := decide_eq_true c15; have aj2 : (9223372036854775807 < ((⟨#[123]⟩ : ByteArray) ++ (iy ByteArray.empty kG gY)).size + 1) = False := eq_false (Nat.not_lt.2 c15); by_cases c16 : gH.size + (((⟨#[123]⟩ : ByteArray) ++ (iy ByteArray.empty kG gY)) ++ (⟨#[125]⟩ : ByteArray)).size ≤ 9223372036854775807
            ·rw [if_pos c16] at H; (have PQ : gH.size + (1 + (iy ByteArray.empty kG gY).size + 1) ≤ 9223372036854775807 := by have h := c16; rw [ByteArray.size_append, ByteArray.size_append] at h; exact h); have ais := eq_true PQ; have ajI : decide (gH.size + (1 + (iy ByteArray.empty kG gY).size + 1) ≤ 9223372036854775807) = true := decide_eq_true PQ; have aja : (9223372036854775807 < gH.size + (1 + (iy ByteArray.empty kG gY).size + 1)) = False := eq_false (Nat.not_lt.2 PQ); have ajD := eq_true c16; have aiE : decide (gH.size + (((⟨#[123]⟩ : ByteArray) ++ (iy ByteArray.empty kG gY)) ++ (⟨#[125]⟩ : ByteArray)).size ≤ 9223372036854775807) = true := decide_eq_true c16; have aik : (9223372036854775807 < gH.size + (((⟨#[123]⟩ : ByteArray) ++ (iy ByteArray.empty kG gY)) ++ (⟨#[125]⟩ : ByteArray)).size) = False := eq_false (Nat.not_lt.2 c16); have H' := aa.mk H; clear H; go_wp2; go_roundg kj10; (case measure => have := HK1.out; have := HJ10.out; omega); case rel => exact ⟨(gH ++ (((⟨#[123]⟩ : ByteArray) ++ (iy ByteArray.empty kG gY)) ++ (⟨#[125]⟩ : ByteArray))), (wrap64 (gY + 1)), (by rfl), (by rfl), H', ⟨by have := HK1.out; have := HJ10.out; omega⟩, ⟨by (with_reducible skip); exact Cs.out⟩, ⟨by (with_reducible skip); exact rH.out⟩, ⟨by exact HB.out⟩⟩
            ·rw [if_neg c16] at H; exact absurd H (by simp)
           ·rw [if_neg c15] at H; exact absurd H (by simp)
          ·rw [if_neg c14] at H; exact absurd H (by simp)
         ·replace c13 := Bool.eq_false_iff.mpr c13; subst c13; rw [if_neg (show ¬ (false = true) by decide)] at H; by_cases c17 : ((iy ByteArray.empty kG gY).size : Int) = 1
          ·rw [if_pos c17] at H; have J3 : (((iy ByteArray.empty kG gY).size : Int) == 1) = true := beq_iff_eq.mpr c17; have acz : (((iy ByteArray.empty kG gY).size : Int) != 1) = false := bne_eq_false_iff_eq.mpr c17; clear c17; by_cases c18 : gH.size + (iy ByteArray.empty kG gY).size ≤ 9223372036854775807
           ·rw [if_pos c18] at H; have GI := eq_true c18; have ai4 : decide (gH.size + (iy ByteArray.empty kG gY).size ≤ 9223372036854775807) = true := decide_eq_true c18; have aiv : (9223372036854775807 < gH.size + (iy ByteArray.empty kG gY).size) = False := eq_false (Nat.not_lt.2 c18); have H' := aa.mk H; clear H; go_wp2; go_roundg kj10; (case measure => have := HK1.out; have := HJ10.out; omega); case rel => exact ⟨(gH ++ (iy ByteArray.empty kG gY)), (wrap64 (gY + 1)), (by rfl), (by rfl), H', ⟨by have := HK1.out; have := HJ10.out; omega⟩, ⟨by (with_reducible skip); exact Cs.out⟩, ⟨by (with_reducible skip); exact rH.out⟩, ⟨by exact HB.out⟩⟩
           ·rw [if_neg c18] at H; exact absurd H (by simp)
          ·rw [if_neg c17] at H; have J3 : (((iy ByteArray.empty kG gY).size : Int) == 1) = false := beq_eq_false_iff_ne.mpr c17; have acz : (((iy ByteArray.empty kG gY).size : Int) != 1) = true := bne_iff_ne.mpr c17; by_cases c19 : gH.size + 1 ≤ 9223372036854775807
           ·rw [if_pos c19] at H; have WC := eq_true c19; have ajV : decide (gH.size + 1 ≤ 9223372036854775807) = true := decide_eq_true c19; have ajC : (9223372036854775807 < gH.size + 1) = False := eq_false (Nat.not_lt.2 c19); have H' := aa.mk H; clear H; go_wp2; go_roundg kj10; (case measure => have := HK1.out; have := HJ10.out; omega); case rel => exact ⟨(gH ++ (⟨#[45]⟩ : ByteArray)), (wrap64 (gY + 1)), (by rfl), (by rfl), H', ⟨by have := HK1.out; have := HJ10.out; omega⟩, ⟨by (with_reducible skip); exact Cs.out⟩, ⟨by (with_reducible skip); exact rH.out⟩, ⟨by exact HB.out⟩⟩
           ·rw [if_neg c19] at H; exact absurd H (by simp)
      ·rw [if_neg c10] at H; exact absurd H (by simp)
     ·rw [if_neg c9] at H; exact absurd H (by simp)
    ·rw [if_neg c8] at H; have MZ : decide (gY < (kG.length : Int)) = false := decide_eq_false c8; clear c8; simp only [Option.some.injEq, Prod.mk.injEq] at H; obtain ⟨rfl, rfl⟩ := H; go_wp2
     go_ret2
     exact ⟨by rfl, by exact HB.out⟩
 ·rw [if_neg c3] at H; have xz : (H7 == 0) = false := beq_eq_false_iff_ne.mpr c3; have Hl : (H7 != 0) = true := bne_iff_ne.mpr c3; simp only [Option.some.injEq, Prod.mk.injEq] at H; obtain ⟨rfl, rfl⟩ := H; go_enter Try.func19, Try.ntmps19; go_wp2_with (first | ((with_reducible refine dL (N := 1) rfl ?_); refine eG ?hg (N := 1) ?hd (cs := #[.slice gF bH.length fV, .int .i64 bM, .int .i64 dG, .int .i64 dO, .slice gB bD.length fZ]) (t := 25) ?hr ?_; (case hd => rfl); (case hg => rfl); (case hr => (go_simp; done)); intro Be hg w20 hbox hb; have rH := aa.mk (hbox); have abH := aa.mk ((by rw [hg]; exact (aK (by exact HB.out)) : w.heap.size ≤ Be)); have aaH := aa.mk ((by rw [hg]; exact (aK (by exact HB.out)) : w.heap.size ≤ Be)); replace HB := aa.mk (bn (by exact HB.out) hb); clear hb hbox hg; obtain ⟨V8, Ul, VY, ae0, aeQ, Vy, Rq, QR, afg, afk⟩ := cells5 rH.out) | ((with_reducible refine bC (f := 24) rfl ?_); refine fA (some 11) rfl rfl Try.func24 (by kernel_rfl) rfl #[.agg #[.slice gF bH.length fV, .int .i64 bM, .int .i64 dG, .int .i64 dO, .slice gB bD.length fZ]] rfl (by (simp only [List.map_toArray, List.map_cons, List.map_nil]); rfl) ?_; (with_reducible refine (bE.calls k _ _ bH bM dG dO _ _ bD kG H7 _ ?side1 ?side2 ?side3 ?side4 A2.out).mono ?_); (case side1 => repeat (exact (Kd.iK wz.out HB.out))); (case side2 => exact yJ.out); (case side3 => repeat (exact (Kd.iK wH.out HB.out))); (case side4 => exact yh.out); rintro e w22 ⟨agX, rfl, ho0, hb⟩; refine ⟨_, rfl, ?_⟩; have Md := aa.mk (Kd.fU ho0 (aK (by exact HB.out))); replace rH := aa.mk (aN (bU rH.out) hb); replace HB := aa.mk (bn (by exact HB.out) hb); clear hb; (clear ho0)))
  go_ret2
  exact ⟨by rfl, by exact HB.out⟩
def eT.f (k : Nat)  : Option (Bool) := (gI.f).bind fun wD => ((bE.f k wD.1 wD.2.1 wD.2.2.1 wD.2.2.2.1 wD.2.2.2.2).bind fun Fy => ((gI.f).bind fun wh => ((dC.f k wh.1 wh.2.1 wh.2.2.1 wh.2.2.2.1 wh.2.2.2.2).bind fun GQ => ((kT.f 1 (([(⟨15, 15⟩ : S27)] : List (S27)))).bind fun qD => ((ib.f qD.1 qD.2.1 qD.2.2.1 qD.2.2.2.1 qD.2.2.2.2).bind fun Ad => (if Fy.2 = 0 then (if GQ.2 = 0 then (if Ad.2 = 0 then (if Ad.1 = 1 then (if GQ.1.toList = ([65, 123, 65, 76, 125, 84] : List UInt8) then ((bR.f k Fy.1 (([(⟨#[65]⟩ : ByteArray), (⟨#[65, 76]⟩ : ByteArray), (⟨#[84]⟩ : ByteArray)] : List ByteArray))).bind fun EJ => (some EJ)) else (some false)) else (some false)) else (some false)) else (some false)) else (some false)))))))
theorem eT.mono : ∀ k, LeO (eT.f k ) (eT.f (k + 1) ) := by
 intro  k; unfold eT.f
 repeat' first | (with_reducible exact bR.mono _ _ _) | (with_reducible exact bE.mono _ _ _ _ _ _) | (with_reducible exact dC.mono _ _ _ _ _ _) | (with_reducible exact LeO.refl _) | (with_reducible refine LeO.ite ?_ ?_) | (with_reducible refine LeO.bind ?_ (fun _ => ?_))
set_option maxRecDepth 100000 in
theorem G9 : eT.f 60 = some true := by decide +kernel
theorem Hy {k : Nat} {r : Bool} (h : eT.f k = some r) : r = true := by
 have h1 := zD eT.mono (Nat.le_max_left k 60) h; have h2 := zD eT.mono (Nat.le_max_right k 60) G9; exact Option.some.inj (h1.symm.trans h2)
set_option maxHeartbeats 8000000 in
set_option maxRecDepth 100000 in
theorem eT.calls (k : Nat)  (r : Bool) (w : World) (h : eT.f k  = some r) :
 Calls Try.prog 14 #[] w fun e w' => e = .returned (.bool r) ∧ Below w.heap.size w w' := by
 have hrT := Hy h; have hu27 := Try.underlying27; have HB := aa.mk (Below.refl w.heap.size w); have H : ((gI.f).bind fun wD => ((bE.f k wD.1 wD.2.1 wD.2.2.1 wD.2.2.2.1 wD.2.2.2.2).bind fun Fy => ((gI.f).bind fun wh => ((dC.f k wh.1 wh.2.1 wh.2.2.1 wh.2.2.2.1 wh.2.2.2.2).bind fun GQ => ((kT.f 1 (([(⟨15, 15⟩ : S27)] : List (S27)))).bind fun qD => ((ib.f qD.1 qD.2.1 qD.2.2.1 qD.2.2.2.1 qD.2.2.2.2).bind fun Ad => (if Fy.2 = 0 then (if GQ.2 = 0 then (if Ad.2 = 0 then (if Ad.1 = 1 then (if GQ.1.toList = ([65, 123, 65, 76, 125, 84] : List UInt8) then ((bR.f k Fy.1 (([(⟨#[65]⟩ : ByteArray), (⟨#[65, 76]⟩ : ByteArray), (⟨#[84]⟩ : ByteArray)] : List ByteArray))).bind fun EJ => (some EJ)) else (some false)) else (some false)) else (some false)) else (some false)) else (some false)))))))) = some r := h; clear h; replace H := Option.bind_eq_some_iff.mp H; obtain ⟨⟨Jc, Ya, XT, ZG, Ie⟩, A10, H⟩ := H; dsimp only at H; have A1 := aa.mk A10; clear A10; replace H := Option.bind_eq_some_iff.mp H; obtain ⟨⟨TP, Nk⟩, A20, H⟩ := H; dsimp only at H; have A2 := aa.mk A20; clear A20; replace H := Option.bind_eq_some_iff.mp H; obtain ⟨⟨Pv, Yg, Yi, Ze, PU⟩, A30, H⟩ := H; dsimp only at H; have A3 := aa.mk A30; clear A30; replace H := Option.bind_eq_some_iff.mp H; obtain ⟨⟨Qk, ND⟩, A40, H⟩ := H; dsimp only at H; have A4 := aa.mk A40; clear A40; obtain ⟨TR, OV⟩ : ∃ y_ : List (S27), y_ = (([(⟨15, 15⟩ : S27)] : List (S27))) := ⟨_, rfl⟩; (replace H : ((kT.f 1 TR).bind fun qD => ((ib.f qD.1 qD.2.1 qD.2.2.1 qD.2.2.2.1 qD.2.2.2.2).bind fun Ad => (if Nk = 0 then (if ND = 0 then (if Ad.2 = 0 then (if Ad.1 = 1 then (if Qk.toList = ([65, 123, 65, 76, 125, 84] : List UInt8) then ((bR.f k TP (([(⟨#[65]⟩ : ByteArray), (⟨#[65, 76]⟩ : ByteArray), (⟨#[84]⟩ : ByteArray)] : List ByteArray))).bind fun EJ => (some EJ)) else (some false)) else (some false)) else (some false)) else (some false)) else (some false)))) = some r := by (rw [OV]; with_reducible exact H)); have acu := aa.mk OV; clear OV; replace H := Option.bind_eq_some_iff.mp H; obtain ⟨⟨X3, Yu, ZA, YQ, YZ⟩, A50, H⟩ := H; dsimp only at H; have A5 := aa.mk A50; clear A50; replace H := Option.bind_eq_some_iff.mp H; obtain ⟨⟨Su, Vg⟩, A60, H⟩ := H; dsimp only at H; have A6 := aa.mk A60; clear A60; by_cases c7 : Nk = 0
 ·rw [if_pos c7] at H; have XY : (Nk == 0) = true := beq_iff_eq.mpr c7; have ak2 : (Nk != 0) = false := bne_eq_false_iff_eq.mpr c7; clear c7; by_cases c8 : ND = 0
  ·rw [if_pos c8] at H; have MZ : (ND == 0) = true := beq_iff_eq.mpr c8; have akt : (ND != 0) = false := bne_eq_false_iff_eq.mpr c8; clear c8; by_cases c9 : Vg = 0
   ·rw [if_pos c9] at H; have Uf : (Vg == 0) = true := beq_iff_eq.mpr c9; have akx : (Vg != 0) = false := bne_eq_false_iff_eq.mpr c9; clear c9; by_cases c10 : Su = 1
    ·rw [if_pos c10] at H; have Ac : (Su == 1) = true := beq_iff_eq.mpr c10; have akc : (Su != 1) = false := bne_eq_false_iff_eq.mpr c10; clear c10; by_cases c11 : Qk.toList = ([65, 123, 65, 76, 125, 84] : List UInt8)
     ·rw [if_pos c11] at H; have NQ : (Qk.toList == ([65, 123, 65, 76, 125, 84] : List UInt8)) = true := beq_iff_eq.mpr c11; have aiK : (Qk.toList != ([65, 123, 65, 76, 125, 84] : List UInt8)) = false := bne_eq_false_iff_eq.mpr c11; clear c11; obtain ⟨abt, Nl⟩ : ∃ y_ : List ByteArray, y_ = (([(⟨#[65]⟩ : ByteArray), (⟨#[65, 76]⟩ : ByteArray), (⟨#[84]⟩ : ByteArray)] : List ByteArray)) := ⟨_, rfl⟩; (replace H : ((bR.f k TP abt).bind fun EJ => (some EJ)) = some r := by (rw [Nl]; with_reducible exact H)); have ab9 := aa.mk Nl; clear Nl; replace H := Option.bind_eq_some_iff.mp H; obtain ⟨EJ, Z9, H⟩ := H; have A12 := aa.mk Z9; clear Z9; obtain rfl := Option.some.inj H; go_enter Try.func14, Try.ntmps14; go_wp2_with (first | ((with_reducible refine bC (f := 48) rfl ?_); refine fA (some 8) rfl rfl Try.func48 (by kernel_rfl) rfl #[] rfl (by (simp only [List.map_toArray, List.map_cons, List.map_nil]); done) ?_; (with_reducible refine (gI.calls  Jc Ya XT ZG Ie _ A1.out).mono ?_); rintro e w13 ⟨af2, ah1, rfl, ho0, ho1, hb⟩; refine ⟨_, rfl, ?_⟩; have kM := aa.mk (Kd.mR (Kd.aH (ok' := fun k_ => some k_ ≠ (ah1 : Value).ownBlock) ho0 (fun k_ hk_ => hk_.2)) (aK (by exact HB.out))); have kN := aa.mk (Kd.mR (Kd.aH (ok' := fun k_ => some k_ ≠ (af2 : Value).ownBlock) ho1 (fun k_ hk_ => hk_.2)) (aK (by exact HB.out))); replace HB := aa.mk (bn (by exact HB.out) hb); clear hb; clear ho0; clear ho1; obtain ⟨jB, gL, X5⟩ := Kd.jS kM.out; subst X5; obtain ⟨CZ, CP, Ps⟩ := Kd.jS kN.out; subst Ps) | ((with_reducible refine bC (f := 24) rfl ?_); refine fA (some 9) rfl rfl Try.func24 (by kernel_rfl) rfl #[.agg #[.slice jB Jc.length gL, .int .i64 Ya, .int .i64 XT, .int .i64 ZG, .slice CZ Ie.length CP]] rfl (by (simp only [List.map_toArray, List.map_cons, List.map_nil]); rfl) ?_; (with_reducible refine (bE.calls k _ _ Jc Ya XT ZG _ _ Ie TP Nk _ ?side1 ?side2 ?side3 ?side4 A2.out).mono ?_); (case side1 => repeat (exact (Kd.eF kM.out).2.2)); (case side2 => exact (Kd.eF kM.out).2.1); (case side3 => repeat (exact (Kd.eF kN.out).2.2)); (case side4 => exact (Kd.eF kN.out).2.1); rintro e w16 ⟨VE, rfl, ho0, hb⟩; refine ⟨_, rfl, ?_⟩; replace kM := aa.mk (Kd.dB (nU kM.out) (Kd.cz ho0) hb); replace kN := aa.mk (Kd.dB (nU kN.out) (Kd.cz ho0) hb); have kX := aa.mk (Kd.fU ho0 (aK (by exact HB.out))); replace HB := aa.mk (bn (by exact HB.out) hb); clear hb; (clear ho0)) | ((with_reducible refine bC (f := 48) rfl ?_); refine fA (some 13) rfl rfl Try.func48 (by kernel_rfl) rfl #[] rfl (by (simp only [List.map_toArray, List.map_cons, List.map_nil]); done) ?_; (with_reducible refine (gI.calls  Pv Yg Yi Ze PU _ A3.out).mono ?_); rintro e w17 ⟨agk, agw, rfl, ho0, ho1, hb⟩; refine ⟨_, rfl, ?_⟩; have mH := aa.mk (Kd.mR (Kd.aH (ok' := fun k_ => some k_ ≠ (agw : Value).ownBlock ∧ some k_ ≠ (.slice jB Jc.length gL : Value).ownBlock ∧ some k_ ≠ (.slice CZ Ie.length CP : Value).ownBlock ∧ some k_ ≠ (VE : Value).ownBlock) ho0 (fun k_ hk_ => ⟨hk_.2, (Kd.gD (Kd.rV (nU kM.out)) k_ hk_.1), (Kd.gD (Kd.rV (nU kN.out)) k_ hk_.1), (Kd.gD (Kd.kQ (rU kX.out)) k_ hk_.1)⟩)) (aK (by exact HB.out))); have mG := aa.mk (Kd.mR (Kd.aH (ok' := fun k_ => some k_ ≠ (agk : Value).ownBlock ∧ some k_ ≠ (.slice jB Jc.length gL : Value).ownBlock ∧ some k_ ≠ (.slice CZ Ie.length CP : Value).ownBlock ∧ some k_ ≠ (VE : Value).ownBlock) ho1 (fun k_ hk_ => ⟨hk_.2, (Kd.gD (Kd.rV (nU kM.out)) k_ hk_.1), (Kd.gD (Kd.rV (nU kN.out)) k_ hk_.1), (Kd.gD (Kd.kQ (rU kX.out)) k_ hk_.1)⟩)) (aK (by exact HB.out))); replace kM := aa.mk (Kd.aH (Kd.lJ (Kd.lJ (Kd.DI (nU kM.out) hb) (Kd.mO ho0)) (Kd.mO ho1)) (fun _ h_ => h_.1)); replace kN := aa.mk (Kd.aH (Kd.lJ (Kd.lJ (Kd.DI (nU kN.out) hb) (Kd.mO ho0)) (Kd.mO ho1)) (fun _ h_ => h_.1)); replace kX := aa.mk (Kd.dz (rU kX.out) hb); replace HB := aa.mk (bn (by exact HB.out) hb); clear hb; clear ho0; clear ho1; obtain ⟨Yl, Yn, ag7⟩ := Kd.jS mH.out; subst ag7; obtain ⟨ZF, YS, af1⟩ := Kd.jS mG.out; subst af1) | ((with_reducible refine bC (f := 19) rfl ?_); refine fA (some 14) rfl rfl Try.func19 (by kernel_rfl) rfl #[.agg #[.slice Yl Pv.length Yn, .int .i64 Yg, .int .i64 Yi, .int .i64 Ze, .slice ZF PU.length YS]] rfl (by (simp only [List.map_toArray, List.map_cons, List.map_nil]); rfl) ?_; (with_reducible refine (dC.calls k _ _ Pv Yg Yi Ze _ _ PU Qk ND _ ?side1 ?side2 ?side3 ?side4 A4.out).mono ?_); (case side1 => repeat (exact (Kd.eF mH.out).2.2)); (case side2 => exact (Kd.eF mH.out).2.1); (case side3 => repeat (exact (Kd.eF mG.out).2.2)); (case side4 => exact (Kd.eF mG.out).2.1); rintro e w20 ⟨rfl, hb⟩; refine ⟨_, rfl, ?_⟩; replace kM := aa.mk (Kd.fQ (nU kM.out) hb); replace kN := aa.mk (Kd.fQ (nU kN.out) hb); replace kX := aa.mk (Kd.dz (rU kX.out) hb); replace mH := aa.mk (Kd.fQ (nU mH.out) hb); replace mG := aa.mk (Kd.fQ (nU mG.out) hb); replace HB := aa.mk (bn (by exact HB.out) hb); (clear hb)) | ((with_reducible refine dL (N := 19) rfl ?_); ((refine qd (by rfl) ?_; dsimp only)); refine Kd.ve k27 _ 27 ?hg (N := 19) ?hd (xs := ([(⟨15, 15⟩ : S27)] : List (S27))) (inner := [.int .i64 15, .int .i64 15]) (ok := fun _ => True) (okp := fun _ => True) ?hr ?hp (fun _ hk => hk) trivial (Below.refl _ _) (Nat.le_refl _) (by simp) ?_; (case hd => rfl); (case hg => rfl); (case hr => (go_simp; done)); (case hp => exact (fF.c2 (show Kd.M k27 _ _ _ (⟨15, 15⟩ : S27) [.int .i64 15, .int .i64 15] from (wT _ _ _ (⟨15, 15⟩ : S27) )) (fF.none _ _))); intro akI w21 Jh hb hg_ hnew_; clear hg_ hnew_; (rw [← acu.out] at Jh); replace kM := aa.mk (Kd.dB (nU kM.out) (Kd.cz Jh) hb); replace kN := aa.mk (Kd.dB (nU kN.out) (Kd.cz Jh) hb); replace kX := aa.mk (Kd.dz (rU kX.out) hb); replace mH := aa.mk (Kd.dB (nU mH.out) (Kd.cz Jh) hb); replace mG := aa.mk (Kd.dB (nU mG.out) (Kd.cz Jh) hb); have pW := aa.mk (Kd.fU Jh (aK (by exact HB.out))); replace HB := aa.mk (bn (by exact HB.out) hb); clear hb Jh; obtain ⟨NZ, Oa, Zn⟩ := Kd.eD pW.out; subst Zn) | ((with_reducible refine bC (f := 49) rfl ?_); refine fA (some 20) rfl rfl Try.func49 (by kernel_rfl) rfl #[.int .i64 1, .slice NZ TR.length Oa] rfl (by (simp only [List.map_toArray, List.map_cons, List.map_nil]); rfl) ?_; (with_reducible refine (kT.calls 1 (fun k_ => some k_ = (.slice NZ TR.length Oa : Value).ownBlock) _ _ TR X3 Yu ZA YQ YZ _ ?side1 A5.out).mono ?_); (case side1 => exact Kd.R_V (Kd.KV rfl (Kd.bB (Kd.bB (Kd.bB (Kd.bB (Kd.bB (pW.out) (Kd.di kM.out) (by decide)) (Kd.di kN.out) (by decide)) (Kd.fO kX.out) (by decide)) (Kd.di mH.out) (by decide)) (Kd.di mG.out) (by decide)))); rintro e w24 ⟨agr, ahh, rfl, ho0, ho1, hb⟩; refine ⟨_, rfl, ?_⟩; have Cw := aa.mk (Kd.mR (Kd.aH (ok' := fun k_ => some k_ ≠ (ahh : Value).ownBlock ∧ some k_ ≠ (.slice jB Jc.length gL : Value).ownBlock ∧ some k_ ≠ (.slice CZ Ie.length CP : Value).ownBlock ∧ some k_ ≠ (VE : Value).ownBlock ∧ some k_ ≠ (.slice Yl Pv.length Yn : Value).ownBlock ∧ some k_ ≠ (.slice ZF PU.length YS : Value).ownBlock) ho0 (fun k_ hk_ => ⟨hk_.2, Or.elim hk_.1 (fun hs_ => ((Kd.bB (Kd.bB (Kd.bB (Kd.bB (Kd.bB (pW.out) (Kd.di kM.out) (by decide)) (Kd.di kN.out) (by decide)) (Kd.fO kX.out) (by decide)) (Kd.di mH.out) (by decide)) (Kd.di mG.out) (by decide)).1 k_ hs_.symm).1.1.1.1.2) (fun hn_ => (Kd.gD (Kd.rV (nU kM.out)) k_ hn_)), Or.elim hk_.1 (fun hs_ => ((Kd.bB (Kd.bB (Kd.bB (Kd.bB (Kd.bB (pW.out) (Kd.di kM.out) (by decide)) (Kd.di kN.out) (by decide)) (Kd.fO kX.out) (by decide)) (Kd.di mH.out) (by decide)) (Kd.di mG.out) (by decide)).1 k_ hs_.symm).1.1.1.2) (fun hn_ => (Kd.gD (Kd.rV (nU kN.out)) k_ hn_)), Or.elim hk_.1 (fun hs_ => ((Kd.bB (Kd.bB (Kd.bB (Kd.bB (Kd.bB (pW.out) (Kd.di kM.out) (by decide)) (Kd.di kN.out) (by decide)) (Kd.fO kX.out) (by decide)) (Kd.di mH.out) (by decide)) (Kd.di mG.out) (by decide)).1 k_ hs_.symm).1.1.2) (fun hn_ => (Kd.gD (Kd.kQ (rU kX.out)) k_ hn_)), Or.elim hk_.1 (fun hs_ => ((Kd.bB (Kd.bB (Kd.bB (Kd.bB (Kd.bB (pW.out) (Kd.di kM.out) (by decide)) (Kd.di kN.out) (by decide)) (Kd.fO kX.out) (by decide)) (Kd.di mH.out) (by decide)) (Kd.di mG.out) (by decide)).1 k_ hs_.symm).1.2) (fun hn_ => (Kd.gD (Kd.rV (nU mH.out)) k_ hn_)), Or.elim hk_.1 (fun hs_ => ((Kd.bB (Kd.bB (Kd.bB (Kd.bB (Kd.bB (pW.out) (Kd.di kM.out) (by decide)) (Kd.di kN.out) (by decide)) (Kd.fO kX.out) (by decide)) (Kd.di mH.out) (by decide)) (Kd.di mG.out) (by decide)).1 k_ hs_.symm).2) (fun hn_ => (Kd.gD (Kd.rV (nU mG.out)) k_ hn_))⟩)) (aK (by exact HB.out))); have Bi := aa.mk (Kd.mR (Kd.aH (ok' := fun k_ => some k_ ≠ (agr : Value).ownBlock ∧ some k_ ≠ (.slice jB Jc.length gL : Value).ownBlock ∧ some k_ ≠ (.slice CZ Ie.length CP : Value).ownBlock ∧ some k_ ≠ (VE : Value).ownBlock ∧ some k_ ≠ (.slice Yl Pv.length Yn : Value).ownBlock ∧ some k_ ≠ (.slice ZF PU.length YS : Value).ownBlock) ho1 (fun k_ hk_ => ⟨hk_.2, Or.elim hk_.1 (fun hs_ => ((Kd.bB (Kd.bB (Kd.bB (Kd.bB (Kd.bB (pW.out) (Kd.di kM.out) (by decide)) (Kd.di kN.out) (by decide)) (Kd.fO kX.out) (by decide)) (Kd.di mH.out) (by decide)) (Kd.di mG.out) (by decide)).1 k_ hs_.symm).1.1.1.1.2) (fun hn_ => (Kd.gD (Kd.rV (nU kM.out)) k_ hn_)), Or.elim hk_.1 (fun hs_ => ((Kd.bB (Kd.bB (Kd.bB (Kd.bB (Kd.bB (pW.out) (Kd.di kM.out) (by decide)) (Kd.di kN.out) (by decide)) (Kd.fO kX.out) (by decide)) (Kd.di mH.out) (by decide)) (Kd.di mG.out) (by decide)).1 k_ hs_.symm).1.1.1.2) (fun hn_ => (Kd.gD (Kd.rV (nU kN.out)) k_ hn_)), Or.elim hk_.1 (fun hs_ => ((Kd.bB (Kd.bB (Kd.bB (Kd.bB (Kd.bB (pW.out) (Kd.di kM.out) (by decide)) (Kd.di kN.out) (by decide)) (Kd.fO kX.out) (by decide)) (Kd.di mH.out) (by decide)) (Kd.di mG.out) (by decide)).1 k_ hs_.symm).1.1.2) (fun hn_ => (Kd.gD (Kd.kQ (rU kX.out)) k_ hn_)), Or.elim hk_.1 (fun hs_ => ((Kd.bB (Kd.bB (Kd.bB (Kd.bB (Kd.bB (pW.out) (Kd.di kM.out) (by decide)) (Kd.di kN.out) (by decide)) (Kd.fO kX.out) (by decide)) (Kd.di mH.out) (by decide)) (Kd.di mG.out) (by decide)).1 k_ hs_.symm).1.2) (fun hn_ => (Kd.gD (Kd.rV (nU mH.out)) k_ hn_)), Or.elim hk_.1 (fun hs_ => ((Kd.bB (Kd.bB (Kd.bB (Kd.bB (Kd.bB (pW.out) (Kd.di kM.out) (by decide)) (Kd.di kN.out) (by decide)) (Kd.fO kX.out) (by decide)) (Kd.di mH.out) (by decide)) (Kd.di mG.out) (by decide)).1 k_ hs_.symm).2) (fun hn_ => (Kd.gD (Kd.rV (nU mG.out)) k_ hn_))⟩)) (aK (by exact HB.out))); replace kM := aa.mk (Kd.aH (Kd.lJ (Kd.lJ (Kd.DI (nU kM.out) hb) (Kd.mO ho0)) (Kd.mO ho1)) (fun _ h_ => h_.1)); replace kN := aa.mk (Kd.aH (Kd.lJ (Kd.lJ (Kd.DI (nU kN.out) hb) (Kd.mO ho0)) (Kd.mO ho1)) (fun _ h_ => h_.1)); replace kX := aa.mk (Kd.dz (rU kX.out) hb); replace mH := aa.mk (Kd.aH (Kd.lJ (Kd.lJ (Kd.DI (nU mH.out) hb) (Kd.mO ho0)) (Kd.mO ho1)) (fun _ h_ => h_.1)); replace mG := aa.mk (Kd.aH (Kd.lJ (Kd.lJ (Kd.DI (nU mG.out) hb) (Kd.mO ho0)) (Kd.mO ho1)) (fun _ h_ => h_.1)); replace pW := aa.mk (Kd.dz (rU pW.out) hb); replace HB := aa.mk (bn (by exact HB.out) hb); clear hb; clear ho0; clear ho1; obtain ⟨Uu, Sb, Xw⟩ := Kd.jS Cw.out; subst Xw; obtain ⟨agQ, aia, ag6⟩ := Kd.jS Bi.out; subst ag6) | ((with_reducible refine bC (f := 21) rfl ?_); refine fA (some 21) rfl rfl Try.func21 (by kernel_rfl) rfl #[.agg #[.slice Uu X3.length Sb, .int .i64 Yu, .int .i64 ZA, .int .i64 YQ, .slice agQ YZ.length aia]] rfl (by (simp only [List.map_toArray, List.map_cons, List.map_nil]); rfl) ?_; (with_reducible refine (ib.calls _ _ X3 Yu ZA YQ _ _ YZ Su Vg _ ?side1 ?side2 ?side3 ?side4 A6.out).mono ?_); (case side1 => repeat (exact (Kd.eF Cw.out).2.2)); (case side2 => exact (Kd.eF Cw.out).2.1); (case side3 => repeat (exact (Kd.eF Bi.out).2.2)); (case side4 => exact (Kd.eF Bi.out).2.1); rintro e w27 ⟨rfl, hb⟩; refine ⟨_, rfl, ?_⟩; replace kM := aa.mk (Kd.fQ (nU kM.out) hb); replace kN := aa.mk (Kd.fQ (nU kN.out) hb); replace kX := aa.mk (Kd.dz (rU kX.out) hb); replace mH := aa.mk (Kd.fQ (nU mH.out) hb); replace mG := aa.mk (Kd.fQ (nU mG.out) hb); replace pW := aa.mk (Kd.dz (rU pW.out) hb); replace Cw := aa.mk (Kd.fQ (nU Cw.out) hb); replace Bi := aa.mk (Kd.fQ (nU Bi.out) hb); replace HB := aa.mk (bn (by exact HB.out) hb); (clear hb)) | ((with_reducible refine dL (N := 44) rfl ?_); ((refine qd (by rfl) ?_; dsimp only)); refine Kd.ve Kd.string _ 9 ?hg (N := 44) ?hd (xs := ([(⟨#[65]⟩ : ByteArray), (⟨#[65, 76]⟩ : ByteArray), (⟨#[84]⟩ : ByteArray)] : List ByteArray)) (inner := [.string (⟨#[65]⟩ : ByteArray), .string (⟨#[65, 76]⟩ : ByteArray), .string (⟨#[84]⟩ : ByteArray)]) (ok := fun _ => True) (okp := fun _ => True) ?hr ?hp (fun _ hk => hk) trivial (Below.refl _ _) (Nat.le_refl _) (by simp) ?_; (case hd => rfl); (case hg => rfl); (case hr => (go_simp; done)); (case hp => exact (fF.one (show Kd.M Kd.string _ _ _ (⟨#[65]⟩ : ByteArray) [.string (⟨#[65]⟩ : ByteArray)] from rfl) (fF.one (show Kd.M Kd.string _ _ _ (⟨#[65, 76]⟩ : ByteArray) [.string (⟨#[65, 76]⟩ : ByteArray)] from rfl) (fF.one (show Kd.M Kd.string _ _ _ (⟨#[84]⟩ : ByteArray) [.string (⟨#[84]⟩ : ByteArray)] from rfl) (fF.none _ _))))); intro akz w28 CR hb hg_ hnew_; clear hg_ hnew_; (rw [← ab9.out] at CR); replace kM := aa.mk (Kd.dB (nU kM.out) (Kd.cz CR) hb); replace kN := aa.mk (Kd.dB (nU kN.out) (Kd.cz CR) hb); replace mH := aa.mk (Kd.dB (nU mH.out) (Kd.cz CR) hb); replace mG := aa.mk (Kd.dB (nU mG.out) (Kd.cz CR) hb); replace pW := aa.mk (Kd.dz (rU pW.out) hb); replace Cw := aa.mk (Kd.dB (nU Cw.out) (Kd.cz CR) hb); replace Bi := aa.mk (Kd.dB (nU Bi.out) (Kd.cz CR) hb); have PR := aa.mk (Kd.fU (Kd.kv CR (Kd.kQ (rU kX.out))) (aK (by exact HB.out))); replace kX := aa.mk (Kd.jl (rU kX.out) (Kd.cz CR) hb); replace HB := aa.mk (bn (by exact HB.out) hb); clear hb CR; obtain ⟨akL, akO, af6⟩ := Kd.eD kX.out; subst af6; obtain ⟨akX, ak6, agf⟩ := Kd.eD PR.out; subst agf) | (go_at_call 42; (with_reducible refine (bR.calls k _ _ TP _ _ abt EJ _ ?side1 ?side2 ?side3 ?side4 A12.out).mono ?_); (case side1 => repeat (exact (Kd.dD kX.out).2.2)); (case side2 => exact (Kd.dD kX.out).2.1); (case side3 => repeat (exact (Kd.dD PR.out).2.2)); (case side4 => exact (Kd.dD PR.out).2.1); rintro e w' ⟨rfl, ⟨nd, rfl⟩⟩))
      go_ret
      exact ⟨by simp [*, K5, LK] <;> rfl, by exact lU HB.out⟩
     ·rw [if_neg c11] at H; exact absurd ((Option.some.inj H).trans hrT) (by decide)
    ·rw [if_neg c10] at H; exact absurd ((Option.some.inj H).trans hrT) (by decide)
   ·rw [if_neg c9] at H; exact absurd ((Option.some.inj H).trans hrT) (by decide)
  ·rw [if_neg c8] at H; exact absurd ((Option.some.inj H).trans hrT) (by decide)
 ·rw [if_neg c7] at H; exact absurd ((Option.some.inj H).trans hrT) (by decide)
end Go.Proofs.Ytihedeofkhapiaa.Pr
end
