/- Part 33 of 35 of the proof of: SightMore: for every slice of numbers, the law returns true: of a line made of them, with one more light, with fewer marks, or with fewer hands, no more letters fit, and Years does not get wider, as long as the line may be; no condition beyond the statement's own. -/
import Derived.RangeFuncBox
import Derived.Maps.AppendAt
import Derived.Maps.OwnIn
import Derived.Maps.RangeWalk
import Derived.Sort.KeysCollected
import Derived.Laws.MakeOwn
import Derived.Laws.OwnMore
import Derived.Sort.CutIn
import Derived.Sort.LoopGhostIn
import Derived.Test.YtihedeofkhapiaaSM5
import Derived.Test.YtihedeofkhapiaaSM21
import Derived.Test.YtihedeofkhapiaaSM24
import Derived.Test.YtihedeofkhapiaaSM25
import Derived.Test.YtihedeofkhapiaaSM30
import Derived.Test.YtihedeofkhapiaaSM31
import Derived.Test.YtihedeofkhapiaaSM32
set_option linter.unusedVariables false
set_option linter.unusedSimpArgs false
section
namespace Go.Proofs.Ytihedeofkhapiaa.Pr
open Go.RowKit Go.Shelf Go.Proofs.YtihedeofkhapiaaW.PrintWords Go.Proofs.YtihedeofkhapiaaW.PrintLast Go.Proofs.YtihedeofkhapiaaW.PrintMore
attribute [local go_sem] Oper.semAt_some
def zF (gs gl a1 a2 a3 : Int) (l0 : List S66) (l4 : List (List S27)) (i x k : Nat) : Bool :=
 let m := dL a1 a2 l0 l4 x
 let st := gp gs gl m (ah l0 (x : Int)).f1 l4.length
 vw gs gl i (aj (ah l0 (x : Int)).f1 (k : Int)) && decide (m.getD (i * 8 + k) 0 < 1048576) && decide (wrap64 (wrap64 (st.2 - st.1.getD i 0) + m.getD (i * 8 + k) 0) ≤ a3)
def ni (gs gl a1 a2 a3 : Int) (l0 : List S66) (l4 : List (List S27)) (i x : Nat) : Nat → Int → Bool
 | 0, _ => false
 | k + 1, c => ni gs gl a1 a2 a3 l0 l4 i x k c || (zF gs gl a1 a2 a3 l0 l4 i x k && (c == (aj (ah l0 (x : Int)).f1 (k : Int)).f0))
def mI (gs gl a1 a2 a3 : Int) (l0 : List S66) (l4 : List (List S27)) (i : Nat) (pre : List (Fin l0.length)) (c : Int) : Bool :=
 pre.any fun x => ni gs gl a1 a2 a3 l0 l4 i x.1 (ah l0 (x.1 : Int)).f1.length c
def gK (gs gl a1 a2 a3 : Int) (l0 : List S66) (l4 : List (List S27)) (i : Nat) : List Int :=
 ((List.range 256).map Int.ofNat).filter (mI gs gl a1 a2 a3 l0 l4 i (List.finRange l0.length))
def gX (gs gl a1 a2 a3 : Int) (l0 : List S66) (l4 : List (List S27)) : List (List Int) := (List.range l4.length).map (gK gs gl a1 a2 a3 l0 l4)
def gZ.f (fq : Int) (bz : Int) (jc : List (S66)) (iZ : Int) (jJ : Int) (lL : Int) (fF : List (List (S27))) : Option ((List (List Int))) :=
 if kG jc iZ jJ lL fF = 0 then some (gX fq bz iZ jJ lL jc fF) else none
theorem Cn (gs gl a1 a2 a3 : Int) (l0 : List S66) (l4 : List (List S27)) : ∀ l ∈ gX gs gl a1 a2 a3 l0 l4, l.length ≤ 256 := fun l hl => by
 obtain ⟨i, _, rfl⟩ := List.mem_map.1 hl; exact Nat.le_trans (List.length_filter_le _ _) (by simp)
theorem uX : ∀ {p : Option Int} {l : List S86}, nW p l = 0 → ∀ s ∈ l, 65 ≤ s.f0 ∧ s.f0 ≤ 90
 | _, [], _, s, hs => by cases hs
 | p, s :: r, h, t, ht => by
  simp only [nW] at h; by_cases h1 : s.f0 < 65 ∨ s.f0 > 90
  ·rw [if_pos h1] at h; cases h
  ·rw [if_neg h1] at h; by_cases h2 : inP s.f1 1 1023 = true
   ·rw [if_pos h2] at h; by_cases h3 : ∃ q, p = some q ∧ s.f0 ≤ q
    ·rw [if_pos h3] at h; cases h
    ·rw [if_neg h3] at h; rcases List.mem_cons.1 ht with rfl | ht
     ·omega
     ·exact uX h t ht
   ·rw [if_neg h2] at h; cases h
theorem De {l0 : List S66} (h : mZ l0 = 0) (x k : Nat) (hx : x < l0.length) (hk : k < (ah l0 (x : Int)).f1.length) : 65 ≤ (aj (ah l0 (x : Int)).f1 (k : Int)).f0 ∧ (aj (ah l0 (x : Int)).f1 (k : Int)).f0 ≤ 90 := by
 have h1 := CX h (ah l0 (x : Int)) (by rw [FH, List.getD_eq_getElem?_getD, List.getElem?_eq_getElem hx]; exact List.getElem_mem _); have h2 := (zh h1).2.2.2.2.2; refine uX h2 _ ?_; rw [Ak, List.getD_eq_getElem?_getD, List.getElem?_eq_getElem hk]; exact List.getElem_mem _
def nP (W : World) (b : Nat) (S : Int → Bool) (N : Nat) : Prop := ∃ (D : DataW Unit) (nn : Nat), W.ownsMap Try.prog 5 (plainElem Try.prog 4) b nn D ∧ nn ≤ N ∧ ∀ c, Maps.has D (.int .u8 c) = S c
theorem nP.kept {W W' : World} {b : Nat} {S : Int → Bool} {N : Nat} (h : nP W b S N) {row : Option Nat} (hg : W.grownBy W' row) (hb : row ≠ some b) : nP W' b S N := by
 obtain ⟨D, nn, h1, h2⟩ := h; exact ⟨D, nn, h1.kept hg (fun e => hb e.symm), h2⟩
theorem nP.lt {W : World} {b : Nat} {S : Int → Bool} {N : Nat} (h : nP W b S N) : b < W.heap.size := by
 obtain ⟨D, nn, h1, h2⟩ := h; exact h1.lt
theorem nP.below {W W' : World} {b : Nat} {S : Int → Bool} {N : Nat} (h : nP W b S N) (hb : Below W.heap.size W W') : nP W' b S N := h.kept (jq hb none) (by simp)
theorem nP.more {W : World} {b : Nat} {S : Int → Bool} {N N' : Nat} (h : nP W b S N) (hn : N ≤ N') : nP W b S N' := by
 obtain ⟨D, nn, h1, h2, h3⟩ := h; exact ⟨D, nn, h1, Nat.le_trans h2 hn, h3⟩
theorem nP.put {D : DataW Unit} {W : World} {b nn N : Nat} {S : Int → Bool} {c : Int} {D0 : DataW Unit} (h : W.ownsMap Try.prog 5 (plainElem Try.prog 4) b nn (D0.put (.int .u8 c) D)) (hD : Maps.IsMap D0) (hn : nn ≤ N) (hs : ∀ c, Maps.has D0 (.int .u8 c) = S c) : nP W b (fun x => S x || x == c) N := by
 refine ⟨_, nn, h, hn, fun x => ?_⟩; by_cases hx : x = c
 ·subst hx; rw [Maps.has_put_same (k := .int .u8 x) hD trivial]; simp
 ·rw [Maps.has_put_other (by simpa using hx), hs x]; simp [hx]
theorem nP.congr {W : World} {b N : Nat} {S S' : Int → Bool} (h : nP W b S N) (he : ∀ c, S c = S' c) : nP W b S' N := by
 obtain ⟨D, nn, h1, h2, h3⟩ := h; exact ⟨D, nn, h1, h2, fun c => (h3 c).trans (he c)⟩
def xD (S : Int → Bool) (left : Lit → Bool) (ss : List Int) : Prop := ss.Nodup ∧ (∀ x, x ∈ ss ↔ (S x = true ∧ left (.int .u8 x) = false)) ∧ ∀ x ∈ ss, 0 ≤ x ∧ x < 256
theorem wf_u8 {x : Int} : (Lit.int .u8 x).wf = true ↔ 0 ≤ x ∧ x < 256 := by
 have e1 : IntKind.u8.min = 0 := rfl; have e2 : IntKind.u8.max = 255 := rfl; simp only [Lit.wf, e1, e2]; simp; omega
theorem xD.start {D : DataW Unit} {S : Int → Bool} (h : ∀ c, Maps.has D (.int .u8 c) = S c) : xD S (Maps.has D) [] := ⟨List.nodup_nil, fun x => by rw [h x]; cases S x <;> simp, fun x hx => by cases hx⟩
theorem xD.step {S : Int → Bool} {left : Lit → Bool} {ss : List Int} (h : xD S left ss) {x : Int} (hl : left (.int .u8 x) = true) (hs : S x = true) (hw : 0 ≤ x ∧ x < 256) : xD S (fun z => left z && !z.sameKey (.int .u8 x)) (ss ++ [x]) := by
 (have hnew : x ∉ ss := fun hx => by have := ((h.2.1 x).1 hx).2; rw [hl] at this; cases this); refine ⟨List.nodup_append.2 ⟨h.1, by simp, fun a ha b hb => by simp at hb; subst hb; exact fun e => hnew (e ▸ ha)⟩, fun y => ?_, fun y hy => ?_⟩
 ·by_cases hy : y = x
  ·subst hy; simp [hs, Lit.sameKey]
  ·simp [h.2.1 y, hy, Lit.sameKey]
 ·rcases List.mem_append.1 hy with hy | hy
  ·exact h.2.2 y hy
  ·simp at hy; subst hy; exact hw
theorem xD.perm {gs gl a1 a2 a3 : Int} {l0 : List S66} {l4 : List (List S27)} {i : Nat} {left : Lit → Bool} {ss : List Int} (h : xD (mI gs gl a1 a2 a3 l0 l4 i (List.finRange l0.length)) left ss) (hl : ∀ kl, left kl = false) : (gK gs gl a1 a2 a3 l0 l4 i).Perm ss := by
 have hnd : ((List.range 256).map Int.ofNat).Nodup := by
  refine List.pairwise_map.2 (List.nodup_range.imp fun hne e => hne ?_); exact Int.ofNat.inj e
 (refine (List.perm_ext_iff_of_nodup (hnd.filter _) h.1).2 fun x => ?_); rw [List.mem_filter, h.2.1 x]; constructor
 ·rintro ⟨_, h2⟩; exact ⟨h2, hl _⟩
 ·rintro ⟨h1, h2⟩; have := h.2.2 x ((h.2.1 x).2 ⟨h1, h2⟩); exact ⟨List.mem_map.2 ⟨x.toNat, by simp; omega, by simp; omega⟩, h1⟩
theorem Bw (gs gl a1 a2 a3 : Int) (l0 : List S66) (l4 : List (List S27)) (i : Nat) : (gK gs gl a1 a2 a3 l0 l4 i).Pairwise (· ≤ ·) := by
 refine List.Pairwise.filter _ (List.pairwise_map.2 (List.pairwise_le_range.imp fun h => ?_)); exact Int.ofNat_le.2 h
theorem Pg {key : Value} {kl : Lit} (h : keyOf Try.prog 5 key = some kl) : ∃ x : Int, key = .int .u8 x ∧ kl = .int .u8 x ∧ (Lit.int .u8 x).wf = true := Maps.keyOf_int_inv Try.underlying5 h
theorem WO {W : World} {g : Nat} {v : Int} (h : W.cell? ⟨g, 0, none⟩ = some (.int .u8 v)) : Kd.C (Kd.int .u8) W (some ⟨g, 0, none⟩) 1 [v] := by
 refine ⟨rfl, by simp, fun _ => ⟨_, rfl, fun j p hp => ?_⟩⟩
 cases j with
 | zero =>
  simp at hp; subst hp; refine ⟨[.int .u8 v], rfl, rfl, fun i u hu => ?_⟩
  cases i with
  | zero =>
   simp at hu; subst hu; exact h
  | succ i => simp at hu
 | succ j => simp at hp
theorem N7 (W : World) (n : Nat) (hn : n ≤ 1000) : (Instr.makeSlice 88 (.int .i64 (n : Int)) (.int .i64 (n : Int))).run Try.prog W = .ok (.slice (some ⟨W.heap.size, 0, none⟩) n n) (W.alloc (.cells (madeCells #[.int .u8 0] n) 5)) := by
 obtain ⟨i, h1, h2, h3, h4⟩ := info_parts (P := Try.prog) (e := 5) (z := .int .u8 0) (size := 1) (bytes := 1) (by kernel_rfl); have h := run_makeSlice (P := Try.prog) W 88 5 i (.int .u8 0) Try.underlying88 h1 h2 .i64 .i64 n n (by omega) (by omega) (by rw [h3]; omega) (by rw [h4]; omega) (by omega); rw [h3] at h; rw [show (Value.int .u8 0).cells = #[Value.int .u8 0] from rfl] at h
 simpa using h
theorem WG (W : World) (n base : Nat) (hn : n ≤ 1000) (hb : base ≤ W.heap.size) : Kd.R (Kd.int .u8) 5 (W.alloc (.cells (madeCells #[.int .u8 0] n) 5)) base (fun k => k = W.heap.size) (.slice (some ⟨W.heap.size, 0, none⟩) n n) (List.replicate n 0) := by
 obtain ⟨i, h1, h2, h3, h4⟩ := info_parts (P := Try.prog) (e := 5) (z := .int .u8 0) (size := 1) (bytes := 1) (by kernel_rfl); obtain ⟨w', e1, e2, e3⟩ := run_makeSlice_full (P := Try.prog) (w := W) base 88 5 i (.int .u8 0) 1 Try.underlying88 h1 h2 h3 .i64 .i64 n (by omega) (by rw [h4]; omega) (by unfold maxLen; omega) hb; rw [N7 W n hn] at e1; injection e1 with _ e1; subst e1; refine Kd.vz (enc := Value.int .u8) ?_ (fun k hk => by simp [Value.ownBlock] at hk; exact hk.symm); rw [List.length_replicate]
 have : encs (Value.int .u8) (List.replicate n (0 : Int)) = (madeCells (Value.int IntKind.u8 0).cells (n * 1)).toList := by
  rw [show (Value.int IntKind.u8 0).cells = #[Value.int .u8 0] from rfl, Nat.mul_one]; apply List.ext_getElem?; intro j; simp only [encs, madeCells, List.map_replicate]; simp; by_cases hj : j < n
  ·simp [hj, Nat.mod_one]
  ·simp [hj]
 rw [this]; exact e2
theorem Di {gs gl a1 a2 a3 : Int} {l0 : List S66} {l4 : List (List S27)} {i : Nat} (pre : List (Fin l0.length)) (x : Fin l0.length) (c : Int) : mI gs gl a1 a2 a3 l0 l4 i (pre ++ [x]) c = (mI gs gl a1 a2 a3 l0 l4 i pre c || ni gs gl a1 a2 a3 l0 l4 i x.1 (ah l0 (x.1 : Int)).f1.length c) := by
 simp [mI, List.any_append]
theorem w64 (n : Int) : wrap64 n = IntKind.i64.wrap n := by
 simp only [IntKind.wrap, IntKind.bits, IntKind.signed, wrap64]; simp; split <;> omega
theorem SE (W : World) (n : Nat) (hn : n ≤ 8) : (Instr.makeSlice 104 (.int .i64 (n : Int)) (.int .i64 (n : Int))).run Try.prog W = .ok (.slice (some ⟨W.heap.size, 0, none⟩) n n) (W.alloc (.cells (madeCells #[.slice none 0 0] n) 88)) := by
 obtain ⟨i, h1, h2, h3, h4⟩ := info_parts (P := Try.prog) (e := 88) (z := .slice none 0 0) (size := 1) (bytes := 24) (by kernel_rfl); have h := run_makeSlice (P := Try.prog) W 104 88 i (.slice none 0 0) Try.underlying104 h1 h2 .i64 .i64 n n (by omega) (by omega) (by rw [h3]; omega) (by rw [h4]; omega) (by omega); rw [h3] at h; rw [show (Value.slice none 0 0).cells = #[Value.slice none 0 0] from rfl] at h
 simpa using h
def xf (b : Nat) (ds : List Deferred) (W : World) : Prop := (∀ d ∈ ds, ∃ D, d = { target := .collected D, args := #[] } ∧ b ≤ D ∧ W.heap[D]? = some (.deferred (some []))) ∧ ds.Nodup
theorem xS {C : World → Prop} {b : Nat} (hC : ∀ (W : World) (D : Nat) (o : Obj), C W → b ≤ D → W.heap[D]? = some (.deferred (some [])) → C (W.putObj D o)) {F : Fence} {n : Nat} {P : Program} {fn : Func} {tmps : Array Value} {R : Ending → World → Prop}
 (hend : ∀ W, C W → LeavesIn F n P fn tmps R [] .returning W) : ∀ (ds : List Deferred) (W : World), xf b ds W → C W → LeavesInM F n P fn tmps R ds .returning W
 | [], W, _, h => hend W h
 | d :: ds, W, hm, h => by
  obtain ⟨D, rfl, hb, hD⟩ := hm.1 d (List.mem_cons_self); refine ⟨by simp, .inl ⟨_, _, rfl, run_takeDeferred hD, ?_⟩⟩; refine xS hC hend ds _ ⟨fun d' hd' => ?_, (List.nodup_cons.1 hm.2).2⟩ (hC _ _ _ h hb hD); obtain ⟨D', rfl, hb', hD'⟩ := hm.1 d' (List.mem_cons_of_mem _ hd'); refine ⟨D', rfl, hb', ?_⟩
  have hne : D ≠ D' := by
   rintro rfl; exact (List.nodup_cons.1 hm.2).1 hd'
  simp only [World.putObj]; rw [Array.getElem?_setIfInBounds_ne hne]; exact hD'
theorem xf.below {b : Nat} {ds : List Deferred} {W W1 : World} (h : xf b ds W) (hb : Below W.heap.size W W1) : xf b ds W1 :=
 ⟨fun d hd => by
  obtain ⟨D, e, h1, h2⟩ := h.1 d hd
  exact ⟨D, e, h1, (hb.block D (bF h2)).trans h2⟩, h.2⟩
structure oh (w1 : World) (i : Nat) (S : Int → Bool) (N : Nat) (W : World) : Prop where
 sq : W.heap[w1.heap.size]? = some (.cells #[.int .i64 (i : Int)] 3 (0, 0))
 mp : W.heap[w1.heap.size + 1 + 1]? = some (.cells #[.map (some (w1.heap.size + 1))] 128 (0, 0))
 set : nP W (w1.heap.size + 1) S N
 below : Below w1.heap.size w1 W
theorem oh.kept {w1 : World} {i : Nat} {S : Int → Bool} {N : Nat} {W W' : World} (h : oh w1 i S N W) {row : Option Nat} (hg : W.grownBy W' row) (hr : ∀ r, row = some r → w1.heap.size + 1 + 1 < r) : oh w1 i S N W' := by
 refine ⟨(hg.block _ (bF h.sq) ?_).trans h.sq, (hg.block _ (bF h.mp) ?_).trans h.mp, h.set.kept hg ?_, h.below.grown hg h.below.size (fun j hj => ?_)⟩
 ·intro e; have := hr _ e.symm; omega
 ·intro e; have := hr _ e.symm; omega
 ·intro e; have := hr _ e; omega
 ·have := hr j hj; omega
theorem oh.step {w1 : World} {i : Nat} {S : Int → Bool} {N : Nat} {W W' : World} (h : oh w1 i S N W) (hb : Below W.heap.size W W') : oh w1 i S N W' := h.kept (jq hb none) (by simp)
structure lS (w1 : World) (i : Nat) (S : Int → Bool) (N bo B0 Bx By : Nat) (m es : List Int) (W wr : World) : Prop where
 rnd : oh w1 i S N wr
 arr : nA wr Bx m
 eac : uq wr By es
 keeps : KeepsFrom B0 W wr
 kp : KpB w1.heap.size bo W wr
theorem lS.step {w1 : World} {i : Nat} {S : Int → Bool} {N bo B0 Bx By : Nat} {m es : List Int} {W wr wn : World} (h : lS w1 i S N bo B0 Bx By m es W wr) (hb : Below wr.heap.size wr wn) : lS w1 i S N bo B0 Bx By m es W wn := by
 have hs := h.rnd.below.size; exact ⟨h.rnd.step hb, h.arr.below hb, h.eac.below hb, h.keeps.trans ((kC hb).from _), h.kp.trans ⟨hb.mono hs, fun o ho _ => (hb.block _ (bF ho)).trans ho⟩⟩
theorem lS.congr {w1 : World} {i : Nat} {S S' : Int → Bool} {N bo B0 Bx By : Nat} {m es : List Int} {W wr : World} (h : lS w1 i S N bo B0 Bx By m es W wr) (he : ∀ c, S c = S' c) : lS w1 i S' N bo B0 Bx By m es W wr :=
 { h with rnd := { h.rnd with set := h.rnd.set.congr he } }
theorem lS.more {w1 : World} {i : Nat} {S : Int → Bool} {N N' bo B0 Bx By : Nat} {m es : List Int} {W wr : World} (h : lS w1 i S N bo B0 Bx By m es W wr) (hn : N ≤ N') : lS w1 i S N' bo B0 Bx By m es W wr :=
 { h with rnd := { h.rnd with set := h.rnd.set.more hn } }
theorem lS.turn {w1 : World} {i : Nat} {S S' : Int → Bool} {N N' bo B0 Bx By : Nat} {m es : List Int} {W wr wn : World} (h : lS w1 i S N bo B0 Bx By m es W wr) (hg : wr.grownBy wn (some (w1.heap.size + 1))) (hm : nP wn (w1.heap.size + 1) S' N')
 (hB : w1.heap.size + 1 < B0) (hbo : w1.heap.size + 1 < bo) (hx : w1.heap.size + 1 < Bx) (hy : w1.heap.size + 1 < By) : lS w1 i S' N' bo B0 Bx By m es W wn := by
 have hb : Below w1.heap.size w1 wn := h.rnd.below.grown hg h.rnd.below.size (fun j hj => by cases hj; omega)
 refine ⟨⟨(hg.block _ (bF h.rnd.sq) (by simp)).trans h.rnd.sq, (hg.block _ (bF h.rnd.mp) (by simp)).trans h.rnd.mp, hm, hb⟩, ⟨h.arr.1, (hg.block _ (bF h.arr.2) (by simp; omega)).trans h.arr.2⟩, ⟨h.eac.1, (hg.block _ (bF h.eac.2) (by simp; omega)).trans h.eac.2⟩,
  h.keeps.trans (KeepsFrom.of_grownBy hg (fun j hj => by cases hj; exact hB)), h.kp.trans ⟨?_, fun o ho _ => (hg.block _ (bF ho) (by simp; omega)).trans ho⟩⟩
 have := (Below.refl w1.heap.size wr).grown hg h.rnd.below.size (fun j hj => by cases hj; omega); exact this
theorem Bj {F : Fence} {n : Nat} {P : Program} {c : Code} {Q : Exit → Act → World → Prop} {a : Act} {W : World} (R : World → Prop) (h : R W) (k : ∀ W', R W' → Code.wpIn F n P c Q a W') : Code.wpIn F n P c Q a W := k W h
structure qN (w : World) (gs gl : Int) (A0 : Option Addr) (c0 : Nat) (l0 : List S66) (a1 a2 a3 : Int) (A4 : Option Addr) (c4 : Nat) (l4 : List (List S27)) (i : Nat) (ds : List Deferred) (W : World) : Prop where
 given : W.heap[w.heap.size]? = some (.cells #[.int .i64 gs, .int .u8 gl] 100 (0, 0))
 line : W.heap[w.heap.size + 1]? = some (.cells #[.slice A0 l0.length c0, .int .i64 a1, .int .i64 a2, .int .i64 a3, .slice A4 l4.length c4] 25 (0, 0))
 rows : ∃ (cs : Array Value) (fo : Nat → Nat), cs.size = l4.length ∧ W.heap[w.heap.size + 1 + 1]? = some (.cells cs 88 (0, 0)) ∧ (∀ u ∈ cs, u.oneCell' = true) ∧
  ∀ j, j < i → ∃ v, cs[j]? = some v ∧ Kd.R (Kd.int .u8) 5 W w.heap.size (fun k => fo k = j) v (gK gs gl a1 a2 a3 l0 l4 j)
 marks : xf w.heap.size ds W
 below : Below w.heap.size w W
theorem qN.step {w : World} {gs gl : Int} {A0 : Option Addr} {c0 : Nat} {l0 : List S66} {a1 a2 a3 : Int} {A4 : Option Addr} {c4 : Nat} {l4 : List (List S27)} {i : Nat} {ds : List Deferred} {W W1 : World}
 (h : qN w gs gl A0 c0 l0 a1 a2 a3 A4 c4 l4 i ds W) (hb : Below W.heap.size W W1) : qN w gs gl A0 c0 l0 a1 a2 a3 A4 c4 l4 i ds W1 := by
 refine ⟨(hb.block _ (bF h.given)).trans h.given, (hb.block _ (bF h.line)).trans h.line, ?_, h.marks.below hb, eD h.below h.below.size hb⟩; obtain ⟨cs, fo, h1, h2, h3, h4⟩ := h.rows; refine ⟨cs, fo, h1, (hb.block _ (bF h2)).trans h2, h3, fun j hj => ?_⟩; obtain ⟨v, e, hr⟩ := h4 j hj; exact ⟨v, e, Kd.eO hr hb⟩
def IV (Q : Exit → Act → World → Prop) : Exit → Act → World → Prop
 | .panic _, _, _ => False
 | e, a, w => Q e a w
theorem LB {Q : Exit → Act → World → Prop} {a : Act} {w : World} (h : Q .normal a w) : IV Q .normal a w := h
theorem GG {P : Program} {c : Code} {Q : Exit → Act → World → Prop} {a : Act} {w : World} (h : c.wp P (IV Q) a w) : c.wp P Q a w :=
 wp_mono h fun e a w h => by
  cases e with
  | panic ch => exact h.elim
  | normal => exact h
  | exit id => exact h
  | goto l => exact h
  | ret => exact h
  | outgrown => exact h
theorem qN.next {w : World} {gs gl : Int} {A0 : Option Addr} {c0 : Nat} {l0 : List S66} {a1 a2 a3 : Int} {A4 : Option Addr} {c4 : Nat} {l4 : List (List S27)} {i : Nat} {ds : List Deferred} {w1 Wn : World} {v : Value} {D : Nat}
 (h : qN w gs gl A0 c0 l0 a1 a2 a3 A4 c4 l4 i ds w1) (hi : i < l4.length) (hbelow : Below w.heap.size w Wn)
 (hbut : ∀ k, k < w1.heap.size → k ≠ w.heap.size + 1 + 1 → Wn.heap[k]? = w1.heap[k]?)
 (hout : ∀ cs, w1.heap[w.heap.size + 1 + 1]? = some (.cells cs 88 (0, 0)) → Wn.heap[w.heap.size + 1 + 1]? = some (.cells (cs.setIfInBounds i v) 88 (0, 0)))
 (hone : v.oneCell' = true) (hw1 : w.heap.size ≤ w1.heap.size) (hv : Kd.R (Kd.int .u8) 5 Wn w1.heap.size (fun _ => True) v (gK gs gl a1 a2 a3 l0 l4 i)) (hD : Wn.heap[D]? = some (.deferred (some []))) (hDw : w1.heap.size ≤ D) :
 qN w gs gl A0 c0 l0 a1 a2 a3 A4 c4 l4 (i + 1) ({ target := .collected D, args := #[] } :: ds) Wn := by
 refine ⟨(hbut _ (bF h.given) (by omega)).trans h.given, (hbut _ (bF h.line) (by omega)).trans h.line, ?_, ⟨fun d hd => ?_, ?_⟩, hbelow⟩
 ·obtain ⟨cs, fo, h1, h2, h3, h4⟩ := h.rows; refine ⟨cs.setIfInBounds i v, fun k => if w1.heap.size ≤ k then i else fo k, by simpa using h1, hout cs h2, fun u hu => ?_, fun j hj => ?_⟩
  ·rw [Array.mem_iff_getElem] at hu; obtain ⟨k, hk, rfl⟩ := hu; rw [Array.getElem_setIfInBounds]
   ·split
    ·exact hone
    ·exact h3 _ (Array.getElem_mem (by simpa using hk))
   ·simpa using hk
  ·by_cases hji : j = i
   ·subst hji; refine ⟨v, by simp [h1, hi], ?_⟩; exact Kd.fI (Kd.df (Kd.jD hv) (fun k hk => by simp [hk.2.1])) hw1
   ·obtain ⟨u, e, hr⟩ := h4 j (by omega); refine ⟨u, by rw [Array.getElem?_setIfInBounds_ne (fun e => hji e.symm)]; exact e, ?_⟩; have hr1 := Kd.jD (Kd.ek hr h2 (fun q hq => by simp [Kd.int, Kd.scalar] at hq; subst hq; decide))
    exact Kd.df (Kd.tK hr1 (fun k hk => hbut k hk.2.2.1 hk.1.2)) (fun k hk => by
     have h5 := hk.2.2.1; show (if w1.heap.size ≤ k then i else fo k) = j; rw [if_neg (by omega)]
     exact hk.1.1)
 ·rcases List.mem_cons.1 hd with rfl | hd
  ·exact ⟨D, rfl, Nat.le_trans hw1 hDw, hD⟩
  ·obtain ⟨D', e, h1, h2⟩ := h.marks.1 d hd; refine ⟨D', e, h1, ?_⟩; rw [hbut D' (bF h2) ?_]
   ·exact h2
   ·rintro rfl; obtain ⟨cs, fo, _, h3, _⟩ := h.rows; rw [h3] at h2; cases h2
 ·refine List.nodup_cons.2 ⟨fun hd => ?_, h.marks.2⟩; obtain ⟨D', e, h1, h2⟩ := h.marks.1 _ hd; injection e with e _; injection e with e; subst e; have := bF h2; omega
theorem qN.all {w : World} {gs gl : Int} {A0 : Option Addr} {c0 : Nat} {l0 : List S66} {a1 a2 a3 : Int} {A4 : Option Addr} {c4 : Nat} {l4 : List (List S27)} {ds : List Deferred} {W : World}
 (h : qN w gs gl A0 c0 l0 a1 a2 a3 A4 c4 l4 l4.length ds W) (h8 : l4.length ≤ 8) : Kd.S (Kd.slice 5 (Kd.int .u8)) 88 W w.heap.size (fun _ => True) (.slice (some ⟨w.heap.size + 1 + 1, 0, none⟩) l4.length l4.length) (gX gs gl a1 a2 a3 l0 l4) := by
 obtain ⟨cs, fo, h1, h2, h3, h4⟩ := h.rows; have hlen : (gX gs gl a1 a2 a3 l0 l4).length = l4.length := by simp [gX]
 obtain ⟨f, hr⟩ := Kd.NE (d := Kd.slice 5 (Kd.int .u8)) (w := W) (base := w.heap.size) (ok := fun k => True ∧ some k ≠ (Value.slice (some ⟨w.heap.size + 1 + 1, 0, none⟩) l4.length l4.length).ownBlock) (xs := gX gs gl a1 a2 a3 l0 l4) (inner := cs.toList)
  (fun j k => fo k = j ∧ k ≠ w.heap.size + 1 + 1) (fun i j k e1 e2 => e1.1.symm.trans e2.1) (fun j k e => ⟨trivial, by simp [Value.ownBlock]; exact e.2⟩) (by rw [hlen]; simp [Kd.slice, h1]) (fun j x hx => by
    have hj : j < l4.length := by
     rw [← hlen]; exact (List.getElem?_eq_some_iff.1 hx).1
    obtain ⟨v, e, hv⟩ := h4 j hj
    have hx' : x = gK gs gl a1 a2 a3 l0 l4 j := by
     simp [gX, hj] at hx; exact hx.symm
    subst hx'; refine ⟨v, ?_, Kd.ek hv h2 (fun q hq => by simp [Kd.int, Kd.scalar] at hq; subst hq; decide)⟩; show (cs.toList.drop (j * 1)).take 1 = [v]; (have e' : cs.toList[j]? = some v := by simpa using e); rw [Nat.mul_one]; obtain ⟨hj2, hj3⟩ := List.getElem?_eq_some_iff.1 e'; rw [List.drop_eq_getElem_cons hj2, hj3]
    rfl)
 refine ⟨f, fun _ _ => trivial, cs.toList, ?_, hr⟩; rw [List.length_zipIdx, hlen]; refine ⟨by simp [Kd.tag, Kd.slice, h1], .inr ⟨w.heap.size + 1 + 1, l4.length, cs, rfl, by omega, h2, Nat.le_refl _, by unfold maxLen; omega, by simp [Kd.tag, Kd.slice, h1], ?_⟩⟩; refine List.take_of_length_le ?_; simp [Kd.tag, Kd.slice, h1]
theorem Oa {α : Type} {d : Kd α} {e : Nat} {W : World} {base : Nat} {ok : Nat → Prop} {v : Value} {xs : List α} (h : Kd.S d e W base ok v xs) {l : Nat} {o o' : Obj} (hl : W.heap[l]? = some o) (ho : o.isCells = false) : Kd.S d e (W.putObj l o') base ok v xs := by
 obtain ⟨f, h⟩ := h; exact ⟨f, EN h hl ho⟩
end Go.Proofs.Ytihedeofkhapiaa.Pr
end
section
namespace Go.Proofs.Ytihedeofkhapiaa.Pr
open Go.RowKit Go.Proofs.YtihedeofkhapiaaW.PrintWords Go.Proofs.YtihedeofkhapiaaW.PrintLast Go.Proofs.YtihedeofkhapiaaW.PrintMore
theorem KE {gs gl a1 a2 a3 : Int} {l0 : List S66} {l4 : List (List S27)} {i x : Nat} {k : Nat} (hh : zF gs gl a1 a2 a3 l0 l4 i x k = true) : ∀ K, k < K → ni gs gl a1 a2 a3 l0 l4 i x K (aj (ah l0 (x : Int)).f1 (k : Int)).f0 = true := by
 intro K
 induction K with
 | zero => intro h; omega
 | succ K ih =>
  intro h; rw [ni]; by_cases he : k = K
  ·subst he; rw [hh]; simp
  ·rw [ih (by omega)]; simp
theorem CJ {a1 a2 a3 : Int} {r : uu} (hg : kX a1 a2 a3 r) (ht : yZ r) (h2 : a2 ≤ 8) (h3 : a3 ≤ 8) : ∃ x : Nat, (x : Int) = r.2.2.2.2.2.1 ∧ x < r.1.length ∧ ou r.1 r.2.1 r.2.2.1 r.2.2.2.2.1 x ≤ r.2.2.2.1 ∧
 ∀ i, i < r.2.2.2.2.1.length → ∃ k, k < (ah r.1 (x : Int)).f1.length ∧ zF (-1) 0 r.2.1 r.2.2.1 r.2.2.2.1 r.1 r.2.2.2.2.1 i x k = true ∧ ∃ cs : List Int, cs.length = r.2.2.2.2.1.length ∧ r.2.2.2.2.2.2.1 = strOfNums cs ∧ (aj (ah r.1 (x : Int)).f1 (k : Int)).f0 = cs.getD i 0 := by
 obtain ⟨hs, w, c, t, sq, cut, txt, vis, a, b⟩ := r; obtain ⟨⟨g1, g2, g3⟩, g4, g5, g6, g7, g8, g9⟩ := hg; obtain ⟨t1, t2, ms, cs, ⟨t3, t3c, t4⟩, t5, t6, t7⟩ := ht; simp only [] at g1 g2 g3 g4 g5 g6 g7 g8 g9 t1 t2 t3 t3c t4 t5 t6 ⊢; obtain ⟨x, rfl⟩ := Int.eq_ofNat_of_zero_le t1; have hxl : x < hs.length := by omega
 have hgood := g3 (ah hs (x : Int)) (by
  rw [FH, List.getD_eq_getElem?_getD, List.getElem?_eq_getElem hxl]
  exact List.getElem_mem _)
 obtain ⟨_, _, _, hasc, hs0, hs8⟩ := hgood; (have hs8' : (ah hs (x : Int)).f1.length ≤ 8 := by omega); have hn8 : sq.length ≤ 8 := by omega
 have hrd : ∀ i (hi : i < sq.length), fB sq (i : Int) = sq[i] := fun i hi => by
  rw [Sc, List.getD_eq_getElem?_getD, List.getElem?_eq_getElem hi]; rfl
 have hget := qg w c sq (ah hs (x : Int)).f1 hs8' sq.length hn8
 have hnn : ∀ i k, i < sq.length → k < (ah hs (x : Int)).f1.length → 0 ≤ (eF w c sq (ah hs (x : Int)).f1 sq.length).getD (i * 8 + k) 0 := fun i k hi hk => by
  rw [hget i k hi hk, hrd i hi]; obtain ⟨k', v, _, hv, hx, _⟩ := t4 i hi; exact (Ph w c hasc hk hv hx).1
 obtain ⟨e1, e2⟩ := Jp (eF w c sq (ah hs (x : Int)).f1 sq.length) (ah hs (x : Int)).f1 sq.length hn8 hnn
 have hcell : ∀ i (hi : i < sq.length), ∃ k, k < (ah hs (x : Int)).f1.length ∧ 0 ≤ (eF w c sq (ah hs (x : Int)).f1 sq.length).getD (i * 8 + k) 0 ∧ (eF w c sq (ah hs (x : Int)).f1 sq.length).getD (i * 8 + k) 0 ≤ ms.getD i 0 ∧ (eF w c sq (ah hs (x : Int)).f1 sq.length).getD (i * 8 + k) 0 < 1048576 ∧ (aj (ah hs (x : Int)).f1 (k : Int)).f0 = cs.getD i 0 := fun i hi => by
  obtain ⟨k, v, hk, hv, hx, hl, hm, hlm, hlc⟩ := t4 i hi; have hc := KS hasc hk hv hx hl hm; refine ⟨k, hk, ?_⟩; rw [hget i k hi hk, hrd i hi]; exact ⟨hc.1, by omega, hc.2.2, by rw [Ak]; exact hlc⟩
 have hE : ∀ i, i < sq.length → iy (-1) 0 (eF w c sq (ah hs (x : Int)).f1 sq.length) i (ah hs (x : Int)).f1 (ah hs (x : Int)).f1.length ≤ ms.getD i 0 := fun i hi => by
  obtain ⟨k, hk, _, h, _, _⟩ := hcell i hi; exact Int.le_trans (Qt _ i _ _ k hk) h
 (have hms : qV (fun j => ms.getD j 0) sq.length = ms.sum := by rw [← t3]; exact Br ms); (have hEb := fun i (hi : i < sq.length) => uY (eF w c sq (ah hs (x : Int)).f1 sq.length) i (ah hs (x : Int)).f1 (ah hs (x : Int)).f1.length (fun k hk => hnn i k hi hk)); have hSb := uL (f := fun i => iy (-1) 0 (eF w c sq (ah hs (x : Int)).f1 sq.length) i (ah hs (x : Int)).f1 (ah hs (x : Int)).f1.length) sq.length hn8 hEb; refine ⟨x, rfl, hxl, ?_, fun i hi => ?_⟩
 ·rw [ou, dL, e1]; have := Ac (g := fun j => ms.getD j 0) sq.length hE; omega
 ·obtain ⟨k, hk, h0, h1, h4, hlc⟩ := hcell i hi; refine ⟨k, hk, ?_, cs, t3c, t6, hlc⟩; have hd := yw (g := fun j => ms.getD j 0) sq.length hE i hi; have hEi := hEb i hi; (have hm : vw (-1) 0 (i : Int) (aj (ah hs (x : Int)).f1 (k : Int)) = true := by rw [vw, if_neg (by omega)]); (try simp only [] at hd hSb); have hu : zF (-1) 0 w c t hs sq i x k = (vw (-1) 0 (i : Int) (aj (ah hs (x : Int)).f1 (k : Int)) && decide ((eF w c sq (ah hs (x : Int)).f1 sq.length).getD (i * 8 + k) 0 < 1048576) && decide (wrap64 (wrap64 ((gp (-1) 0 (eF w c sq (ah hs (x : Int)).f1 sq.length) (ah hs (x : Int)).f1 sq.length).2 - (gp (-1) 0 (eF w c sq (ah hs (x : Int)).f1 sq.length) (ah hs (x : Int)).f1 sq.length).1.getD i 0) + (eF w c sq (ah hs (x : Int)).f1 sq.length).getD (i * 8 + k) 0) ≤ t)) := rfl
  have hle : wrap64 (wrap64 ((gp (-1) 0 (eF w c sq (ah hs (x : Int)).f1 sq.length) (ah hs (x : Int)).f1 sq.length).2 - (gp (-1) 0 (eF w c sq (ah hs (x : Int)).f1 sq.length) (ah hs (x : Int)).f1 sq.length).1.getD i 0) + (eF w c sq (ah hs (x : Int)).f1 sq.length).getD (i * 8 + k) 0) ≤ t := by
   rw [e1, e2 i hi, dY (x := _ - _) (by omega) (by omega), dY (by omega) (by omega)]; omega
  rw [hu, hm, decide_eq_true h4, decide_eq_true hle]; rfl
theorem Ik {a1 a2 a3 : Int} {r : uu} (hg : kX a1 a2 a3 r) (ht : yZ r) (h2 : a2 ≤ 8) (h3 : a3 ≤ 8) : ∀ i, i < r.2.2.2.2.1.length → ∃ cs : List Int, cs.length = r.2.2.2.2.1.length ∧ r.2.2.2.2.2.2.1 = strOfNums cs ∧ cs.getD i 0 ∈ gK (-1) 0 r.2.1 r.2.2.1 r.2.2.2.1 r.1 r.2.2.2.2.1 i := by
 intro i hi; obtain ⟨x, _, hx, _, hf⟩ := CJ hg ht h2 h3; obtain ⟨k, hk, hh, cs, hcs, htx, hkc⟩ := hf i hi
 have hgood := hg.1.2.2 (ah r.1 (x : Int)) (by
  rw [FH, List.getD_eq_getElem?_getD, List.getElem?_eq_getElem hx]
  exact List.getElem_mem _)
 have hmem : aj (ah r.1 (x : Int)).f1 (k : Int) ∈ (ah r.1 (x : Int)).f1 := by
  rw [Ak, List.getD_eq_getElem?_getD, List.getElem?_eq_getElem hk]; exact List.getElem_mem _
 have hb := hgood.2.2.2.1.1 _ hmem
 have hin : (aj (ah r.1 (x : Int)).f1 (k : Int)).f0 ∈ gK (-1) 0 r.2.1 r.2.2.1 r.2.2.2.1 r.1 r.2.2.2.2.1 i := by
  rw [gK, List.mem_filter]; refine ⟨List.mem_map.2 ⟨(aj (ah r.1 (x : Int)).f1 (k : Int)).f0.toNat, List.mem_range.2 (by omega), by simp only [Int.ofNat_eq_natCast]; omega⟩, ?_⟩; rw [mI, List.any_eq_true]; exact ⟨⟨x, hx⟩, List.mem_finRange _, KE hh _ hk⟩
 rw [hkc] at hin; exact ⟨cs, hcs, htx, hin⟩
theorem SA {a1 a2 a3 : Int} {r : uu} (hg : kX a1 a2 a3 r) (ht : yZ r) (h2 : a2 ≤ 8) (h3 : a3 ≤ 8) : ∀ i, i < r.2.2.2.2.1.length → gK (-1) 0 r.2.1 r.2.2.1 r.2.2.2.1 r.1 r.2.2.2.2.1 i ≠ [] := by
 intro i hi he; obtain ⟨cs, _, _, h⟩ := Ik hg ht h2 h3 i hi; rw [he] at h; exact absurd h List.not_mem_nil
def Sm5 (q : List S27) : Prop := ∀ x ∈ q, ∃ a b : Nat, a < 32 ∧ b < 32 ∧ x = ⟨(a : Int), (b : Int)⟩
theorem uC.sm {v : Nat} {q : List S27} (h : ∀ x ∈ q, uC v x) : Sm5 q := fun x hx => by
 obtain ⟨a, ha, rfl⟩ := h x hx; exact ⟨a, v &&& a, ha, Nat.lt_of_le_of_lt Nat.and_le_right ha, rfl⟩
theorem GA {q : List S27} (h : Sm5 q) : ∃ g v : Nat, g < 32 ∧ v < 32 ∧ sW q = ((g : Int), (v : Int)) := by
 have key : ∀ (r : List S27) (a b : Nat), a < 32 → b < 32 → Sm5 r → ∃ g v : Nat, g < 32 ∧ v < 32 ∧ r.foldl seenStep ((a : Int), (b : Int)) = ((g : Int), (v : Int)) := by
  intro r
  induction r with
  | nil => exact fun a b ha hb _ => ⟨a, b, ha, hb, rfl⟩
  | cons x r ih =>
   intro a b ha hb hx; obtain ⟨c, d, hc, hd, rfl⟩ := hx x List.mem_cons_self
   have e : seenStep ((a : Int), (b : Int)) ⟨(c : Int), (d : Int)⟩ = (((a ||| c : Nat) : Int), ((b ||| d : Nat) : Int)) := by
    simp only [seenStep]; rw [NV ⟨a, ha⟩ ⟨c, hc⟩, NV ⟨b, hb⟩ ⟨d, hd⟩]
   rw [List.foldl_cons, e]; exact ih _ _ (MV ⟨a, ha⟩ ⟨c, hc⟩) (MV ⟨b, hb⟩ ⟨d, hd⟩) (fun y hy => hx y (List.mem_cons_of_mem _ hy))
 exact key q 0 0 (by omega) (by omega) h
theorem KN (c : Prop) [Decidable c] (m n : Nat) (hm : m ≤ 5) (hn : n ≤ 5) : 0 ≤ (if c then wrap64 ((m : Int) + (n : Int)) else jK) ∧ (if c then wrap64 ((m : Int) + (n : Int)) else jK) ≤ 1048576 := by
 split
 ·rw [dY (by omega) (by omega)]; omega
 ·exact ⟨by decide, by decide⟩
theorem Bb (W S : Int) {q : List S27} (hq : Sm5 q) {s : S86} (h0 : 0 ≤ s.f1) (h1 : s.f1 ≤ 31) : 0 ≤ cellP W S (gP q) s ∧ cellP W S (gP q) s ≤ 1048576 := by
 obtain ⟨g, v, hg, hv, hA⟩ := GA hq; obtain ⟨z, hz⟩ := Int.eq_ofNat_of_zero_le h0; (have hz32 : z < 32 := by omega); have b1 : z &&& g < 32 := Nat.lt_of_le_of_lt Nat.and_le_left hz32; have b3 : (z &&& g) &&& (31 ^^^ v) < 32 := Nat.lt_of_le_of_lt Nat.and_le_left b1; have b4 : v &&& (31 ^^^ z) < 32 := Nat.lt_of_le_of_lt Nat.and_le_left hv; have p1 : pop ((z &&& g) &&& (31 ^^^ v)) ≤ 5 := sj ⟨_, b3⟩; have p2 : pop (v &&& (31 ^^^ z)) ≤ 5 := sj ⟨_, b4⟩
 have e1 : lv (fG (Go.bits .and .i64 s.f1 (g : Int)) (v : Int)) = (pop ((z &&& g) &&& (31 ^^^ v)) : Int) := by
  rw [hz, zo ⟨z, hz32⟩ ⟨g, hg⟩, zw ⟨z &&& g, b1⟩ ⟨v, hv⟩, uU ⟨_, b3⟩]
 have e2 : lv (fG (v : Int) s.f1) = (pop (v &&& (31 ^^^ z)) : Int) := by
  rw [hz, zw ⟨v, hv⟩ ⟨z, hz32⟩, uU ⟨_, b4⟩]
 have hc : cellP W S (gP q) s = if (gP q).2.2 = true ∧ lv (fG (Go.bits .and .i64 s.f1 (g : Int)) (v : Int)) ≤ W ∧ lv (fG (v : Int) s.f1) ≤ S then wrap64 (lv (fG (Go.bits .and .i64 s.f1 (g : Int)) (v : Int)) + lv (fG (v : Int) s.f1)) else jK := by
  (have h1 : (gP q).1 = (g : Int) := by rw [gP, hA]); (have h2 : (gP q).2.1 = (v : Int) := by rw [gP, hA]); rw [cellP, h1, h2]
 rw [hc, e1, e2]; exact KN _ _ _ p1 p2
def oH (W S : Int) (q : Int × Int × Bool) (sh : List S86) : Nat → Int
 | 0 => jK
 | k + 1 => mn (oH W S q sh k) (cellP W S q (aj sh (k : Int)))
def oG (W S : Int) (sh : List S86) (q : List S27) : Int := oH W S (gP q) sh sh.length
def kH (sh : List S86) : Prop := Asc sh ∧ sh.length ≤ 8
def oV (sq : List (List S27)) : Prop := sq.length ≤ 8 ∧ ∀ q ∈ sq, Sm5 q
theorem JY (i : Nat) (s : S86) : vw (-1) 0 (i : Int) s = true := by rw [vw, if_neg (by omega)]
theorem yX (W S : Int) {sh : List S86} (hsh : kH sh) {q : List S27} (hq : Sm5 q) {k : Nat} (hk : k < sh.length) : 0 ≤ cellP W S (gP q) (aj sh (k : Int)) ∧ cellP W S (gP q) (aj sh (k : Int)) ≤ 1048576 := by
 have hmem : aj sh (k : Int) ∈ sh := by
  rw [Ak, List.getD_eq_getElem?_getD, List.getElem?_eq_getElem hk]; exact List.getElem_mem _
 have := hsh.1.1 _ hmem; exact Bb W S hq (by omega) (by omega)
theorem zC (W S : Int) {sh : List S86} (hsh : kH sh) {q : List S27} (hq : Sm5 q) : ∀ K, K ≤ sh.length → 0 ≤ oH W S (gP q) sh K ∧ oH W S (gP q) sh K ≤ 1048576
 | 0, _ => ⟨by simp [oH, jK], by simp [oH, jK]⟩
 | K + 1, h => by
  have h1 := zC W S hsh hq K (by omega); have h2 := yX W S hsh hq (k := K) (by omega); rw [oH]; unfold mn; split <;> omega
theorem zu (W S : Int) {sh : List S86} (hsh : kH sh) {q : List S27} (hq : Sm5 q) : 0 ≤ oG W S sh q ∧ oG W S sh q ≤ 1048576 := zC W S hsh hq _ (Nat.le_refl _)
theorem Qi (W S : Int) (q : Int × Int × Bool) (sh : List S86) : ∀ K k, k < K → oH W S q sh K ≤ cellP W S q (aj sh (k : Int))
 | 0, _, h => by omega
 | K + 1, k, h => by
  rw [oH]; unfold mn; by_cases he : k = K
  ·subst he; split <;> omega
  ·have := Qi W S q sh K k (by omega); split <;> omega
theorem Np (W S : Int) (q : Int × Int × Bool) (sh : List S86) : ∀ K, oH W S q sh K = 1048576 ∨ ∃ k, k < K ∧ oH W S q sh K = cellP W S q (aj sh (k : Int))
 | 0 => .inl rfl
 | K + 1 => by
  rw [oH]; unfold mn; split
  ·exact .inr ⟨K, by omega, rfl⟩
  ·rcases Np W S q sh K with h | ⟨k, hk, h⟩
   ·exact .inl h
   ·exact .inr ⟨k, by omega, h⟩
theorem EH (W S : Int) (sq : List (List S27)) (hn : sq.length ≤ 8) (sh : List S86) (hsh : sh.length ≤ 8) (i : Nat) (hi : i < sq.length) : ∀ K, K ≤ sh.length → iy (-1) 0 (eF W S sq sh sq.length) i sh K = oH W S (gP (fB sq (i : Int))) sh K := by
 intro K
 induction K with
 | zero => intro _; rfl
 | succ K ih =>
  intro h; rw [iy, if_pos (JY _ _), ih (by omega), oH, qg W S sq sh hsh sq.length hn i K hi (by omega)]
theorem xA (sq : List (List S27)) (i : Nat) (hi : i < sq.length) : fB sq (i : Int) = sq[i] := by
 rw [Sc, List.getD_eq_getElem?_getD, List.getElem?_eq_getElem hi]; rfl
theorem Av {f g : Nat → Int} : ∀ n, (∀ i, i < n → f i = g i) → qV f n = qV g n
 | 0, _ => rfl
 | n + 1, h => by simp only [qV]; rw [Av n (fun i hi => h i (by omega)), h n (by omega)]
theorem yY (W S : Int) {sq : List (List S27)} (hq : oV sq) {sh : List S86} (hsh : kH sh) :
 (gp (-1) 0 (eF W S sq sh sq.length) sh sq.length).2 = (sq.map (oG W S sh)).sum ∧ ∀ i (h : i < sq.length), (gp (-1) 0 (eF W S sq sh sq.length) sh sq.length).1.getD i 0 = oG W S sh sq[i] := by
 have hnn : ∀ i k, i < sq.length → k < sh.length → 0 ≤ (eF W S sq sh sq.length).getD (i * 8 + k) 0 := fun i k hi hk => by
  rw [qg W S sq sh hsh.2 sq.length hq.1 i k hi hk, xA sq i hi]; exact (yX W S hsh (hq.2 _ (List.getElem_mem _)) hk).1
 obtain ⟨e1, e2⟩ := Jp (eF W S sq sh sq.length) sh sq.length hq.1 hnn
 have hE : ∀ i (h : i < sq.length), iy (-1) 0 (eF W S sq sh sq.length) i sh sh.length = oG W S sh sq[i] := fun i h => by
  rw [EH W S sq hq.1 sh hsh.2 i h _ (Nat.le_refl _), xA sq i h]; rfl
 refine ⟨?_, fun i h => by rw [e2 i h, hE i h]⟩; rw [e1, ← Br, List.length_map]; refine Av _ (fun i h => ?_); rw [hE i h, List.getD_eq_getElem?_getD, List.getElem?_map, List.getElem?_eq_getElem h]; rfl
def ww (W S : Int) (sq : List (List S27)) (sh : List S86) : Int := (sq.map (oG W S sh)).sum
theorem ui (W S : Int) (hs : List S66) {sq : List (List S27)} (hq : oV sq) (x : Nat) (hsh : kH (ah hs (x : Int)).f1) : ou hs W S sq x = ww W S sq (ah hs (x : Int)).f1 := (yY W S hq hsh).1
theorem AU (f : List S27 → Int) : ∀ l : List (List S27), (∀ q ∈ l, 0 ≤ f q ∧ f q ≤ 1048576) → 0 ≤ (l.map f).sum ∧ (l.map f).sum ≤ 1048576 * l.length
 | [], _ => by simp
 | q :: r, h => by
  have h1 := AU f r (fun y hy => h y (List.mem_cons_of_mem _ hy)); have h2 := h q List.mem_cons_self; rw [List.map_cons, List.sum_cons, List.length_cons]; push_cast; omega
theorem Hm (W S : Int) {sq : List (List S27)} (hq : oV sq) {sh : List S86} (hsh : kH sh) : 0 ≤ ww W S sq sh ∧ ww W S sq sh ≤ 8388608 := by
 have h := AU (oG W S sh) sq (fun q hm => zu W S hsh (hq.2 q hm)); have := hq.1; unfold ww; omega
def aa2 (W S t : Int) (sq : List (List S27)) (q : List S27) (sh : List S86) (s : S86) : Prop := cellP W S (gP q) s < 1048576 ∧ ww W S sq sh - oG W S sh q + cellP W S (gP q) s ≤ t
theorem BQ (W S t : Int) (hs : List S66) {sq : List (List S27)} (hq : oV sq) (x : Nat) (hsh : kH (ah hs (x : Int)).f1) (i : Nat) (hi : i < sq.length) (k : Nat) (hk : k < (ah hs (x : Int)).f1.length) :
 zF (-1) 0 W S t hs sq i x k = true ↔ aa2 W S t sq sq[i] (ah hs (x : Int)).f1 (aj (ah hs (x : Int)).f1 (k : Int)) := by
 obtain ⟨e1, e2⟩ := yY W S hq hsh; have h1 := Hm W S hq hsh; have h2 := zu W S hsh (hq.2 _ (List.getElem_mem hi)); have h3 := yX W S hsh (hq.2 _ (List.getElem_mem hi)) hk; have e3 := qg W S sq (ah hs (x : Int)).f1 hsh.2 sq.length hq.1 i k hi hk; rw [xA sq i hi] at e3; unfold ww at h1; have hu : zF (-1) 0 W S t hs sq i x k = (vw (-1) 0 (i : Int) (aj (ah hs (x : Int)).f1 (k : Int)) && decide ((eF W S sq (ah hs (x : Int)).f1 sq.length).getD (i * 8 + k) 0 < 1048576) && decide (wrap64 (wrap64 ((gp (-1) 0 (eF W S sq (ah hs (x : Int)).f1 sq.length) (ah hs (x : Int)).f1 sq.length).2 - (gp (-1) 0 (eF W S sq (ah hs (x : Int)).f1 sq.length) (ah hs (x : Int)).f1 sq.length).1.getD i 0) + (eF W S sq (ah hs (x : Int)).f1 sq.length).getD (i * 8 + k) 0) ≤ t)) := rfl; rw [hu, JY, e1, e2 i hi, e3, dY (x := _ - _) (by omega) (by omega), dY (by omega) (by omega)]; simp only [Bool.true_and, Bool.and_eq_true, decide_eq_true_eq]; exact Iff.rfl
theorem wN {gs gl a1 a2 a3 : Int} {l0 : List S66} {l4 : List (List S27)} {i x : Nat} (c : Int) : ∀ K, ni gs gl a1 a2 a3 l0 l4 i x K c = true ↔ ∃ k, k < K ∧ zF gs gl a1 a2 a3 l0 l4 i x k = true ∧ c = (aj (ah l0 (x : Int)).f1 (k : Int)).f0
 | 0 => by simp [ni]
 | K + 1 => by
  rw [ni, Bool.or_eq_true, wN c K, Bool.and_eq_true, beq_iff_eq]; constructor
  ·rintro (⟨k, hk, h⟩ | h)
   ·exact ⟨k, by omega, h⟩
   ·exact ⟨K, by omega, h⟩
  ·rintro ⟨k, hk, h⟩; by_cases he : k = K
   ·subst he; exact .inr h
   ·exact .inl ⟨k, by omega, h⟩
def fitsAt (W S t : Int) (hs : List S66) (sq : List (List S27)) (q : List S27) (c : Int) : Prop := ∃ h ∈ hs, ∃ s ∈ h.f1, s.f0 = c ∧ aa2 W S t sq q h.f1 s
theorem oz (hs : List S66) (x : Nat) (hx : x < hs.length) : ah hs (x : Int) = hs[x] := by
 rw [FH, List.getD_eq_getElem?_getD, List.getElem?_eq_getElem hx]; rfl
theorem Aw (sh : List S86) (k : Nat) (hk : k < sh.length) : aj sh (k : Int) = sh[k] := by
 rw [Ak, List.getD_eq_getElem?_getD, List.getElem?_eq_getElem hk]; rfl
theorem tH (W S t : Int) {hs : List S66} (hh : ∀ h ∈ hs, kH h.f1) {sq : List (List S27)} (hq : oV sq) (i : Nat) (hi : i < sq.length) (c : Int) :
 mI (-1) 0 W S t hs sq i (List.finRange hs.length) c = true ↔ fitsAt W S t hs sq sq[i] c := by
 rw [mI, List.any_eq_true]; constructor
 ·rintro ⟨x, _, hx⟩; obtain ⟨k, hk, h1, h2⟩ := (wN c _).1 hx; have e := oz hs x.1 x.2; have hf := hh _ (List.getElem_mem x.2); rw [← e] at hf; have h3 := (BQ W S t hs hq x.1 hf i hi k hk).1 h1; refine ⟨hs[x.1]'x.2, List.getElem_mem _, ?_⟩; rw [← e]; rw [Aw _ k hk] at h2 h3; exact ⟨_, List.getElem_mem hk, h2.symm, h3⟩
 ·rintro ⟨h, hm, s, hs', h1, h2⟩; obtain ⟨x, hx, rfl⟩ := List.getElem_of_mem hm; obtain ⟨k, hk, rfl⟩ := List.getElem_of_mem hs'; refine ⟨⟨x, hx⟩, List.mem_finRange _, ?_⟩; have e := oz hs x hx; have hf := hh _ (List.getElem_mem hx); rw [← e] at hf; (have hk' : k < (ah hs (x : Int)).f1.length := by rw [e]; exact hk); (have e' : aj (ah hs (x : Int)).f1 (k : Int) = (hs[x].f1)[k] := by rw [e, Aw _ k hk]); refine (wN c _).2 ⟨k, hk', (BQ W S t hs hq x hf i hi k hk').2 ?_, ?_⟩
  ·rw [e', e]; exact h2
  ·rw [e']; exact h1.symm
theorem uI (W S t : Int) {hs : List S66} (hh : ∀ h ∈ hs, kH h.f1) {sq : List (List S27)} (hq : oV sq) (i : Nat) (hi : i < sq.length) (c : Int) :
 c ∈ gK (-1) 0 W S t hs sq i ↔ fitsAt W S t hs sq sq[i] c := by
 rw [gK, List.mem_filter, tH W S t hh hq i hi c]; refine ⟨fun h => h.2, fun h => ⟨?_, h⟩⟩; obtain ⟨h', hm, s, hs', h1, _⟩ := h; have := (hh h' hm).1.1 s hs'; refine List.mem_map.2 ⟨c.toNat, List.mem_range.2 (by omega), ?_⟩; simp only [Int.ofNat_eq_natCast]; omega
theorem XU {W S t W' S' t' : Int} {hs hs' : List S66} (hh : ∀ h ∈ hs, kH h.f1) (hh' : ∀ h ∈ hs', kH h.f1) {sq sq' : List (List S27)} (hq : oV sq) (hq' : oV sq') {i j : Nat} (hi : i < sq.length) (hj : j < sq'.length)
 (h : ∀ c, fitsAt W S t hs sq sq[i] c ↔ fitsAt W' S' t' hs' sq' sq'[j] c) : gK (-1) 0 W S t hs sq i = gK (-1) 0 W' S' t' hs' sq' j := by
 unfold gK; refine List.filter_congr (fun c _ => ?_); rw [Bool.eq_iff_iff, tH W S t hh hq i hi c, tH W' S' t' hh' hq' j hj c]; exact h c
theorem wR (W S t : Int) {hs : List S66} (hh : ∀ h ∈ hs, kH h.f1) {sq : List (List S27)} (hq : oV sq) (n : Int) :
 n ∈ kF hs W S t sq (List.finRange hs.length) ↔ ∃ x, ∃ h : x < hs.length, n = (x : Int) ∧ ww W S sq hs[x].f1 ≤ t := by
 have key : ∀ x (h : x < hs.length), ou hs W S sq x = ww W S sq hs[x].f1 := fun x h => by
  have e := oz hs x h; have hf := hh _ (List.getElem_mem h); rw [← e] at hf; rw [ui W S hs hq x hf, e]
 rw [kF, List.mem_map]; constructor
 ·rintro ⟨x, hx, rfl⟩; refine ⟨x.1, x.2, rfl, ?_⟩; rw [← key x.1 x.2]; exact of_decide_eq_true (List.mem_filter.1 hx).2
 ·rintro ⟨x, h, rfl, h1⟩; refine ⟨⟨x, h⟩, List.mem_filter.2 ⟨List.mem_finRange _, decide_eq_true ?_⟩, rfl⟩; simp only []; rw [key x h]; exact h1
theorem zm {α : Type} (t : α → Int) (T : Int) : ∀ (l : List α) (b : Int), l.foldl (fun b x => mn b (t x)) b ≤ T ↔ b ≤ T ∨ ∃ x ∈ l, t x ≤ T
 | [], b => by simp
 | x :: r, b => by
  rw [List.foldl_cons, zm t T r]; (have hm : mn b (t x) ≤ T ↔ b ≤ T ∨ t x ≤ T := by unfold mn; split <;> omega); rw [hm]; simp only [List.mem_cons, exists_eq_or_imp, or_assoc]
theorem UF (W S : Int) {hs : List S66} (hh : ∀ h ∈ hs, kH h.f1) {sq : List (List S27)} (hq : oV sq) (T : Int) :
 pR hs W S sq (List.finRange hs.length) ≤ T ↔ 1048576 ≤ T ∨ ∃ h ∈ hs, ww W S sq h.f1 ≤ T := by
 have key : ∀ x (h : x < hs.length), ou hs W S sq x = ww W S sq hs[x].f1 := fun x h => by
  have e := oz hs x h; have hf := hh _ (List.getElem_mem h); rw [← e] at hf; rw [ui W S hs hq x hf, e]
 rw [pR, zm]; refine or_congr Iff.rfl ⟨?_, ?_⟩
 ·rintro ⟨x, _, h⟩; exact ⟨_, List.getElem_mem x.2, by rw [← key x.1 x.2]; exact h⟩
 ·rintro ⟨h, hm, h1⟩; obtain ⟨x, hx, rfl⟩ := List.getElem_of_mem hm; exact ⟨⟨x, hx⟩, List.mem_finRange _, by rw [key x hx]; exact h1⟩
end Go.Proofs.Ytihedeofkhapiaa.Pr
end
section
namespace Go.Proofs.Ytihedeofkhapiaa.Pr
open Go.RowKit Go.Shelf Go.Proofs.YtihedeofkhapiaaW.PrintWords Go.Proofs.YtihedeofkhapiaaW.PrintLast Go.Proofs.YtihedeofkhapiaaW.PrintMore
attribute [local go_sem] Oper.semAt_some
set_option maxRecDepth 100000 in
set_option maxHeartbeats 4000000 in
theorem gZ.calls (fq : Int) (bz : Int) (uB : Option Addr) (uE : Nat) (jc : List (S66)) (iZ : Int) (jJ : Int) (lL : Int) (rW : Option Addr) (rZ : Nat) (fF : List (List (S27))) (r : List (List Int)) (w : World) (UV : Kd.C k66 w uB jc.length jc) (Zh : jc.length ≤ uE) (UR : Kd.C (Kd.slice 27 k27) w rW fF.length fF) (aaI : fF.length ≤ rZ) (h : gZ.f fq bz jc iZ jJ lL fF = some r) :
 Calls Try.prog 59 #[.agg #[.int .i64 fq, .int .u8 bz], .agg #[.slice uB jc.length uE, .int .i64 iZ, .int .i64 jJ, .int .i64 lL, .slice rW fF.length rZ]] w fun e w' => ∃ v0_ : Value, e = .returned (v0_) ∧ Kd.S (Kd.slice 5 (Kd.int .u8)) 88 w' w.heap.size (fun _ => True) v0_ r ∧ Below w.heap.size w w' := by
 unfold gZ.f at h; by_cases hck : kG jc iZ jJ lL fF = 0; (case neg => rw [if_neg hck] at h; cases h); rw [if_pos hck] at h; obtain rfl := Option.some.inj h; have hsh := Cn fq bz iZ jJ lL jc fF; have hv := mE hck; have HV := aa.mk hv; have HS := aa.mk (uk hv.2.2.2.2.1); have HSH := aa.mk hsh; have HR0 := aa.mk UV; have HR4 := aa.mk UR; obtain ⟨n, hn⟩ : ∃ n, n = fF.length := ⟨_, rfl⟩; (have hmk : ∀ W : World, (Instr.makeSlice 104 (.int .i64 (fF.length : Int)) (.int .i64 (fF.length : Int))).run Try.prog W = .ok (.slice (some ⟨W.heap.size, 0, none⟩) fF.length fF.length) (W.alloc (.cells (madeCells #[.slice none 0 0] fF.length) 88)) := fun W => SE W _ hv.2.2.2.1); clear hv hck hsh h UV UR Zh aaI; refine callsIn_wide (n := 10).1 ?_; refine callsIn_of_wp_marks Try.func59 rfl trivial ?_ rfl; simp only [Try.ntmps59, List.size_toArray, List.length_cons, List.length_nil, Nat.reduceAdd, Nat.reduceSub, Array.replicate_succ, Array.replicate_zero, List.push_toArray, List.append_toArray, List.nil_append, List.cons_append]; refine wpIn_wide.2 ?_; (go_wp2_with (fail)); refine wp_loop_ghost_k (fun gk a W => ∃ (u6 u7 u8 u9 u10 u11 u12 u13 u14 u15 u24 u25 u26 u27 u28 u29 u30 u31 u32 u33 u34 u35 u36 u37 u38 u39 u40 u41 u42 u43 u44 u45 u46 u47 u48 u49 u50 u51 u52 u53 u54 u55 u56 u57 u58 u59 u60 u61 u62 u63 u64 u65 u66 u67 u68 u69 u70 u71 u72 u73 u74 u75 u76 u77 u78 u79 u80 u81 u82 u83 u84 u85 u86 u87 u88 u89 u90 u91 u92 u93 u94 u95 u96 u97 u98 u99 u100 u101 u102 u103 u104 u105 u106 u107 u108 : Value) (i : Nat) (ds : List Deferred), gk + i = fF.length ∧ a = { tmps := #[.agg #[.int .i64 fq, .int .u8 bz], .agg #[.slice uB jc.length uE, .int .i64 iZ, .int .i64 jJ, .int .i64 lL, .slice rW fF.length rZ], .pointer (some ⟨w.heap.size, 0, none⟩), .pointer (some ⟨w.heap.size + 1, 0, none⟩), .slice none 0 0, .slice (some ⟨w.heap.size + 1 + 1, 0, none⟩) fF.length fF.length, u6, u7, u8, u9, u10, u11, u12, u13, u14, u15, .pointer (some ⟨w.heap.size + 1, 4, none⟩), .slice rW fF.length rZ, .int .i64 fF.length, .slice (some ⟨w.heap.size + 1 + 1, 0, none⟩) fF.length fF.length, .pointer (some ⟨w.heap.size + 1, 4, none⟩), .slice rW fF.length rZ, .int .i64 fF.length, .int .i64 i, u24, u25, u26, u27, u28, u29, u30, u31, u32, u33, u34, u35, u36, u37, u38, u39, u40, u41, u42, u43, u44, u45, u46, u47, u48, u49, u50, u51, u52, u53, u54, u55, u56, u57, u58, u59, u60, u61, u62, u63, u64, u65, u66, u67, u68, u69, u70, u71, u72, u73, u74, u75, u76, u77, u78, u79, u80, u81, u82, u83, u84, u85, u86, u87, u88, u89, u90, u91, u92, u93, u94, u95, u96, u97, u98, u99, u100, u101, u102, u103, u104, u105, u106, u107, u108], defers := ds } ∧ aa (qN w fq bz uB uE jc iZ jJ lL rW rZ fF i ds W)) fF.length ?start ?round
 case start =>
  refine ⟨_, _, _, _, _, _, _, _, _, _, _, _, _, _, _, _, _, _, _, _, _, _, _, _, _, _, _, _, _, _, _, _, _, _, _, _, _, _, _, _, _, _, _, _, _, _, _, _, _, _, _, _, _, _, _, _, _, _, _, _, _, _, _, _, _, _, _, _, _, _, _, _, _, _, _, _, _, _, _, _, _, _, _, _, _, _, _, _, _, _, _, _, _, _, _, 0, [], by omega, rfl, ⟨⟨?_, ?_, ⟨madeCells #[.slice none 0 0] fF.length, fun _ => 0, size_madeCells _ _, ?_, ?_, fun j hj => absurd hj (by omega)⟩, ⟨fun d hd => (by cases hd), List.nodup_nil⟩, ?_⟩⟩⟩
  ·exact dm (dm (heap_alloc_new w _) _) _
  ·refine dm ?_ _; have := heap_alloc_new (w.alloc (.cells #[.int .i64 fq, .int .u8 bz] 100)) (.cells #[.slice uB jc.length uE, .int .i64 iZ, .int .i64 jJ, .int .i64 lL, .slice rW fF.length rZ] 25)
   rwa [World.size_alloc] at this
  ·have := heap_alloc_new ((w.alloc (.cells #[.int .i64 fq, .int .u8 bz] 100)).alloc (.cells #[.slice uB jc.length uE, .int .i64 iZ, .int .i64 jJ, .int .i64 lL, .slice rW fF.length rZ] 25)) (.cells (madeCells #[.slice none 0 0] fF.length) 88)
   rwa [World.size_alloc, World.size_alloc] at this
  ·intro u hu; simp [madeCells] at hu; obtain ⟨k, _, rfl⟩ := hu; rw [Nat.mod_one]; rfl
  ·exact aV (aV (aV (Below.refl _ _) _) _) _
 case round =>
  intro gk a w1 hinv; obtain ⟨u6, hinv⟩ := hinv; obtain ⟨u7, hinv⟩ := hinv; obtain ⟨u8, hinv⟩ := hinv; obtain ⟨u9, hinv⟩ := hinv; obtain ⟨u10, hinv⟩ := hinv; obtain ⟨u11, hinv⟩ := hinv; obtain ⟨u12, hinv⟩ := hinv; obtain ⟨u13, hinv⟩ := hinv; obtain ⟨u14, hinv⟩ := hinv; obtain ⟨u15, hinv⟩ := hinv; obtain ⟨u24, hinv⟩ := hinv; obtain ⟨u25, hinv⟩ := hinv; obtain ⟨u26, hinv⟩ := hinv; obtain ⟨u27, hinv⟩ := hinv; obtain ⟨u28, hinv⟩ := hinv; obtain ⟨u29, hinv⟩ := hinv; obtain ⟨u30, hinv⟩ := hinv; obtain ⟨u31, hinv⟩ := hinv; obtain ⟨u32, hinv⟩ := hinv; obtain ⟨u33, hinv⟩ := hinv; obtain ⟨u34, hinv⟩ := hinv; obtain ⟨u35, hinv⟩ := hinv; obtain ⟨u36, hinv⟩ := hinv; obtain ⟨u37, hinv⟩ := hinv; obtain ⟨u38, hinv⟩ := hinv; obtain ⟨u39, hinv⟩ := hinv; obtain ⟨u40, hinv⟩ := hinv; obtain ⟨u41, hinv⟩ := hinv; obtain ⟨u42, hinv⟩ := hinv; obtain ⟨u43, hinv⟩ := hinv; obtain ⟨u44, hinv⟩ := hinv; obtain ⟨u45, hinv⟩ := hinv; obtain ⟨u46, hinv⟩ := hinv; obtain ⟨u47, hinv⟩ := hinv; obtain ⟨u48, hinv⟩ := hinv; obtain ⟨u49, hinv⟩ := hinv; obtain ⟨u50, hinv⟩ := hinv; obtain ⟨u51, hinv⟩ := hinv; obtain ⟨u52, hinv⟩ := hinv; obtain ⟨u53, hinv⟩ := hinv; obtain ⟨u54, hinv⟩ := hinv; obtain ⟨u55, hinv⟩ := hinv; obtain ⟨u56, hinv⟩ := hinv; obtain ⟨u57, hinv⟩ := hinv; obtain ⟨u58, hinv⟩ := hinv; obtain ⟨u59, hinv⟩ := hinv; obtain ⟨u60, hinv⟩ := hinv; obtain ⟨u61, hinv⟩ := hinv; obtain ⟨u62, hinv⟩ := hinv; obtain ⟨u63, hinv⟩ := hinv; obtain ⟨u64, hinv⟩ := hinv; obtain ⟨u65, hinv⟩ := hinv; obtain ⟨u66, hinv⟩ := hinv; obtain ⟨u67, hinv⟩ := hinv; obtain ⟨u68, hinv⟩ := hinv; obtain ⟨u69, hinv⟩ := hinv; obtain ⟨u70, hinv⟩ := hinv; obtain ⟨u71, hinv⟩ := hinv; obtain ⟨u72, hinv⟩ := hinv; obtain ⟨u73, hinv⟩ := hinv; obtain ⟨u74, hinv⟩ := hinv; obtain ⟨u75, hinv⟩ := hinv; obtain ⟨u76, hinv⟩ := hinv; obtain ⟨u77, hinv⟩ := hinv; obtain ⟨u78, hinv⟩ := hinv; obtain ⟨u79, hinv⟩ := hinv; obtain ⟨u80, hinv⟩ := hinv; obtain ⟨u81, hinv⟩ := hinv; obtain ⟨u82, hinv⟩ := hinv; obtain ⟨u83, hinv⟩ := hinv; obtain ⟨u84, hinv⟩ := hinv; obtain ⟨u85, hinv⟩ := hinv; obtain ⟨u86, hinv⟩ := hinv; obtain ⟨u87, hinv⟩ := hinv; obtain ⟨u88, hinv⟩ := hinv; obtain ⟨u89, hinv⟩ := hinv; obtain ⟨u90, hinv⟩ := hinv; obtain ⟨u91, hinv⟩ := hinv; obtain ⟨u92, hinv⟩ := hinv; obtain ⟨u93, hinv⟩ := hinv; obtain ⟨u94, hinv⟩ := hinv; obtain ⟨u95, hinv⟩ := hinv; obtain ⟨u96, hinv⟩ := hinv; obtain ⟨u97, hinv⟩ := hinv; obtain ⟨u98, hinv⟩ := hinv; obtain ⟨u99, hinv⟩ := hinv; obtain ⟨u100, hinv⟩ := hinv; obtain ⟨u101, hinv⟩ := hinv; obtain ⟨u102, hinv⟩ := hinv; obtain ⟨u103, hinv⟩ := hinv; obtain ⟨u104, hinv⟩ := hinv; obtain ⟨u105, hinv⟩ := hinv; obtain ⟨u106, hinv⟩ := hinv; obtain ⟨u107, hinv⟩ := hinv; obtain ⟨u108, hinv⟩ := hinv; obtain ⟨i, ds, hgi, ha, hM⟩ := hinv; subst ha; intro J K hJ hK; (try dsimp only); clear hmk
  cases gk with
  | zero =>
   (obtain rfl : i = fF.length := by omega); (have c1 : decide (fF.length < fF.length) = false := by simp); go_wp2_with (fail)
   refine xS (C := fun W => Kd.S (Kd.slice 5 (Kd.int .u8)) 88 W w.heap.size (fun _ => True) (.slice (some ⟨w.heap.size + 1 + 1, 0, none⟩) fF.length fF.length) (gX fq bz iZ jJ lL jc fF) ∧ Below w.heap.size w W) (b := w.heap.size)
    ?_ ?_ ds w1 hM.out.marks ⟨qN.all hM.out HV.out.2.2.2.1, hM.out.below⟩
   ·exact fun W D o h hb hD => ⟨Oa h.1 hD rfl, h.2.trans (belowK_b (w := w) (Nat.le_refl _) W D _ _ hb hD rfl rfl)⟩
   ·intro W h; exact ⟨_, results_tmp (show Try.f59.results = #[ResultVar.tmp 4] from rfl) _ _ _, _, rfl, h.1, h.2⟩
  | succ g0 =>
   (have c1 : decide (i < fF.length) = true := by simp; omega); have hlt : w.heap.size + 1 < w1.heap.size := bF hM.out.line; have hmm := @run_makeMap Try.prog; (go_upto_region 6 with (fail)); refine BP (fun W => oh w1 i (fun _ => false) 0 W) ?_ ?_
   ·refine ⟨?_, ?_, ⟨DataW.map [], 0, ?_, Nat.le_refl _, fun c => rfl⟩, aV (aV (aV (Below.refl _ _) _) _) _⟩
    ·exact dm (dm (heap_alloc_new w1 _) _) _
    ·have := heap_alloc_new ((w1.alloc (.cells #[.int .i64 (i : Int)] 3)).alloc (.map #[] 0)) (.cells #[.map (some (w1.heap.size + 1))] 128)
     rwa [World.size_alloc, World.size_alloc] at this
    ·have := World.ownsMap_made (H := Unit) (w1.alloc (.cells #[.int .i64 (i : Int)] 3)) Try.prog 5 (plainElem (H := Unit) Try.prog 4); rw [World.size_alloc] at this; exact this.alloc _
   intro W hR; have HR := aa.mk hR; have HM := aa.mk (hM.out.step (hR.below)); clear hR hmm hlt; have hz0 : W.cell? ⟨w.heap.size + 1, 0, none⟩ = some (.slice uB jc.length uE) := (ag HM.out.line 0).trans rfl; have hz1 : W.cell? ⟨w.heap.size + 1, 1, none⟩ = some (.int .i64 iZ) := (ag HM.out.line 1).trans rfl; have hz2 : W.cell? ⟨w.heap.size + 1, 2, none⟩ = some (.int .i64 jJ) := (ag HM.out.line 2).trans rfl; have hz3 : W.cell? ⟨w.heap.size + 1, 3, none⟩ = some (.int .i64 lL) := (ag HM.out.line 3).trans rfl; have hz4 : W.cell? ⟨w.heap.size + 1, 4, none⟩ = some (.slice rW fF.length rZ) := (ag HM.out.line 4).trans rfl; (go_wp2_with (fail)); refine (callsIn_wide (n := 9).1 (BR 9 _ _ _ _ _ _ _ _ _ _)).mono ?_; rintro e w2 ⟨rfl, rfl⟩; have HRL := aa.mk (HR.out.step (aV (Below.refl _ _) (.cells #[.slice uB jc.length uE, .int .i64 iZ, .int .i64 jJ, .int .i64 lL, .slice rW fF.length rZ] 25))); have bL := heap_alloc_new W (.cells #[.slice uB jc.length uE, .int .i64 iZ, .int .i64 jJ, .int .i64 lL, .slice rW fF.length rZ] 25); have hB0 := aV HM.out.below (.cells #[.slice uB jc.length uE, .int .i64 iZ, .int .i64 jJ, .int .i64 lL, .slice rW fF.length rZ] 25); (have hsz : (W.alloc (.cells #[.slice uB jc.length uE, .int .i64 iZ, .int .i64 jJ, .int .i64 lL, .slice rW fF.length rZ] 25)).heap.size = W.heap.size + 1 := by simp); have hlt1 : w1.heap.size + 1 + 1 < W.heap.size := bF HR.out.mp
   have hlt0 : w.heap.size + 1 + 1 < w1.heap.size := by
    obtain ⟨cs, fo, _, h2, _⟩ := hM.out.rows; exact bF h2
   obtain ⟨bo, hbo⟩ : ∃ bo, bo = W.heap.size := ⟨_, rfl⟩; rw [← hbo] at bL hsz hlt1 ⊢; obtain ⟨W0, hW0⟩ : ∃ W0, W0 = (W.alloc (.cells #[.slice uB jc.length uE, .int .i64 iZ, .int .i64 jJ, .int .i64 lL, .slice rW fF.length rZ] 25)) := ⟨_, rfl⟩; rw [← hW0] at HRL bL hsz hB0 ⊢; clear hW0 hz0 hz1 hz2 hz3 hz4 hbo HR HM; (go_wp2_with (fail)); refine (wpIn_wide (n := 10)).1 ?_
   refine wpIn_rangeFunc_ownH (n := 10) rfl (by omega) (gf := 73) (lb := #[.pointer (some ⟨bo, 0, none⟩)]) rfl trivial (enters_of Try.func73 (by kernel_rfl) rfl)
    (uJ 9 (by omega) bo w1.heap.size uB uE jc iZ jJ lL rW rZ fF HV.out.2.2.2.1 HS.out w W0 (by omega) HR0.out HR4.out hB0 (by omega) bL) MC (OJ (by omega)) (Below.refl _ _) (fun _ => rfl)
    (fun pre W => oh w1 i (mI fq bz iZ jJ lL jc fF i pre) (8 * pre.length) W ∧ bo < W.heap.size)
    (fun _ _ _ => False)
    (fun pre A B row hs hg hr => ⟨hs.1.kept hg (fun r e => by have := (hr r e).1; omega), Nat.lt_of_lt_of_le hs.2 hg.size⟩)
    (fun _ _ _ _ _ hs _ _ => hs)
    ⟨HRL.out, by omega⟩
    (fun x a' W => ∃ Bx, bo < Bx ∧ nA W Bx (dL iZ jJ jc fF x.1) ∧ a' = { tmps := #[.agg #[.int .i64 fq, .int .u8 bz], .agg #[.slice uB jc.length uE, .int .i64 iZ, .int .i64 jJ, .int .i64 lL, .slice rW fF.length rZ], .pointer (some ⟨w.heap.size, 0, none⟩), .pointer (some ⟨w.heap.size + 1, 0, none⟩), .slice none 0 0, .slice (some ⟨w.heap.size + 1 + 1, 0, none⟩) fF.length fF.length, .pointer (some ⟨w1.heap.size, 0, none⟩), .pointer (some ⟨w1.heap.size + 1 + 1, 0, none⟩), .int .i64 (x.1 : Int), .pointer (some ⟨Bx, 0, none⟩), u10, u11, u12, u13, u14, u15, .pointer (some ⟨w.heap.size + 1, 4, none⟩), .slice rW fF.length rZ, .int .i64 fF.length, .slice (some ⟨w.heap.size + 1 + 1, 0, none⟩) fF.length fF.length, .pointer (some ⟨w.heap.size + 1, 4, none⟩), .slice rW fF.length rZ, .int .i64 fF.length, .int .i64 i, .bool true, .int .i64 i, .map (some (w1.heap.size + 1)), .agg #[.slice uB jc.length uE, .int .i64 iZ, .int .i64 jJ, .int .i64 lL, .slice rW fF.length rZ], .func (.func 73) #[] #[.pointer (some ⟨bo, 0, none⟩)], .int .i64 (x.1 : Int), .agg (nums .i64 (dL iZ jJ jc fF x.1)).toArray, u31, u32, u33, u34, u35, u36, u37, u38, u39, u40, u41, u42, u43, u44, u45, u46, u47, u48, u49, u50, u51, u52, u53, u54, u55, u56, u57, u58, u59, u60, u61, u62, u63, u64, u65, u66, u67, u68, u69, u70, u71, u72, u73, u74, u75, u76, u77, u78, u79, u80, u81, u82, u83, u84, u85, u86, u87, u88, u89, u90, u91, u92, u93, u94, u95, u96, u97, u98, u99, u100, u101, u102, u103, u104, u105, u106, u107, u108], defers := [] })
    (fun x a' _ X Y row hs hg hr => by obtain ⟨Bx, h1, h2, h3⟩ := hs; exact ⟨Bx, h1, ⟨h2.1, tF (β := Unit) Bx _ 97 () X Y row h2.2 hg (fun r e => (hr r e).2)⟩, h3⟩)
    ?assign ?body ?done ?stop
   case assign =>
    rintro l pre x W K ⟨hI, hbW⟩ hK; dsimp only [Lt]; have hlen := iY iZ jJ fF (ah jc (x.1 : Int)).f1 fF.length; (have hin : (Try.prog.info? 97).map (·.size) = some 64 := by kernel_rfl); have H64 := aa.mk (show (nums .i64 (dL iZ jJ jc fF x.1)).toArray.size = 64 by simp [nums, dL, hlen]); have HIN := aa.mk hin; have HA := aa.mk (sU (dL iZ jJ jc fF x.1)); have HI := aa.mk hI; have hK2 := aa.mk hK; clear hlen hin hK hI
    gi_wp2_with (refine iF rfl 97 (.tmp 9) (.tmp 30) rfl W.heap.size _ rfl rfl 97 _ (heap_alloc_new W _) (by rw [H64.out]; exact HIN.out) (by rw [H64.out]; rfl) HA.out ?_)
    rw [lK]; have hW1 := HI.out.below.size; refine hK2.out _ _ ((KeepsOthers.alloc _ _).from _) ⟨(Below.refl _ W).alloc hW1 _, fun o ho hc => dm ho _⟩ ⟨HI.out.step (aV (Below.refl _ _) _), by simp; omega⟩ ⟨W.heap.size, hbW, ⟨iY _ _ _ _ _, heap_alloc_new W _⟩, rfl⟩
   case body =>
    rintro l pre x a' W hl ⟨r, hr⟩ ⟨hI, hbW⟩ ⟨Bx, hBx, bN, rfl⟩ hlt; (have hin : (Try.prog.info? 97).map (·.size) = some 64 := by kernel_rfl); (have hin5 : (Try.prog.info? 95).map (·.size) = some 8 := by kernel_rfl); have H64 := aa.mk (show (nums .i64 (dL iZ jJ jc fF x.1)).toArray.size = 64 by simp [nums, bN.1]); have HIN := aa.mk hin; have HIN5 := aa.mk hin5; have HI := aa.mk hI; have HN := aa.mk bN; have HM := aa.mk (hM.out.step hI.below); have HPL := aa.mk hlt; clear hin hin5 hI bN hlt; have hz0 : W.cell? ⟨w.heap.size + 1, 0, none⟩ = some (.slice uB jc.length uE) := (ag HM.out.line 0).trans rfl; have hz1 : W.cell? ⟨w.heap.size + 1, 1, none⟩ = some (.int .i64 iZ) := (ag HM.out.line 1).trans rfl; have hz2 : W.cell? ⟨w.heap.size + 1, 2, none⟩ = some (.int .i64 jJ) := (ag HM.out.line 2).trans rfl; have hz3 : W.cell? ⟨w.heap.size + 1, 3, none⟩ = some (.int .i64 lL) := (ag HM.out.line 3).trans rfl; have hz4 : W.cell? ⟨w.heap.size + 1, 4, none⟩ = some (.slice rW fF.length rZ) := (ag HM.out.line 4).trans rfl; have hg0 : W.cell? ⟨w.heap.size, 0, none⟩ = some (.int .i64 fq) := (ag HM.out.given 0).trans rfl; have hg1 : W.cell? ⟨w.heap.size, 1, none⟩ = some (.int .u8 bz) := (ag HM.out.given 1).trans rfl
    gi_wp2_with (refine nL rfl 97 (.tmp 9) rfl Bx rfl 97 _ (0, 0) _ HN.out.2 Try.underlying97 rfl (by rw [H64.out]; exact HIN.out) ?_)
    refine ⟨trivial, (CallsIn.inRound l (callsIn_wide.2 (sums.calls fq bz uB uE jc iZ jJ lL rW fF.length rZ x.1 (dL iZ jJ jc fF x.1) W (Kd.eT HR0.out HM.out.below) x.2 HN.out.1 HV.out.2.2.2.1 (HS.out x.1 x.2)))).mono ?_⟩; rintro e w2 ⟨rfl, hb⟩; obtain ⟨es, hes⟩ : ∃ es, es = (gp fq bz (dL iZ jJ jc fF x.1) (ah jc (x.1 : Int)).f1 fF.length).1 := ⟨_, rfl⟩; obtain ⟨tot, htot⟩ : ∃ tot, tot = (gp fq bz (dL iZ jJ jc fF x.1) (ah jc (x.1 : Int)).f1 fF.length).2 := ⟨_, rfl⟩; rw [← hes, ← htot]; (have hel : es.length = 8 := by rw [hes]; exact jO _ _ _ _ _); have HE := aa.mk (show (nums .i64 es).toArray.size = 8 by simp [nums, hel]); have HEL := aa.mk hel; have HA := aa.mk (sU es); have HES := aa.mk (And.intro hes htot); have HB2 := aa.mk hb; have HI2 := aa.mk (HI.out.step hb); have HN2 := aa.mk (HN.out.below hb); have HM2 := aa.mk (hM.out.step HI2.out.below); clear hes htot hel hb hz0 hz1 hz2 hz3 hz4 hg0 hg1
    gi_upto_region 10 with (refine iF rfl 95 (.tmp 10) (.tmp 37) rfl w2.heap.size _ rfl rfl 95 _ (heap_alloc_new w2 _) (by rw [HE.out]; exact HIN5.out) (by rw [HE.out]; rfl) HA.out ?_; rw [lK])
    refine Bj (fun W3 => lS w1 i (mI fq bz iZ jJ lL jc fF i pre) (8 * pre.length) bo W0.heap.size Bx w2.heap.size (dL iZ jJ jc fF x.1) es W W3) ?_ ?_
    ·exact ⟨HI2.out.step (aV (Below.refl _ _) _), HN2.out.below (aV (Below.refl _ _) _), ⟨HEL.out, heap_alloc_new w2 _⟩, ((kC HB2.out).trans (KeepsOthers.alloc _ _)).from _,
      ⟨(HB2.out.mono HI.out.below.size).alloc (Nat.le_trans HI.out.below.size HB2.out.size) _, fun o ho _ => dm ((HB2.out.block _ (bF ho)).trans ho) _⟩⟩
    intro W3 hM3; have HM3 := aa.mk hM3; have HL3 := aa.mk (hM.out.step hM3.rnd.below); obtain ⟨By, hBy⟩ : ∃ By, By = w2.heap.size := ⟨_, rfl⟩; (have hByb : w1.heap.size + 1 + 1 < By := by rw [hBy]; exact bF HI2.out.mp); rw [← hBy] at HM3 ⊢; clear hM3 HM2 HN2 HI2 HB2 hBy; have hz0 : W3.cell? ⟨w.heap.size + 1, 0, none⟩ = some (.slice uB jc.length uE) := (ag HL3.out.line 0).trans rfl; obtain ⟨ad, A2, c2, e, hx0, hx1, hx2, hl2, hi2⟩ := oM HR0.out x.1 (by omega) (by have := x.2; omega); cases e; rw [Int.toNat_natCast] at hx0 hx1 hx2; obtain ⟨sh, hsh⟩ : ∃ sh, sh = (ah jc (x.1 : Int)).f1 := ⟨_, rfl⟩; rw [← hsh] at hx2 hl2 hi2; have hx2' := (HL3.out.below.cell (World.block_lt_of_cell? w _ hx2)).trans hx2; have HI := aa.mk hi2; have HSL := aa.mk (show sh.length ≤ 8 by rw [hsh]; exact HS.out x.1 x.2); have HSHX := aa.mk hsh; have hxlt := x.2; clear hx0 hx1 hx2 hi2 hsh
    gi_wp2_with (fail)
    gi_loopg [46] sh.length (fun g v46 wr => ∃ k : Nat, k + g = sh.length ∧ v46 = .int .i64 k ∧ aa (lS w1 i (fun c => mI fq bz iZ jJ lL jc fF i pre c || ni fq bz iZ jJ lL jc fF i x.1 k c) (8 * pre.length + k) bo W0.heap.size Bx By (dL iZ jJ jc fF x.1) es W wr))
    case atStart => exact ⟨0, by omega, rfl, ⟨{ HM3.out with rnd := { HM3.out.rnd with set := HM3.out.rnd.set.congr (fun c => by simp [ni]) } }⟩⟩
    case round =>
     clear hz0 hx2' HM3 HL3; obtain ⟨k, hkg, rfl, HB⟩ := hrel
     cases gk with
     | zero =>
      obtain rfl : k = sh.length := by omega
      gi_wp2_with (fail)
      refine ⟨HB.out.keeps, HB.out.kp, ⟨HB.out.rnd.sq, HB.out.rnd.mp, (HB.out.rnd.set.more ?_).congr ?_, HB.out.rnd.below⟩, Nat.lt_of_lt_of_le hbW HB.out.kp.1.size⟩
      ·have := HSL.out; simp; omega
      ·intro c; rw [Di, ← HSHX.out]
     | succ g2 =>
      (have ck : decide (k < sh.length) = true := by simp; omega); obtain ⟨bd, e, hx0, hx1⟩ := qE HI.out k (by omega) (by omega); cases e; rw [Int.toNat_natCast] at hx0 hx1; have HL := aa.mk (hM.out.step HB.out.rnd.below); replace hx0 := (HL.out.below.cell (World.block_lt_of_cell? w _ hx0)).trans hx0; replace hx1 := (HL.out.below.cell (World.block_lt_of_cell? w _ hx1)).trans hx1; obtain ⟨sk, hsk⟩ : ∃ sk, sk = aj sh (k : Int) := ⟨_, rfl⟩; rw [← hsk] at hx0 hx1; have HSK := aa.mk hsk; clear hsk; have HN' := aa.mk hkg
      gi_upto_region 13 with (fail)
      obtain ⟨bs, hbs⟩ : ∃ bs, bs = wr.heap.size := ⟨_, rfl⟩; refine Bj (fun W4 => lS w1 i (fun c => mI fq bz iZ jJ lL jc fF i pre c || ni fq bz iZ jJ lL jc fF i x.1 k c) (8 * pre.length + k) bo W0.heap.size Bx By (dL iZ jJ jc fF x.1) es W W4 ∧ W4.heap[bs]? = some (.cells #[.int .u8 sk.f0, .int .i64 sk.f1] 86 (0, 0))) ⟨HB.out.step (aV (Below.refl _ _) _), by rw [hbs]; exact heap_alloc_new wr _⟩ ?_; intro W4 hM4; have HM4 := aa.mk hM4.1; have HS4 := aa.mk hM4.2; have HL4 := aa.mk (hM.out.step hM4.1.rnd.below); rw [← hbs]; clear hM4 HL HB hx0 hx1 hbs hkg; have hg0 := cell_regrown ((ag HL4.out.given 0).trans rfl : W4.cell? ⟨w.heap.size, 0, none⟩ = some (.int .i64 fq)); have hg1 := cell_regrown ((ag HL4.out.given 1).trans rfl : W4.cell? ⟨w.heap.size, 1, none⟩ = some (.int .u8 bz)); have hz3 := cell_regrown ((ag HL4.out.line 3).trans rfl : W4.cell? ⟨w.heap.size + 1, 3, none⟩ = some (.int .i64 lL)); have hsq := cell_regrown ((ag HM4.out.rnd.sq 0).trans rfl : W4.cell? ⟨w1.heap.size, 0, none⟩ = some (.int .i64 (i : Int))); have hs0 := cell_regrown ((ag HS4.out 0).trans rfl : W4.cell? ⟨bs, 0, none⟩ = some (.int .u8 sk.f0)); have hs1 := cell_regrown ((ag HS4.out 1).trans rfl : W4.cell? ⟨bs, 1, none⟩ = some (.int .i64 sk.f1)); (have hk8 : k < 8 := by have := HSL.out; have := HN'.out; omega); (have hi8 : i < 8 := by have := HV.out.2.2.2.1; omega); obtain ⟨nv, hnv⟩ : ∃ nv, nv = (dL iZ jJ jc fF x.1).getD (i * 8 + k) 0 := ⟨_, rfl⟩; obtain ⟨ev, hev⟩ : ∃ ev, ev = es.getD i 0 := ⟨_, rfl⟩; have hn0 := HM4.out.arr.cell (i * 8 + k) (by omega); have he0 := HM4.out.eac.cell i hi8; rw [← hnv] at hn0; rw [← hev] at he0; have hn := cell_regrown hn0; have he := cell_regrown he0; (have bi : (i : Int) < 8 := by omega); (have bk : (k : Int) < 8 := by omega); have HNV := aa.mk hnv; have HEV := aa.mk hev; clear hn0 he0 hnv hev
      have HH := aa.mk (show zF fq bz iZ jJ lL jc fF i x.1 k = (vw fq bz (i : Int) sk && decide (nv < 1048576) && decide (IntKind.i64.wrap (IntKind.i64.wrap (tot - ev) + nv) ≤ lL)) by
       rw [HSK.out, HNV.out, HEV.out, HES.out.1, HES.out.2, HSHX.out, ← w64, ← w64]; rfl)
      cases hmay : vw fq bz (i : Int) sk with
      | false =>
       refine lH (by kernel_rfl) (by kernel_rfl) (by kernel_rfl) ?_
       repeat
        (refine wpQuietIn_step (fun _ _ _ _ => trivial) (fun K hK => ?_)
         go_simp
         first
          | (refine hK _ ?_; clear hK K)
          | (apply Exists.intro
             refine ⟨fun _ => ?_, hK _ ?_⟩; (refine CallsIn.regrown_of (CallsIn.inRound l (callsIn_wide.2 (sF fq bz i sk _))))
             clear hK K))
       refine wpQuietIn_nil ?_; rintro _ ⟨p, rfl⟩; obtain ⟨W5, hW5⟩ : ∃ W5, W5 = Go.Sort.grow (redrawn W4 p.d) p.os := ⟨_, rfl⟩; have hb5 := below_regrown W4 p.d p.os; rw [← hW5] at hb5 ⊢; have HM5 := aa.mk (HM4.out.step hb5); have HS5 := aa.mk ((hb5.block _ (bF HS4.out)).trans HS4.out); clear hg0 hg1 hz3 hsq hs0 hs1 hn he hb5 hW5; have HF := aa.mk (show zF fq bz iZ jJ lL jc fF i x.1 k = false from HH.out.trans (by simp [hmay]))
       gi_wp2_with (fail)
       gi_roundg g2
       (case measure => omega); case rel => exact ⟨k + 1, by have := HN'.out; omega, by go_num, ⟨(HM5.out.more (by omega)).congr (fun c => by rw [ni, HF.out]; simp)⟩⟩
      | true =>
       cases hc1 : decide (nv < 1048576) with
       | false =>
        refine lH (by kernel_rfl) (by kernel_rfl) (by kernel_rfl) ?_
        repeat
         (refine wpQuietIn_step (fun _ _ _ _ => trivial) (fun K hK => ?_)
          go_simp
          first
           | (refine hK _ ?_; clear hK K)
           | (apply Exists.intro
              refine ⟨fun _ => ?_, hK _ ?_⟩; (refine CallsIn.regrown_of (CallsIn.inRound l (callsIn_wide.2 (sF fq bz i sk _))))
              clear hK K))
        refine wpQuietIn_nil ?_; rintro _ ⟨p, rfl⟩; obtain ⟨W5, hW5⟩ : ∃ W5, W5 = Go.Sort.grow (redrawn W4 p.d) p.os := ⟨_, rfl⟩; have hb5 := below_regrown W4 p.d p.os; rw [← hW5] at hb5 ⊢; have HM5 := aa.mk (HM4.out.step hb5); have HS5 := aa.mk ((hb5.block _ (bF HS4.out)).trans HS4.out); clear hg0 hg1 hz3 hsq hs0 hs1 hn he hb5 hW5; have HF := aa.mk (show zF fq bz iZ jJ lL jc fF i x.1 k = false from HH.out.trans (by simp [hmay, hc1]))
        gi_wp2_with (fail)
        gi_roundg g2
        (case measure => omega); case rel => exact ⟨k + 1, by have := HN'.out; omega, by go_num, ⟨(HM5.out.more (by omega)).congr (fun c => by rw [ni, HF.out]; simp)⟩⟩
       | true =>
        cases hc2 : decide (IntKind.i64.wrap (IntKind.i64.wrap (tot - ev) + nv) ≤ lL) with
        | false =>
         refine lH (by kernel_rfl) (by kernel_rfl) (by kernel_rfl) ?_
         repeat
          (refine wpQuietIn_step (fun _ _ _ _ => trivial) (fun K hK => ?_)
           go_simp
           first
            | (refine hK _ ?_; clear hK K)
            | (apply Exists.intro
               refine ⟨fun _ => ?_, hK _ ?_⟩; (refine CallsIn.regrown_of (CallsIn.inRound l (callsIn_wide.2 (sF fq bz i sk _))))
               clear hK K))
         refine wpQuietIn_nil ?_; rintro _ ⟨p, rfl⟩; obtain ⟨W5, hW5⟩ : ∃ W5, W5 = Go.Sort.grow (redrawn W4 p.d) p.os := ⟨_, rfl⟩; have hb5 := below_regrown W4 p.d p.os; rw [← hW5] at hb5 ⊢; have HM5 := aa.mk (HM4.out.step hb5); have HS5 := aa.mk ((hb5.block _ (bF HS4.out)).trans HS4.out); clear hg0 hg1 hz3 hsq hs0 hs1 hn he hb5 hW5; have HF := aa.mk (show zF fq bz iZ jJ lL jc fF i x.1 k = false from HH.out.trans (by simp [hmay, hc1, hc2]))
         gi_wp2_with (fail)
         gi_roundg g2
         (case measure => omega); case rel => exact ⟨k + 1, by have := HN'.out; omega, by go_num, ⟨(HM5.out.more (by omega)).congr (fun c => by rw [ni, HF.out]; simp)⟩⟩
        | true =>
         refine lH (by kernel_rfl) (by kernel_rfl) (by kernel_rfl) ?_
         repeat
          (refine wpQuietIn_step (fun _ _ _ _ => trivial) (fun K hK => ?_)
           go_simp
           first
            | (refine hK _ ?_; clear hK K)
            | (apply Exists.intro
               refine ⟨fun _ => ?_, hK _ ?_⟩; (refine CallsIn.regrown_of (CallsIn.inRound l (callsIn_wide.2 (sF fq bz i sk _))))
               clear hK K))
         refine wpQuietIn_nil ?_; rintro _ ⟨p, rfl⟩; obtain ⟨W5, hW5⟩ : ∃ W5, W5 = Go.Sort.grow (redrawn W4 p.d) p.os := ⟨_, rfl⟩; have hb5 := below_regrown W4 p.d p.os; rw [← hW5] at hb5 ⊢; have HM5 := aa.mk (HM4.out.step hb5); have HS5 := aa.mk ((hb5.block _ (bF HS4.out)).trans HS4.out); clear hg0 hg1 hz3 hsq hs0 hs1 hn he hb5 hW5; have HF := aa.mk (show zF fq bz iZ jJ lL jc fF i x.1 k = true from HH.out.trans (by simp [hmay, hc1, hc2])); obtain ⟨D, nn, hown, hnn, hhas⟩ := HM5.out.rnd.set; have hlet := De HV.out.2.2.2.2.1 x.1 k hxlt (by rw [← HSHX.out]; have := HN'.out; omega); rw [← HSHX.out, ← HSK.out] at hlet
         have hkey : keyOf Try.prog 5 (.int .u8 sk.f0) = some (.int .u8 sk.f0) := by
          have hwf : (Lit.int .u8 sk.f0).wf = true := by
           have e1 : IntKind.u8.min = 0 := rfl; have e2 : IntKind.u8.max = 255 := rfl; simp only [Lit.wf, e1, e2]; simp; omega
          simp [keyOf, mapKey, Try.underlying5, hwf]
         have hmx : nn < maxLen := by
          have := HPL.out; have := HV.out.2.1; have := HSL.out; unfold maxLen; omega
         have HOWN := aa.mk hown; have HHAS := aa.mk hhas; have hq := (ag HM5.out.rnd.mp 0).trans rfl; have hs0 : W5.cell? ⟨bs, 0, none⟩ = some (.int .u8 sk.f0) := (ag HS5.out 0).trans rfl; have hmp : W5.cell? ⟨w1.heap.size + 1 + 1, 0, none⟩ = some (.map (some (w1.heap.size + 1))) := hq; clear hown hhas hq
         gi_wp2_with (refine wpListIn_mapUpdate_own W5 rfl (.tmp 79) (.tmp 81) (.const (.bool true)) 128 rfl 5 4 (Maps.int_keyed Try.underlying5) Try.underlying128 (plainElem Try.prog 4) (w1.heap.size + 1) nn D rfl HOWN.out hmx (.int .u8 sk.f0) (.bool true) (.int .u8 sk.f0) rfl rfl hkey (.lit (.bool true)) [] (plainElem_bool Try.underlying4 true) ?_; intro w6 r1 r2; have R1 := aa.mk r1; have R2 := aa.mk r2; clear r1 r2)
         gi_roundg g2
         case measure => omega
         case rel =>
          refine ⟨k + 1, by have := HN'.out; omega, by go_num, ⟨(HM5.out.turn R2.out (nP.put R1.out HOWN.out.isMap (show nn + 1 ≤ 8 * pre.length + (k + 1) by omega) HHAS.out) (by omega) (by omega) (by omega) (by omega)).congr (fun c => ?_)⟩⟩; rw [ni, HF.out, ← HSHX.out, ← HSK.out]; simp [Bool.or_assoc]
   case done =>
    rintro D ys W hD rfl ⟨hR, hbW⟩ hKD; obtain ⟨DD, nn, hown, hnn, hhas⟩ := hR.set; have HOWN := aa.mk hown; have HHAS := aa.mk hhas; have HNN := aa.mk (show nn ≤ 8 * jc.length by simpa using hnn); have HR := aa.mk hR; have HKD := aa.mk hKD; have hmp : W.cell? ⟨w1.heap.size + 1 + 1, 0, none⟩ = some (.map (some (w1.heap.size + 1))) := (ag hR.mp 0).trans rfl; have HDS := aa.mk (show w1.heap.size ≤ D by omega); clear hown hhas hnn hR hKD HRL bL hB0 hsz hD; go_wp2_with (at_range; refine wpList_range_own _ rfl (.tmp 83) 128 rfl 5 4 (Maps.int_keyed Try.underlying5) Try.underlying128 _ (w1.heap.size + 1) nn DD rfl HOWN.out ?_; intro w3 hrg hg3 hs3)
    go_frame
    (go_loopg [14] (Maps.size DD) (fun g v14 wr => ∃ (left : Lit → Bool) (ss : List Int), aa (wr.ranges Try.prog 5 (plainElem (H := Unit) Try.prog 4) (w1.heap.size + 1) W.heap.size nn DD left g) ∧ aa (ss.length + g ≤ Maps.size DD) ∧ aa (Kd.R (Kd.int .u8) 5 wr W.heap.size (fun k => k ≠ W.heap.size) v14 ss) ∧ aa (xD (mI fq bz iZ jJ lL jc fF i (List.finRange jc.length)) left ss) ∧ aa (Below W.heap.size W wr) ∧ aa (W.heap.size < wr.heap.size))); case atStart => exact ⟨_, [], ⟨hrg⟩, ⟨by simp⟩, ⟨Kd.wC _ _ _ _ _⟩, ⟨xD.start HHAS.out⟩, ⟨(Below.refl _ _).grown hg3 (Nat.le_refl _) (fun j hj => by cases hj)⟩, ⟨by omega⟩⟩
    case round =>
     clear hrg hg3 hs3 hmp; obtain ⟨left, ss, hrg, hcs, hrow, hC, hB, hlt⟩ := hrel
     have hss : ss.length + gk ≤ 32 := by
      have h1 := hcs.out; have h2 := HOWN.out.size_le; have h3 := HNN.out; have h4 := HV.out.2.1; omega
     go_wp2_with (at_next; refine wpList_next_ranges _ rfl (.tmp 84) rfl 5 (Maps.int_keyed Try.underlying5) (plainElem Try.prog 4) (Value.int .u8) (fun v : Value => v) (fun key kl hk => by obtain ⟨x, e, _⟩ := Pg hk; exact ⟨x, e⟩) (fun v y hv => ⟨v, rfl⟩) (w1.heap.size + 1) W.heap.size nn DD left gk rfl hrg.out ?_ ?_)
     ·intro hc0 hl0; obtain ⟨T, hT⟩ : ∃ T, T = gK fq bz iZ jJ lL jc fF i := ⟨_, rfl⟩; have hTm : T.length ≤ 256 := HSH.out T (by rw [hT]; exact List.mem_map.2 ⟨i, by simp; omega, rfl⟩); (have hp : T.Perm ss := by rw [hT]; exact hC.out.perm hl0); (have hsl : ss.length ≤ 256 := by rw [← hp.length_eq]; exact hTm); (have hts : T.Pairwise (· ≤ ·) := by rw [hT]; exact Bw _ _ _ _ _ _ _ _); have HSORT := aa.mk (Mq (fun k => k ≠ W.heap.size) u14 ss T W wr hB.out hrow.out (Nat.le_trans hsl (by decide)) hts hp); have HTT := aa.mk hT; (have hms : ∀ X : World, (Instr.makeSlice 88 (.int .i64 (T.length : Int)) (.int .i64 (T.length : Int))).run Try.prog X = .ok (.slice (some ⟨X.heap.size, 0, none⟩) T.length T.length) (X.alloc (.cells (madeCells #[.int .u8 0] T.length) 5)) := fun X => N7 X _ (by omega)); clear hp hts hsl hT hc0 hl0 hss; (go_upto_region 22 with (go_at_call 79; refine HSORT.out.mono ?_; rintro e w6 ⟨rfl, q1, q2, q3⟩; have Q1 := aa.mk q1; have Q2 := aa.mk q2; clear q1 q2 q3)); obtain ⟨A14, c14, rfl⟩ := Kd.fu Q1.out; have HR6 := aa.mk (HR.out.step Q2.out); have HM6 := aa.mk (hM.out.step HR6.out.below); obtain ⟨cs, fo, h1, h2, h3, h4⟩ := HM6.out.rows; have HC6 := aa.mk h2; have hsq : w6.cell? ⟨w1.heap.size, 0, none⟩ = some (.int .i64 (i : Int)) := (ag HR6.out.sq 0).trans rfl; obtain ⟨uo, hco⟩ : ∃ uo, w6.cell? ⟨w.heap.size + 1 + 1, i, none⟩ = some uo := ⟨_, (ag h2 i).trans (Array.getElem?_eq_getElem (by omega))⟩; have hfo : w6.frozen? ⟨w.heap.size + 1 + 1, i, none⟩ = false := aM h2 i; have hlt6 : w.heap.size + 1 + 1 < w6.heap.size := bF h2; have hlt7 : w1.heap.size < w6.heap.size := bF HR6.out.sq; (have hi4 : i < fF.length := by omega); (have hi5 : (i : Int) < (fF.length : Int) := by omega); clear h1 h2 h3 h4; refine GG ?_; go_region_with (fail)
      all_goals
       have hV : (w6.setCell ⟨w.heap.size + 1 + 1, i, none⟩ (.slice (some ⟨w6.heap.size, 0, none⟩) T.length T.length)).heap.size = w6.heap.size := by simp
       have hmade := WG (w6.setCell ⟨w.heap.size + 1 + 1, i, none⟩ (.slice (some ⟨w6.heap.size, 0, none⟩) T.length T.length)) T.length w6.heap.size (by omega) (by rw [hV]; exact Nat.le_refl _)
       rw [hV] at hmade
       have hxo : (((w6.setCell ⟨w.heap.size + 1 + 1, i, none⟩ (.slice (some ⟨w6.heap.size, 0, none⟩) T.length T.length)).alloc (.cells (madeCells #[.int .u8 0] T.length) 5)).drew).heap[w.heap.size + 1 + 1]? = some (.cells (cs.setIfInBounds i (.slice (some ⟨w6.heap.size, 0, none⟩) T.length T.length)) 88 (0, 0)) :=
        dQ (dm (heap_setCell_same w6 _ i _ _ _ HC6.out) _)
       have hxb : ∀ k, k < w6.heap.size → k ≠ w.heap.size + 1 + 1 → (((w6.setCell ⟨w.heap.size + 1 + 1, i, none⟩ (.slice (some ⟨w6.heap.size, 0, none⟩) T.length T.length)).alloc (.cells (madeCells #[.int .u8 0] T.length) 5)).drew).heap[k]? = w6.heap[k]? := fun k hk hne => by
        have e1 := Below.heap_setCell w6 ⟨w.heap.size + 1 + 1, i, none⟩ (.slice (some ⟨w6.heap.size, 0, none⟩) T.length T.length) k hne; have e2 := (aV (Below.refl _ (w6.setCell ⟨w.heap.size + 1 + 1, i, none⟩ (.slice (some ⟨w6.heap.size, 0, none⟩) T.length T.length))) (.cells (madeCells #[.int .u8 0] T.length) 5)).block k (by rw [hV]; exact hk); exact e2.trans e1
       have hxw : Below w.heap.size w (((w6.setCell ⟨w.heap.size + 1 + 1, i, none⟩ (.slice (some ⟨w6.heap.size, 0, none⟩) T.length T.length)).alloc (.cells (madeCells #[.int .u8 0] T.length) 5)).drew) :=
        jE (aV (bV HM6.out.below (by omega)) _)
       have hxR := Kd.qz hmade
       have hxs : w6.heap.size < (((w6.setCell ⟨w.heap.size + 1 + 1, i, none⟩ (.slice (some ⟨w6.heap.size, 0, none⟩) T.length T.length)).alloc (.cells (madeCells #[.int .u8 0] T.length) 5)).drew).heap.size := by
        simp [World.drew]
       obtain ⟨X, hX⟩ : ∃ X, X = (((w6.setCell ⟨w.heap.size + 1 + 1, i, none⟩ (.slice (some ⟨w6.heap.size, 0, none⟩) T.length T.length)).alloc (.cells (madeCells #[.int .u8 0] T.length) 5)).drew) := ⟨_, rfl⟩
       rw [← hX] at hxo hxb hxw hxR hxs ⊢
       have hWw := HR.out.below.size
       have hlt0' : w.heap.size + 1 + 1 < w1.heap.size := hlt0
       have hxT : Kd.R (Kd.int .u8) 5 X W.heap.size (fun _ => True) (.slice A14 T.length c14) T := Kd.df (Kd.tK (Kd.jD Q1.out) (fun k hk => hxb k hk.2.2.1 (by have := hk.2.1; omega))) (fun _ _ => trivial)
       have HXC := aa.mk (Kd.dM hxT).2.2
       have HXR := aa.mk hxR
       have HXB := aa.mk hxb
       have HXO := aa.mk hxo
       have HXW := aa.mk hxw
       have hsq' : X.cell? ⟨w1.heap.size, 0, none⟩ = some (.int .i64 (i : Int)) := (ag ((hxb _ hlt7 (by omega)).trans HR6.out.sq) 0).trans rfl
       have hxv : X.cell? ⟨w.heap.size + 1 + 1, i, none⟩ = some (.slice (some ⟨w6.heap.size, 0, none⟩) T.length T.length) := by
        obtain ⟨cs', fo', g1, g2, _⟩ := HM6.out.rows; rw [HC6.out] at g2; injection g2 with g2; injection g2 with g2; subst g2; rw [ag hxo i]; simp [g1, hi4]
       have hWD : W.heap[D]? = some (.deferred (some [])) := HKD.out
       have HDL := aa.mk (show D < w6.heap.size by have := bF hWD; have := Q2.out.size; omega)
       have HXD := aa.mk ((hxb D HDL.out (by have := HDS.out; omega)).trans ((Q2.out.block D (bF hWD)).trans hWD))
       clear hV hmade hxo hxb hxw hxR hX hsq hco hfo hxT hWD hms
       refine LB ?_
       go_wp2_with (refine Kd.Xc (enc := Value.int .u8) 0 (w0 := X) w6.heap.size rfl (.tmp 104) (.tmp 105) 88 88 5 rfl Try.underlying88 (by kernel_rfl) (.slice (some ⟨w6.heap.size, 0, none⟩) T.length T.length) (List.replicate T.length 0) T A14 T.length c14 (fun k => k = w6.heap.size) rfl rfl HXR.out HXC.out (Below.refl _ _) (Nat.le_of_lt hxs) ?_; intro w8 r8 b8 g8; have R8 := aa.mk r8; have B8 := aa.mk b8; have G8 := aa.mk g8; clear r8 b8 g8)
       have hT8 : List.take (min T.length (List.replicate T.length (0 : Int)).length) T ++ List.drop (min T.length (List.replicate T.length (0 : Int)).length) (List.replicate T.length (0 : Int)) = T := by simp
       have r8 := R8.out
       rw [hT8, HTT.out] at r8
       have hx6 : w1.heap.size ≤ w6.heap.size := Nat.le_of_lt hlt7
       rw [xQ i fF.length hi4 (by have := HV.out.2.2.2.1; omega)]
       refine Handed.intro g0 (by omega) (hJ _ _ _ ⟨_, _, _, _, _, _, _, _, _, _, _, _, _, _, _, _, _, _, _, _, _, _, _, _, _, _, _, _, _, _, _, _, _, _, _, _, _, _, _, _, _, _, _, _, _, _, _, _, _, _, _, _, _, _, _, _, _, _, _, _, _, _, _, _, _, _, _, _, _, _, _, _, _, _, _, _, _, _, _, _, _, _, _, _, _, _, _, _, _, _, _, _, _, _, _, i + 1, { target := .collected D, args := #[] } :: ds, by omega, rfl, ⟨qN.next hM.out hi4 (HXW.out.trans (B8.out.mono (by omega))) (fun k hk hne => (B8.out.block k (by omega)).trans ((HXB.out k (by omega) hne).trans (HR6.out.below.block k hk))) (fun cs' h' => ?_) rfl (by omega) (Kd.fI (Kd.df r8 (fun _ _ => trivial)) hx6) ((B8.out.block D HDL.out).trans HXD.out) HDS.out⟩⟩)
       have e6 := (HR6.out.below.block _ hlt0').trans h'
       rw [HC6.out] at e6
       injection e6 with e6
       injection e6 with e6
       subst e6
       have hx9 := HXO.out
       rw [HTT.out] at hx9
       exact (B8.out.block _ hlt6).trans hx9
     ·intro x c kl yd yp w4 cnt2 hkey hlk hv hat hrg2 hlt2 hg2 hs2 hen; obtain ⟨x', ex, rfl, hwf⟩ := Pg hkey; (obtain rfl : x = x' := by simpa using ex); have HX := aa.mk (hC.out.step hlk ((HHAS.out x).symm.trans (Maps.has_true_of_atKey hat)) (wf_u8.1 hwf)); have hbw := hrow.out; (have hnr : ∀ k, u14.ownBlock = some k → k ≠ W.heap.size ∧ W.heap.size ≤ k := fun k e => ⟨((Kd.jD hrow.out).1 k e).1, ((Kd.jD hrow.out).1 k e).2.1⟩); have HO := aa.mk (Kd.Kg hrow.out hg2 (fun k hk e => hk (by injection e))); have HB4 := aa.mk (hB.out.grown hg2 (Nat.le_of_lt hlt.out) (fun j hj => by cases hj; exact Nat.le_refl _)); have HL4 := aa.mk (show W.heap.size < w4.heap.size by rw [hs2]; exact hlt.out); have HRG := aa.mk hrg2; have HNR := aa.mk hnr; have HLT := aa.mk hlt2; clear hkey hlk hv hat hrg2 hg2 hs2 hwf hbw hnr hlt2; (go_wp2_with (refine Kd.Ec (Value.int .u8) 0 (w0 := W) W.heap.size rfl (.tmp 89) (.tmp 91) 88 5 (.int .u8 0) 1 rfl Try.underlying88 (by kernel_rfl) rfl (by decide) u14 ss [x] (some ⟨w4.heap.size, 0, none⟩) 1 1 (fun k => k ≠ W.heap.size) rfl rfl (fun k hk => by have := HL4.out; simp at hk; omega) (Kd.eO HO.out (aV (Below.refl _ _) _)) (WO ((World.cell?_alloc_at _ _ _ _ rfl).trans rfl)) (aV HB4.out _) (by have := HL4.out; simp; omega) (by omega) ?_; intro v1 w5 hr5 hb5 hg5 hat5)); have HRG5 := aa.mk ((HRG.out.alloc _).kept hg5 (fun e => by have := (HNR.out _ e.symm).2; omega) (fun e => (HNR.out _ e.symm).1 rfl)); have hs5 := hg5.size; go_roundg cnt2; (case measure => exact HLT.out); case rel => exact ⟨_, ss ++ [x], HRG5, ⟨by have := hcs.out; have := HLT.out; simp; omega⟩, ⟨hr5⟩, HX, ⟨hb5⟩, ⟨by have := HL4.out; simp at hs5; omega⟩⟩
   case stop =>
    rintro D c pre W _ _ h _; exact h.elim
end Go.Proofs.Ytihedeofkhapiaa.Pr
end
section
namespace Go.Proofs.Ytihedeofkhapiaa.Pr
open Go.RowKit Go.Proofs.YtihedeofkhapiaaW.PrintWords Go.Proofs.YtihedeofkhapiaaW.PrintLast Go.Proofs.YtihedeofkhapiaaW.PrintMore
attribute [local go_sem] ol nV qa qb mK mF oq om
def bM.l0 : Nat → List ByteArray → List (List Int) → Int → Int → Option (List ByteArray × Int)
 | 0, _, _, _, _ => none
 | k + 1, x6, x19, x20, x21 => if x21 < x20 then (if 0 ≤ x21 then (if x21 < (x19.length : Int) then (if x6.length < 8796093022208 then (bM.l0 k (x6 ++ [strOfNums (vo x19 x21)]) x19 x20 (wrap64 (x21 + 1))) else (none)) else (none)) else (none)) else (some (x6, 0))
def bM.f (k : Nat) (aZ : List (S66)) (bz : Int) (bS : Int) (bW : Int) (bB : List (List (S27))) : Option (List ByteArray × Int) := (fA.f aZ bz bS bW bB).bind fun FN => (if FN.2 = 0 then ((gZ.f (-1) 0 aZ bz bS bW bB).bind fun qF => (bM.l0 k ([] : List ByteArray) qF (qF.length : Int) 0)) else (some (([] : List ByteArray), FN.2)))
theorem bM.fO : ∀ k, (∀ y0 y1 y2 y3, LeO (bM.l0 k y0 y1 y2 y3) (bM.l0 (k + 1) y0 y1 y2 y3))
 | 0 => fun _ _ _ _ r h => by simp [bM.l0] at h
 | k + 1 => by
  have ih0 := bM.fO k
  ·intro y0 y1 y2 y3; unfold bM.l0
   repeat' first | (with_reducible exact ih0 _ _ _ _) | (with_reducible exact LeO.refl _) | (with_reducible refine LeO.ite ?_ ?_)
theorem bM.mono : ∀ a0 a1 a2 a3 a4 k, LeO (bM.f k a0 a1 a2 a3 a4) (bM.f (k + 1) a0 a1 a2 a3 a4) := by
 intro a0 a1 a2 a3 a4 k; have ih0 := bM.fO k; unfold bM.f
 repeat' first | (with_reducible exact ih0 _ _ _ _) | (with_reducible exact LeO.refl _) | (with_reducible refine LeO.ite ?_ ?_) | (with_reducible refine LeO.bind ?_ (fun _ => ?_))
set_option maxHeartbeats 8000000 in
set_option maxRecDepth 100000 in
theorem bM.calls (k : Nat) (eX : Option Addr) (dZ : Nat) (aZ : List (S66)) (bz : Int) (bS : Int) (bW : Int) (eB : Option Addr) (dW : Nat) (bB : List (List (S27))) (r1 : List ByteArray) (r2 : Int) (w : World) (lZ : Kd.C k66 w eX aZ.length aZ) (nz : aZ.length ≤ dZ) (mf : Kd.C (Kd.slice 27 k27) w eB bB.length bB) (nD : bB.length ≤ dW) (h : bM.f k aZ bz bS bW bB = some (r1, r2)) :
 Calls Try.prog 24 #[.agg #[.slice eX aZ.length dZ, .int .i64 bz, .int .i64 bS, .int .i64 bW, .slice eB bB.length dW]] w fun e w' => ∃ v0_ : Value, e = .returned (.tuple #[v0_, .int .i64 r2]) ∧ Kd.R Kd.string 9 w' w.heap.size (fun _ => True) v0_ r1 ∧ Below w.heap.size w w' := by
 have hu25 := Try.underlying25; have hu100 := Try.underlying100; have pU := aa.mk lZ; have uW := aa.mk nz; clear lZ nz; have ry := aa.mk mf; have uT := aa.mk nD; clear mf nD; have HB := aa.mk (Below.refl w.heap.size w); have H : ((fA.f aZ bz bS bW bB).bind fun FN => (if FN.2 = 0 then ((gZ.f (-1) 0 aZ bz bS bW bB).bind fun qF => (bM.l0 k ([] : List ByteArray) qF (qF.length : Int) 0)) else (some (([] : List ByteArray), FN.2)))) = some (r1, r2) := h; clear h; replace H := Option.bind_eq_some_iff.mp H; obtain ⟨⟨Y1, Ht⟩, A20, H⟩ := H; dsimp only at H; have A2 := aa.mk A20; clear A20; by_cases c3 : Ht = 0
 ·rw [if_pos c3] at H; have rX : (Ht == 0) = true := beq_iff_eq.mpr c3; have Cj : (Ht != 0) = false := bne_eq_false_iff_eq.mpr c3; clear c3; replace H := Option.bind_eq_some_iff.mp H; obtain ⟨qF, A40, H⟩ := H; have A4 := aa.mk A40; clear A40; have H' := aa.mk H; clear H; go_enter Try.func24, Try.ntmps24; (go_wp2_with (first | ((with_reducible refine dh (N := 1) rfl ?_); refine dA ?hg (N := 1) ?hd (cs := #[.slice eX aZ.length dZ, .int .i64 bz, .int .i64 bS, .int .i64 bW, .slice eB bB.length dW]) (t := 25) ?hr ?_; (case hd => rfl); (case hg => rfl); (case hr => (go_simp; done)); intro CB hg w5 hbox hb; have pW := aa.mk (hbox); have YE := aa.mk ((by rw [hg]; exact (az (by exact HB.out)) : w.heap.size ≤ CB)); have aaa := aa.mk ((by rw [hg]; exact (az (by exact HB.out)) : w.heap.size ≤ CB)); replace HB := aa.mk (aW (by exact HB.out) hb); clear hb hbox hg; obtain ⟨yz, yF, IG, GZ, GD, yL, yG, GL, Ie, Ig⟩ := cells5 pW.out) | ((with_reducible refine bT (f := 58) rfl ?_); refine fC (some 11) rfl rfl Try.func58 (by kernel_rfl) rfl #[.agg #[.slice eX aZ.length dZ, .int .i64 bz, .int .i64 bS, .int .i64 bW, .slice eB bB.length dW]] rfl (by (simp only [List.map_toArray, List.map_cons, List.map_nil]); rfl) ?_; (with_reducible refine (fA.calls _ _ aZ bz bS bW _ _ bB Y1 Ht _ ?side1 ?side2 ?side3 ?side4 A2.out).mono ?_); (case side1 => repeat (exact (Kd.eT pU.out HB.out))); (case side2 => exact uW.out); (case side3 => repeat (exact (Kd.eT ry.out HB.out))); (case side4 => exact uT.out); rintro e w7 ⟨agn, rfl, ho0, hb⟩; refine ⟨_, rfl, ?_⟩; have OH := aa.mk (Kd.fI ho0 (az (by exact HB.out))); replace pW := aa.mk (aG (bU pW.out) hb); replace HB := aa.mk (aW (by exact HB.out) hb); clear hb; clear ho0; obtain ⟨DI, DV, Py, VX, Xj, Ej, EB, Od, Xu, XC⟩ := cells5 pW.out) | ((with_reducible refine bT (f := 59) rfl ?_); refine fC (some 19) rfl rfl Try.func59 (by kernel_rfl) rfl #[.agg #[.int .i64 (-1), .int .u8 0], .agg #[.slice eX aZ.length dZ, .int .i64 bz, .int .i64 bS, .int .i64 bW, .slice eB bB.length dW]] rfl (by (simp only [List.map_toArray, List.map_cons, List.map_nil]); rfl) ?_; (with_reducible refine (gZ.calls (-1) 0 _ _ aZ bz bS bW _ _ bB qF _ ?side1 ?side2 ?side3 ?side4 A4.out).mono ?_); (case side1 => repeat (exact (Kd.eT pU.out HB.out))); (case side2 => exact uW.out); (case side3 => repeat (exact (Kd.eT ry.out HB.out))); (case side4 => exact uT.out); rintro e w9 ⟨aiq, rfl, ho0, hb⟩; refine ⟨_, rfl, ?_⟩; replace OH := aa.mk (Kd.eO (rU OH.out) hb); have Ve := aa.mk (Kd.Ta ho0 (az (by exact HB.out))); replace pW := aa.mk (aG (bU pW.out) hb); replace HB := aa.mk (aW (by exact HB.out) hb); clear hb; clear ho0; obtain ⟨nY, nX, PH⟩ := Kd.tN Ve.out; subst PH))); (go_loopg [6, 21] k (fun kq v6 v21 w' => ∃ (fe : List ByteArray) (nJ : Int), v21 = .int .i64 nJ ∧ aa (bM.l0 kq fe qF (qF.length : Int) nJ = some (r1, r2)) ∧ aa (kq ≤ k) ∧ aa (Kd.R Kd.string 9 w' w.heap.size (fun _ => True) v6 fe) ∧ aa (Kd.S (Kd.slice 5 (Kd.int .u8)) 88 w' w.heap.size (fun _ => True) (.slice nY qF.length nX) qF) ∧ aa (w'.heap[CB]? = some (.cells #[(.slice eX aZ.length dZ), .int .i64 bz, .int .i64 bS, .int .i64 bW, (.slice eB bB.length dW)] 25 (0, 0))) ∧ aa (Below w.heap.size w w'))); case atStart => exact ⟨(([] : List ByteArray)), (0), (by rfl), H', ⟨Nat.le_refl _⟩, ⟨by exact Kd.wC _ _ _ _ _⟩, ⟨by (with_reducible skip); exact Ve.out⟩, ⟨by (with_reducible skip); exact pW.out⟩, ⟨by exact HB.out⟩⟩
  case round =>
   clear H' rX Cj yz yF IG GZ GD DI DV Py VX Xj yL yG GL Ie Ig Ej EB Od Xu XC; obtain ⟨fe, nJ, rfl, HA, HK1, KW, EK, pW, HB⟩ := hrel
   cases gk with
   | zero => exact absurd HA.out (by simp [bM.l0])
   | succ k1 =>
    have H := HA.out; clear HA; simp only [bM.l0] at H; by_cases c11 : nJ < (qF.length : Int)
    ·rw [if_pos c11] at H; have IQ : decide (nJ < (qF.length : Int)) = true := decide_eq_true c11; clear c11; by_cases c12 : 0 ≤ nJ
     ·rw [if_pos c12] at H; have zD : decide (0 ≤ nJ) = true := decide_eq_true c12; clear c12; by_cases c13 : nJ < (qF.length : Int)
      ·rw [if_pos c13] at H; have aha : decide (nJ < (qF.length : Int)) = true := decide_eq_true c13; clear c13; by_cases c14 : fe.length < 8796093022208
       ·rw [if_pos c14] at H; have ZI := aa.mk c14; clear c14; obtain ⟨aa8, PK⟩ : ∃ y_ : List ByteArray, y_ = (fe ++ [strOfNums (vo qF nJ)]) := ⟨_, rfl⟩; (replace H : (bM.l0 k1 aa8 qF (qF.length : Int) (wrap64 (nJ + 1))) = some (r1, r2) := by (rw [PK]; with_reducible exact H)); have Z5 := aa.mk PK; clear PK; have H' := aa.mk H; clear H; have QL : 0 ≤ (nJ : Int) := of_decide_eq_true (by with_reducible assumption); have Sy : nJ < (qF.length : Int) := of_decide_eq_true (by with_reducible assumption); obtain ⟨agB, A254_0, c254_0, e254, TI, JJ, J3⟩ := aaN (Kd.mV EK.out).2.2 nJ QL Sy; cases e254; obtain ⟨ce254, Xl, WJ, Pk⟩ := Kd.aau EK.out [] nJ QL (by exact Sy); obtain ⟨ve254_0, rfl, Eh⟩ := WJ; have xe := Pk 0 _ rfl; rw [Nat.add_zero, show ((Kd.slice 5 (Kd.int .u8))).sz = 1 from rfl, Nat.mul_one] at xe; replace xe := Option.some.inj (xe.symm.trans TI); rw [xe] at Eh; have JV := aa.mk (show Kd.R (Kd.int .u8) 5 _ _ _ _ (vo qF nJ) from Eh); clear xe Eh Pk Xl; have Su := aa.mk J3; have ac1 := aa.mk JJ; clear J3 JJ; replace QL := eq_true QL; replace Sy := eq_true Sy; have hcv15 := Kd.OO (P := Try.prog) (A := A254_0) (c := c254_0) Try.underlying88 Try.underlying5 Try.underlying9 (by exact Su.out); (go_wp2_with (((with_reducible refine nT (b := .append) (xs := #[.tmp 25, .tmp 28]) rfl ?_); at_builtin; refine Kd.FZ Kd.string (w0 := w) w.heap.size rfl (.tmp 25) (.tmp 28) 48 9 (.string ⟨#[]⟩) 16 rfl Try.underlying48 Zp rfl (by decide) (by omega) u6 fe (strOfNums (vo qF nJ)) [.string (strOfNums (vo qF nJ))] (fun _ => True) (fun _ => False) rfl rfl ?aP (fun _ hk => hk.elim) ?aF ?aO ?aB ?aS ?aL ?_; (case aP => exact rfl); (case aB => exact (by exact HB.out)); (case aF => exact (fun _ _ => trivial)); (case aO => exact (rU KW.out)); (case aS => exact (az (by exact HB.out))); (case aL => have := ZI.out; omega); intro ais w16 ho hb hg hat; rw [← Z5.out] at ho; replace EK := aa.mk (Kd.Em (by (with_reducible skip); exact EK.out) (Kd.gF (rU KW.out)) (by decide) hg); replace pW := aa.mk (dn (bU pW.out) hg (Kd.mP KW.out pW.out (by decide))); replace JV := aa.mk (Kd.mW (rU JV.out) (Kd.gF (rU KW.out)) (by decide) hg); replace HB := aa.mk (hb); have Zb := aa.mk (ho); clear KW ho hb hg hat))); go_roundg k1; (case measure => have := HK1.out; omega); case rel => exact ⟨(aa8), (wrap64 (nJ + 1)), (by rfl), H', ⟨by have := HK1.out; omega⟩, ⟨by (with_reducible skip); exact Zb.out⟩, ⟨by (with_reducible skip); exact EK.out⟩, ⟨by (with_reducible skip); exact pW.out⟩, ⟨by exact HB.out⟩⟩
       ·rw [if_neg c14] at H; exact absurd H (by simp)
      ·rw [if_neg c13] at H; exact absurd H (by simp)
     ·rw [if_neg c12] at H; exact absurd H (by simp)
    ·rw [if_neg c11] at H; have IQ : decide (nJ < (qF.length : Int)) = false := decide_eq_false c11; clear c11; simp only [Option.some.injEq, Prod.mk.injEq] at H; obtain ⟨rfl, rfl⟩ := H; go_wp2
     go_ret2
     exact ⟨_, by rfl, by (with_reducible skip); exact KW.out, by exact HB.out⟩
 ·rw [if_neg c3] at H; have rX : (Ht == 0) = false := beq_eq_false_iff_ne.mpr c3; have Cj : (Ht != 0) = true := bne_iff_ne.mpr c3; simp only [Option.some.injEq, Prod.mk.injEq] at H; obtain ⟨rfl, rfl⟩ := H; go_enter Try.func24, Try.ntmps24; go_wp2_with (first | ((with_reducible refine dh (N := 1) rfl ?_); refine dA ?hg (N := 1) ?hd (cs := #[.slice eX aZ.length dZ, .int .i64 bz, .int .i64 bS, .int .i64 bW, .slice eB bB.length dW]) (t := 25) ?hr ?_; (case hd => rfl); (case hg => rfl); (case hr => (go_simp; done)); intro CB hg w17 hbox hb; have pW := aa.mk (hbox); have YE := aa.mk ((by rw [hg]; exact (az (by exact HB.out)) : w.heap.size ≤ CB)); have aaa := aa.mk ((by rw [hg]; exact (az (by exact HB.out)) : w.heap.size ≤ CB)); replace HB := aa.mk (aW (by exact HB.out) hb); clear hb hbox hg; obtain ⟨RB, Rs, Tk, TB, Qm, Tw, PT, Sa, QJ, SQ⟩ := cells5 pW.out) | ((with_reducible refine bT (f := 58) rfl ?_); refine fC (some 11) rfl rfl Try.func58 (by kernel_rfl) rfl #[.agg #[.slice eX aZ.length dZ, .int .i64 bz, .int .i64 bS, .int .i64 bW, .slice eB bB.length dW]] rfl (by (simp only [List.map_toArray, List.map_cons, List.map_nil]); rfl) ?_; (with_reducible refine (fA.calls _ _ aZ bz bS bW _ _ bB Y1 Ht _ ?side1 ?side2 ?side3 ?side4 A2.out).mono ?_); (case side1 => repeat (exact (Kd.eT pU.out HB.out))); (case side2 => exact uW.out); (case side3 => repeat (exact (Kd.eT ry.out HB.out))); (case side4 => exact uT.out); rintro e w19 ⟨agn, rfl, ho0, hb⟩; refine ⟨_, rfl, ?_⟩; have OH := aa.mk (Kd.fI ho0 (az (by exact HB.out))); replace pW := aa.mk (aG (bU pW.out) hb); replace HB := aa.mk (aW (by exact HB.out) hb); clear hb; (clear ho0)))
  go_ret2
  exact ⟨_, by rfl, by exact Kd.wC _ _ _ _ _, by exact HB.out⟩
end Go.Proofs.Ytihedeofkhapiaa.Pr
end
section
namespace Go.Proofs.Ytihedeofkhapiaa.Pr
open Go.RowKit Go.Proofs.YtihedeofkhapiaaW.PrintWords Go.Proofs.YtihedeofkhapiaaW.PrintLast Go.Proofs.YtihedeofkhapiaaW.PrintMore
theorem Ev.call {α β : Type} {o : Option α} {f : Nat → α → Option β} {a : α} {r : β} (h : o = some a) (k : Ev (fun n => f n a) r) : Ev (fun n => o.bind (f n)) r := by
 subst h; exact k
theorem Ev.pos {α : Type} {c : Prop} [Decidable c] {g f : Nat → Option α} {r : α} (h : c) (k : Ev f r) : Ev (fun n => if c then f n else g n) r :=
 Ev.congr (fun n => if_pos h) k
theorem Ev.neg {α : Type} {c : Prop} [Decidable c] {g f : Nat → Option α} {r : α} (h : ¬ c) (k : Ev g r) : Ev (fun n => if c then f n else g n) r :=
 Ev.congr (fun n => if_neg h) k
theorem rdO (T : List ByteArray) (i : Nat) (h : i < T.length) : gT ByteArray.empty T (i : Int) = T[i] := by
 simp [gT, List.getD_eq_getElem?_getD, h]
theorem IM (L : List (List Int)) (hL : L.length ≤ 100) : ∀ (d i : Nat) (o : List ByteArray), i + d = L.length → o.length = i →
 Ev (fun k => bM.l0 k o L (L.length : Int) (i : Int)) (o ++ (L.drop i).map strOfNums, 0) := by
 intro d
 induction d with
 | zero =>
  intro i o hi ho; refine Ev.step (f := fun _ => some (o, 0)) (fun k => by rw [bM.l0, if_neg (by omega)]) ?_; rw [List.drop_eq_nil_of_le (by omega), List.map_nil, List.append_nil]; exact Ev.now _
 | succ d ih =>
  intro i o hi ho; (have e : vo L (i : Int) = L[i] := by simp [vo, List.getD_eq_getElem?_getD, show i < L.length by omega]); (have hw : wrap64 ((i : Int) + 1) = ((i + 1 : Nat) : Int) := by rw [dY (by omega) (by omega)]; omega); have q := ih (i + 1) (o ++ [strOfNums L[i]]) (by omega) (by simp; omega); rw [List.append_assoc] at q; rw [List.drop_eq_getElem_cons (show i < L.length by omega), List.map_cons]; refine Ev.step (fun k => ?_) q; rw [bM.l0, if_pos (by omega), if_pos (by omega), if_pos (by omega), if_pos (by omega), e, hw]
theorem ahh (l : List Int) (n : Int) (hl : l.length ≤ 1000) (h : n ∈ l) : Ev (fun k => dK.f k l n) true := by
 have key : ∀ (d i : Nat), i + d = l.length → n ∈ l.drop i → Ev (fun k => dK.l0 k l n (i : Int)) true := by
  intro d
  induction d with
  | zero =>
   intro i hi hm; rw [List.drop_eq_nil_of_le (by omega)] at hm; exact absurd hm List.not_mem_nil
  | succ d ih =>
   intro i hi hm; (have hil : i < l.length := by omega); (have e : rd l (i : Int) = l[i] := by simp [rd, List.getD_eq_getElem?_getD, hil]); (have hw : wrap64 ((i : Int) + 1) = ((i + 1 : Nat) : Int) := by rw [dY (by omega) (by omega)]; omega); by_cases he : l[i] = n
   ·refine Ev.step (f := fun _ => some true) (fun k => ?_) (Ev.now _); rw [dK.l0, if_pos (by omega), if_pos (by omega), e, if_pos he]
   ·rw [List.drop_eq_getElem_cons hil] at hm; have hm' := (List.mem_cons.1 hm).resolve_left (fun q => he q.symm); refine Ev.step (fun k => ?_) (ih (i + 1) (by omega) hm'); rw [dK.l0, if_pos (by omega), if_pos (by omega), e, if_neg he, hw]
 exact Ev.congr (fun k => by rw [dK.f]; rfl) (key l.length 0 (by omega) (by simpa using h))
theorem vg (l : List Int) : (strOfNums l).size = l.length := by simp [strOfNums, ByteArray.size]
theorem JW {a1 a2 a3 : Int} {r : uu} (hg : kX a1 a2 a3 r) (ht : yZ r) (h2 : a2 ≤ 8) (h3 : a3 ≤ 8) : (∀ h ∈ r.1, kH h.f1) ∧ oV r.2.2.2.2.1 := by
 refine ⟨fun h hm => ?_, ?_, fun q hq => ?_⟩
 ·have := hg.1.2.2 h hm; exact ⟨this.2.2.2.1, by have := this.2.2.2.2.2; omega⟩
 ·have := hg.2.2.2.2.2.1; omega
 ·obtain ⟨_, _, ms, cs, ⟨_, _, hA⟩, _⟩ := ht; obtain ⟨i, hi, rfl⟩ := List.getElem_of_mem hq; obtain ⟨k, v, _, _, hx, _⟩ := hA i hi; exact uC.sm hx
theorem Na {a1 a2 a3 : Int} {r : uu} (hg : kX a1 a2 a3 r) (ht : yZ r) (h2 : a2 ≤ 8) (h3 : a3 ≤ 8) : ∃ x : Nat, ∃ hx : x < r.1.length, (x : Int) = r.2.2.2.2.2.1 ∧ ww r.2.1 r.2.2.1 r.2.2.2.2.1 (r.1[x]).f1 ≤ r.2.2.2.1 := by
 obtain ⟨x, hxc, hx, htot, _⟩ := CJ hg ht h2 h3; obtain ⟨f1, f2⟩ := JW hg ht h2 h3; have e := oz r.1 x hx; have hf := f1 _ (List.getElem_mem hx); rw [← e] at hf; rw [ui _ _ _ f2 x hf, e] at htot; exact ⟨x, hx, hxc, htot⟩
theorem AC {hs : List S66} {w c t : Int} {sq : List (List S27)} (hck : kG hs w c t sq = 0) (hl : sq.length ≤ 100) {F : List Int} (hfit : fA.f hs w c t sq = some (F, 0)) :
 Ev (fun k => bM.f k hs w c t sq) ((gX (-1) 0 w c t hs sq).map strOfNums, 0) := by
 (have hLl : (gX (-1) 0 w c t hs sq).length = sq.length := by simp [gX]); refine Ev.congr (f := fun k => bM.l0 k [] (gX (-1) 0 w c t hs sq) ((gX (-1) 0 w c t hs sq).length : Int) ((0 : Nat) : Int)) (fun k => ?_) (by simpa using IM (gX (-1) 0 w c t hs sq) (by omega) (gX (-1) 0 w c t hs sq).length 0 [] (by omega) rfl); rw [bM.f, hfit, Option.bind_some, if_pos rfl, gZ.f, if_pos hck, Option.bind_some]; rfl
theorem BI {hs : List S66} {w c t : Int} {sq : List (List S27)} (hck : kG hs w c t sq = 0) (hne : kF hs w c t sq (List.finRange hs.length) ≠ []) :
 fA.f hs w c t sq = some (kF hs w c t sq (List.finRange hs.length), 0) := by
 rw [fA.f, xz, if_pos hck, if_neg hne]
set_option maxRecDepth 100000
theorem Ii : ∀ s v h : Fin 32, (s.1 &&& h.1) &&& (31 ^^^ (v.1 &&& h.1)) = (s.1 &&& (31 ^^^ v.1)) &&& h.1 ∧ (v.1 &&& h.1) &&& (31 ^^^ s.1) = (v.1 &&& (31 ^^^ s.1)) &&& h.1 := by decide +kernel
theorem Ns : ∀ m g a : Fin 32, pop (m.1 &&& g.1) ≤ pop (m.1 &&& (g.1 ||| a.1)) := by decide +kernel
def qB (W S : Int) (q : List S27) (W' S' : Int) (q' : List S27) : Prop := ∀ s : S86, 0 ≤ s.f1 → s.f1 ≤ 31 → cellP W S (gP q) s ≤ cellP W' S' (gP q') s
theorem qB.refl (W S : Int) (q : List S27) : qB W S q W S q := fun s _ _ => Int.le_refl _
theorem DL {W S W' S' : Int} (hW : W' ≤ W) (hS : S' ≤ S) {q : List S27} (hq : Sm5 q) : qB W S q W' S' q := fun s h0 h1 => by
 have hb := (Bb W S hq h0 h1).2; by_cases hc : (gP q).2.2 = true ∧ lv (fG (Go.bits .and .i64 s.f1 (gP q).1) (gP q).2.1) ≤ W' ∧ lv (fG (gP q).2.1 s.f1) ≤ S'
 ·have hc' : (gP q).2.2 = true ∧ lv (fG (Go.bits .and .i64 s.f1 (gP q).1) (gP q).2.1) ≤ W ∧ lv (fG (gP q).2.1 s.f1) ≤ S := ⟨hc.1, by have := hc.2.1; omega, by have := hc.2.2; omega⟩; rw [cellP, cellP, if_pos hc, if_pos hc']; exact Int.le_refl _
 ·(have e : cellP W' S' (gP q) s = jK := by rw [cellP, if_neg hc]); rw [e]; exact hb
theorem EG (W S : Int) (g v z : Nat) (hg : g < 32) (hv : v < 32) (hz : z < 32) (s : S86) (hs : s.f1 = (z : Int)) :
 cellP W S ((g : Int), ((v &&& g : Nat) : Int), true) s = if (pop ((z &&& (31 ^^^ v)) &&& g) : Int) ≤ W ∧ (pop ((v &&& (31 ^^^ z)) &&& g) : Int) ≤ S then (pop ((z &&& (31 ^^^ v)) &&& g) : Int) + (pop ((v &&& (31 ^^^ z)) &&& g) : Int) else jK := by
 have b1 : z &&& g < 32 := Nat.lt_of_le_of_lt Nat.and_le_left hz; have b2 : v &&& g < 32 := Nat.lt_of_le_of_lt Nat.and_le_left hv; have b3 : (z &&& g) &&& (31 ^^^ (v &&& g)) < 32 := Nat.lt_of_le_of_lt Nat.and_le_left b1; have b4 : (v &&& g) &&& (31 ^^^ z) < 32 := Nat.lt_of_le_of_lt Nat.and_le_left b2
 have e1 : lv (fG (Go.bits .and .i64 s.f1 (g : Int)) ((v &&& g : Nat) : Int)) = (pop ((z &&& g) &&& (31 ^^^ (v &&& g))) : Int) := by
  rw [hs, zo ⟨z, hz⟩ ⟨g, hg⟩, zw ⟨z &&& g, b1⟩ ⟨v &&& g, b2⟩, uU ⟨_, b3⟩]
 have e2 : lv (fG ((v &&& g : Nat) : Int) s.f1) = (pop ((v &&& g) &&& (31 ^^^ z)) : Int) := by
  rw [hs, zw ⟨v &&& g, b2⟩ ⟨z, hz⟩, uU ⟨_, b4⟩]
 have hl := Ii ⟨z, hz⟩ ⟨v, hv⟩ ⟨g, hg⟩; simp only [] at hl; have p1 := sj ⟨_, b3⟩; have p2 := sj ⟨_, b4⟩; simp only [] at p1 p2; rw [cellP]; simp only []; rw [e1, e2, hl.1, hl.2]; rw [hl.1] at p1; rw [hl.2] at p2; simp only [true_and]; rw [dY (by omega) (by omega)]
theorem Eo (W S : Int) {q : List S27} {v a : Nat} (hv : v < 32) (ha : a < 32) (hq : ∀ x ∈ q, uC v x) : qB W S q W S (q ++ [⟨(a : Int), ((v &&& a : Nat) : Int)⟩]) := fun s h0 h1 => by
 have hq' : ∀ x ∈ q ++ [⟨(a : Int), ((v &&& a : Nat) : Int)⟩], uC v x := fun x hx => by
  rcases List.mem_append.1 hx with hx | hx
  ·exact hq x hx
  ·rw [List.mem_singleton] at hx; subst hx; exact ⟨a, ha, rfl⟩
 obtain ⟨g, hg, hs⟩ := xN v hv q hq; obtain ⟨g', hg', hs'⟩ := xN v hv _ hq'; (have eg : (g : Int) = (sW q).1 := by rw [show (sW q).1 = (gP q).1 from rfl, hs]); have eg' : (g' : Int) = (sW (q ++ [⟨(a : Int), ((v &&& a : Nat) : Int)⟩])).1 := by rw [show ∀ l, (sW l).1 = (gP l).1 from fun _ => rfl, hs']
 have e : g' = g ||| a := by
  have : (g' : Int) = ((g ||| a : Nat) : Int) := by
   rw [eg', sW, List.foldl_append, List.foldl_cons, List.foldl_nil]; simp only [seenStep]; rw [show List.foldl seenStep (0, 0) q = sW q from rfl, ← eg, NV ⟨g, hg⟩ ⟨a, ha⟩]
  exact_mod_cast this
 subst e; obtain ⟨z, hz⟩ := Int.eq_ofNat_of_zero_le h0; (have hz32 : z < 32 := by omega); have m1 : z &&& (31 ^^^ v) < 32 := Nat.lt_of_le_of_lt Nat.and_le_left hz32; have m2 : v &&& (31 ^^^ z) < 32 := Nat.lt_of_le_of_lt Nat.and_le_left hv; have k1 := Ns ⟨_, m1⟩ ⟨g, hg⟩ ⟨a, ha⟩; have k2 := Ns ⟨_, m2⟩ ⟨g, hg⟩ ⟨a, ha⟩; have b1 := sj ⟨(z &&& (31 ^^^ v)) &&& g, Nat.lt_of_le_of_lt Nat.and_le_left m1⟩; have b2 := sj ⟨(v &&& (31 ^^^ z)) &&& g, Nat.lt_of_le_of_lt Nat.and_le_left m2⟩; simp only [] at k1 k2 b1 b2; rw [hs, hs', EG W S g v z hg hv hz32 s hz, EG W S (g ||| a) v z hg' hv hz32 s hz]; unfold jK; split <;> split <;> omega
theorem CZ {W S W' S' : Int} {q q' : List S27} (hh : qB W S q W' S' q') {sh : List S86} (hsh : kH sh) : ∀ K, K ≤ sh.length → oH W S (gP q) sh K ≤ oH W' S' (gP q') sh K
 | 0, _ => Int.le_refl _
 | K + 1, hK => by
  have h1 := CZ hh hsh K (by omega); (have hm : aj sh (K : Int) ∈ sh := by rw [Aw sh K hK]; exact List.getElem_mem _); have hr := hsh.1.1 _ hm; have h2 := hh (aj sh (K : Int)) (by omega) (by omega); rw [oH, oH]; unfold mn; split <;> split <;> omega
theorem Cz {W S W' S' : Int} {q q' : List S27} (hh : qB W S q W' S' q') {sh : List S86} (hsh : kH sh) : oG W S sh q ≤ oG W' S' sh q' := CZ hh hsh _ (Nat.le_refl _)
def vP (W S : Int) (sq : List (List S27)) (W' S' : Int) (sq' : List (List S27)) : Prop := sq'.length = sq.length ∧ ∀ i (h : i < sq.length) (h' : i < sq'.length), qB W S sq[i] W' S' sq'[i]
theorem xL (W S : Int) (sq : List (List S27)) (sh : List S86) : ww W S sq sh = qV (fun j => (sq.map (oG W S sh)).getD j 0) sq.length := by
 have := Br (sq.map (oG W S sh)); rw [List.length_map] at this; exact this.symm
theorem qm (W S : Int) (sq : List (List S27)) (sh : List S86) (i : Nat) (h : i < sq.length) : (sq.map (oG W S sh)).getD i 0 = oG W S sh sq[i] := by
 rw [List.getD_eq_getElem?_getD, List.getElem?_map, List.getElem?_eq_getElem h]; rfl
theorem Ng {W S W' S' : Int} {sq sq' : List (List S27)} (h : vP W S sq W' S' sq') {sh : List S86} (hsh : kH sh) (i : Nat) (hi : i < sq.length) (hi' : i < sq'.length) : ww W S sq sh - oG W S sh sq[i] ≤ ww W' S' sq' sh - oG W' S' sh sq'[i] := by
 have := yw (f := fun j => (sq.map (oG W S sh)).getD j 0) (g := fun j => (sq'.map (oG W' S' sh)).getD j 0) sq.length (fun j hj => by
  (have hj' : j < sq'.length := by rw [h.1]; exact hj); rw [qm W S sq sh j hj, qm W' S' sq' sh j hj']
  exact Cz (h.2 j hj hj') hsh) i hi
 rw [qm W S sq sh i hi, qm W' S' sq' sh i hi'] at this; rw [xL, xL, h.1]; exact this
theorem MJ {W S W' S' : Int} {sq sq' : List (List S27)} (h : vP W S sq W' S' sq') {sh : List S86} (hsh : kH sh) : ww W S sq sh ≤ ww W' S' sq' sh := by
 rw [xL, xL, h.1]; refine Ac _ (fun j hj => ?_); (have hj' : j < sq'.length := by rw [h.1]; exact hj); rw [qm W S sq sh j hj, qm W' S' sq' sh j hj']; exact Cz (h.2 j hj hj') hsh
theorem Lx {W S t W' S' t' : Int} {hs hs' : List S66} {sq sq' : List (List S27)} (h : vP W S sq W' S' sq') (ht : t' ≤ t) (hsub : ∀ x ∈ hs', x ∈ hs) (hh : ∀ x ∈ hs, kH x.f1) (i : Nat) (hi : i < sq.length) (hi' : i < sq'.length) (c : Int)
 (hf : fitsAt W' S' t' hs' sq' sq'[i] c) : fitsAt W S t hs sq sq[i] c := by
 obtain ⟨x, hx, s, hs, hc, h1, h2⟩ := hf; have hsh := hh x (hsub x hx); have hr := hsh.1.1 s hs; have h3 := h.2 i hi hi' s (by omega) (by omega); have h4 := Ng h hsh i hi hi'; exact ⟨x, hsub x hx, s, hs, hc, by omega, by omega⟩
theorem OU (a b : Int) : Ev (fun k => bG.f k a [b]) (mn a b) := by
 refine Ev.congr (f := fun k => bG.l0 k a [b] 1 0) (fun k => by rw [bG.f]; rfl) ?_; refine Ev.step (f := fun k => bG.l0 k (mn a b) [b] 1 1) (fun k => ?_) (Ev.step (f := fun _ => some (mn a b)) (fun k => ?_) (Ev.now _))
 ·rw [bG.l0, if_pos (by omega), if_pos (by omega), if_pos (by simp), dY (x := 0 + 1) (by omega) (by omega)]; rfl
 ·rw [bG.l0, if_neg (by omega)]
theorem LW (a b : Int) : (mn a b = a ∨ mn a b = b) ∧ mn a b ≤ a ∧ mn a b ≤ b := by unfold mn; split <;> omega
theorem NS (a b : Int) : (mx a b = a ∨ mx a b = b) ∧ a ≤ mx a b ∧ b ≤ mx a b := by unfold mx; split <;> omega
theorem G7 (l : List Int) (hs : List S66) (w c t : Int) (sq : List (List S27)) (lo hi : Int) (i k : Nat) (y : Int) (h1 : i < l.length) (h2 : l.length ≤ 1000) (e : rd l (i : Int) = y) (h3 : 0 ≤ y) (h4 : y < (hs.length : Int)) :
 bH.l0 (k + 1) l (l.length : Int) (i : Int) hs w c t sq lo hi = (bG.f k lo [(ah hs y).f0.f0]).bind fun Au => bH.l0 k l (l.length : Int) ((i + 1 : Nat) : Int) hs w c t sq Au (mx hi ((ah hs y).f0.f1)) := by
 (have hw : wrap64 ((i : Int) + 1) = ((i + 1 : Nat) : Int) := by rw [dY (by omega) (by omega)]; omega); (have g1 : (i : Int) < (l.length : Int) := by omega); (have g2 : 0 ≤ (i : Int) := by omega); rw [bH.l0, if_pos g1, if_pos g2, if_pos g1, e, if_pos h3, if_pos h4, hw]
theorem M6 (l : List Int) (hs : List S66) (w c t : Int) (sq : List (List S27)) (hl : l.length ≤ 1000) (hin : ∀ x ∈ l, 0 ≤ x ∧ x < (hs.length : Int)) :
 ∀ (d i : Nat) (lo hi : Int), i + d = l.length → (∃ n ∈ l, lo = (ah hs n).f0.f0) → (∃ n ∈ l, hi = (ah hs n).f0.f1) →
  EvI (fun k => bH.l0 k l (l.length : Int) (i : Int) hs w c t sq lo hi) (fun r => (∀ n ∈ l.drop i, r.1 ≤ (ah hs n).f0.f0 ∧ (ah hs n).f0.f1 ≤ r.2.1) ∧ r.1 ≤ lo ∧ hi ≤ r.2.1 ∧ (∃ n ∈ l, r.1 = (ah hs n).f0.f0) ∧ (∃ n ∈ l, r.2.1 = (ah hs n).f0.f1) ∧ r.2.2 = 0) := by
 intro d
 induction d with
 | zero =>
  intro i lo hi hid h1 h2; rw [List.drop_eq_nil_of_le (by omega)]; exact EvI.step (f := fun _ => some (lo, hi, 0)) (fun k => by rw [bH.l0, if_neg (by omega)]) (EvI.now ⟨fun n hn => absurd hn List.not_mem_nil, Int.le_refl _, Int.le_refl _, h1, h2, rfl⟩)
 | succ d ih =>
  intro i lo hi hid h1 h2; (have hil : i < l.length := by omega); (have e : rd l (i : Int) = l[i] := by simp [rd, List.getD_eq_getElem?_getD, hil]); have hx := hin l[i] (List.getElem_mem _); (have hst := fun k => G7 l hs w c t sq lo hi i k l[i] hil hl e hx.1 hx.2); have hm := LW lo (ah hs l[i]).f0.f0; have hM := NS hi (ah hs l[i]).f0.f1
  have q := ih (i + 1) (mn lo (ah hs l[i]).f0.f0) (mx hi (ah hs l[i]).f0.f1) (by omega)
   (hm.1.elim (fun h => by rw [h]; exact h1) (fun h => by rw [h]; exact ⟨_, List.getElem_mem hil, rfl⟩))
   (hM.1.elim (fun h => by rw [h]; exact h2) (fun h => by rw [h]; exact ⟨_, List.getElem_mem hil, rfl⟩))
  obtain ⟨r, hr, r1, r2, r3, r4⟩ := q; refine ⟨r, ?_, fun n hn => ?_, Int.le_trans r2 hm.2.1, Int.le_trans hM.2.1 r3, r4⟩
  ·exact Ev.step hst (Ev.bind (OU _ _) hr)
  ·rw [List.drop_eq_getElem_cons hil, List.mem_cons] at hn; rcases hn with rfl | hn
   ·exact ⟨Int.le_trans r2 hm.2.2, Int.le_trans hM.2.2 r3⟩
   ·exact r1 n hn
end Go.Proofs.Ytihedeofkhapiaa.Pr
end
section
namespace Go.Proofs.Ytihedeofkhapiaa.Pr
open Go.RowKit Go.Proofs.YtihedeofkhapiaaW.PrintWords Go.Proofs.YtihedeofkhapiaaW.PrintLast Go.Proofs.YtihedeofkhapiaaW.PrintMore
attribute [local go_sem] ol nV qa qb mK mF oq om
mutual
def dw.l0 : Nat → ByteArray → List ByteArray → Int → Int → Option (ByteArray × Int)
 | 0, _, _, _, _ => none
 | k + 1, x6, x17, x18, x19 => if x19 < x18 then (if 0 ≤ x19 then (if x19 < (x17.length : Int) then (if ((gT ByteArray.empty x17 x19).size : Int) = 2 then (dw.j1 k x6 (gT ByteArray.empty x17 x19) x17 x18 x19 ((gT ByteArray.empty x17 x19).size : Int) (((gT ByteArray.empty x17 x19).size : Int) == 2)) else (dw.j1 k x6 (gT ByteArray.empty x17 x19) x17 x18 x19 ((gT ByteArray.empty x17 x19).size : Int) (((gT ByteArray.empty x17 x19).size : Int) == 3))) else (none)) else (none)) else (some (x6, 0))
def dw.j1 : Nat → ByteArray → ByteArray → List ByteArray → Int → Int → Int → Bool → Option (ByteArray × Int)
 | 0, _, _, _, _, _, _, _ => none
 | k + 1, x6, x8, x17, x18, x19, x24, x25 => if x25 = true then (if 1 + x8.size ≤ 9223372036854775807 then (if ((⟨#[123]⟩ : ByteArray) ++ x8).size + 1 ≤ 9223372036854775807 then (if x6.size + (((⟨#[123]⟩ : ByteArray) ++ x8) ++ (⟨#[125]⟩ : ByteArray)).size ≤ 9223372036854775807 then (dw.l0 k (x6 ++ (((⟨#[123]⟩ : ByteArray) ++ x8) ++ (⟨#[125]⟩ : ByteArray))) x17 x18 (wrap64 (x19 + 1))) else (none)) else (none)) else (none)) else (if x24 = 1 then (if x6.size + x8.size ≤ 9223372036854775807 then (dw.l0 k (x6 ++ x8) x17 x18 (wrap64 (x19 + 1))) else (none)) else (if x6.size + 1 ≤ 9223372036854775807 then (dw.l0 k (x6 ++ (⟨#[45]⟩ : ByteArray)) x17 x18 (wrap64 (x19 + 1))) else (none)))
end
def dw.f (k : Nat) (aZ : List (S66)) (bz : Int) (bS : Int) (bW : Int) (bB : List (List (S27))) : Option (ByteArray × Int) := (bM.f k aZ bz bS bW bB).bind fun yc => (if yc.2 = 0 then (dw.l0 k (⟨#[]⟩ : ByteArray) yc.1 (yc.1.length : Int) 0) else (some ((⟨#[]⟩ : ByteArray), yc.2)))
theorem dw.fO : ∀ k, (∀ y0 y1 y2 y3, LeO (dw.l0 k y0 y1 y2 y3) (dw.l0 (k + 1) y0 y1 y2 y3)) ∧ (∀ y0 y1 y2 y3 y4 y5 y6, LeO (dw.j1 k y0 y1 y2 y3 y4 y5 y6) (dw.j1 (k + 1) y0 y1 y2 y3 y4 y5 y6))
 | 0 => ⟨fun _ _ _ _ r h => by simp [dw.l0] at h, fun _ _ _ _ _ _ _ r h => by simp [dw.j1] at h⟩
 | k + 1 => by
  obtain ⟨ih0, ih1⟩ := dw.fO k; refine ⟨?_, ?_⟩
  ·intro y0 y1 y2 y3; unfold dw.l0
   repeat' first | (with_reducible exact ih1 _ _ _ _ _ _ _) | (with_reducible exact LeO.refl _) | (with_reducible refine LeO.ite ?_ ?_)
  ·intro y0 y1 y2 y3 y4 y5 y6; unfold dw.j1
   repeat' first | (with_reducible exact ih0 _ _ _ _) | (with_reducible exact LeO.refl _) | (with_reducible refine LeO.ite ?_ ?_)
theorem dw.mono : ∀ a0 a1 a2 a3 a4 k, LeO (dw.f k a0 a1 a2 a3 a4) (dw.f (k + 1) a0 a1 a2 a3 a4) := by
 intro a0 a1 a2 a3 a4 k; obtain ⟨ih0, ih1⟩ := dw.fO k; unfold dw.f
 repeat' first | (with_reducible exact ih0 _ _ _ _) | (with_reducible exact bM.mono _ _ _ _ _ _) | (with_reducible exact LeO.refl _) | (with_reducible refine LeO.ite ?_ ?_) | (with_reducible refine LeO.bind ?_ (fun _ => ?_))
set_option maxHeartbeats 8000000 in
set_option maxRecDepth 100000 in
theorem dw.calls (k : Nat) (eX : Option Addr) (dZ : Nat) (aZ : List (S66)) (bz : Int) (bS : Int) (bW : Int) (eB : Option Addr) (dW : Nat) (bB : List (List (S27))) (r1 : ByteArray) (r2 : Int) (w : World) (lZ : Kd.C k66 w eX aZ.length aZ) (nz : aZ.length ≤ dZ) (mf : Kd.C (Kd.slice 27 k27) w eB bB.length bB) (nD : bB.length ≤ dW) (h : dw.f k aZ bz bS bW bB = some (r1, r2)) :
 Calls Try.prog 19 #[.agg #[.slice eX aZ.length dZ, .int .i64 bz, .int .i64 bS, .int .i64 bW, .slice eB bB.length dW]] w fun e w' => e = .returned (.tuple #[.string r1, .int .i64 r2]) ∧ Below w.heap.size w w' := by
 have hu25 := Try.underlying25; have pU := aa.mk lZ; have uW := aa.mk nz; clear lZ nz; have ry := aa.mk mf; have uT := aa.mk nD; clear mf nD; have HB := aa.mk (Below.refl w.heap.size w); have H : ((bM.f k aZ bz bS bW bB).bind fun yc => (if yc.2 = 0 then (dw.l0 k (⟨#[]⟩ : ByteArray) yc.1 (yc.1.length : Int) 0) else (some ((⟨#[]⟩ : ByteArray), yc.2)))) = some (r1, r2) := h; clear h; replace H := Option.bind_eq_some_iff.mp H; obtain ⟨⟨jH, IB⟩, A20, H⟩ := H; dsimp only at H; have A2 := aa.mk A20; clear A20; by_cases c3 : IB = 0
 ·rw [if_pos c3] at H; have rX : (IB == 0) = true := beq_iff_eq.mpr c3; have Cj : (IB != 0) = false := bne_eq_false_iff_eq.mpr c3; clear c3; have H' := aa.mk H; clear H; go_enter Try.func19, Try.ntmps19; (go_wp2_with (first | ((with_reducible refine dh (N := 1) rfl ?_); refine dA ?hg (N := 1) ?hd (cs := #[.slice eX aZ.length dZ, .int .i64 bz, .int .i64 bS, .int .i64 bW, .slice eB bB.length dW]) (t := 25) ?hr ?_; (case hd => rfl); (case hg => rfl); (case hr => (go_simp; done)); intro Bp hg w4 hbox hb; have qG := aa.mk (hbox); have aac := aa.mk ((by rw [hg]; exact (az (by exact HB.out)) : w.heap.size ≤ Bp)); have abe := aa.mk ((by rw [hg]; exact (az (by exact HB.out)) : w.heap.size ≤ Bp)); replace HB := aa.mk (aW (by exact HB.out) hb); clear hb hbox hg; obtain ⟨Ib, Hr, GY, VP, Wd, Iz, IJ, Ip, Xt, VA⟩ := cells5 qG.out) | ((with_reducible refine bT (f := 24) rfl ?_); refine fC (some 11) rfl rfl Try.func24 (by kernel_rfl) rfl #[.agg #[.slice eX aZ.length dZ, .int .i64 bz, .int .i64 bS, .int .i64 bW, .slice eB bB.length dW]] rfl (by (simp only [List.map_toArray, List.map_cons, List.map_nil]); rfl) ?_; (with_reducible refine (bM.calls k _ _ aZ bz bS bW _ _ bB jH IB _ ?side1 ?side2 ?side3 ?side4 A2.out).mono ?_); (case side1 => repeat (exact (Kd.eT pU.out HB.out))); (case side2 => exact uW.out); (case side3 => repeat (exact (Kd.eT ry.out HB.out))); (case side4 => exact uT.out); rintro e w6 ⟨af6, rfl, ho0, hb⟩; refine ⟨_, rfl, ?_⟩; have Mh := aa.mk (Kd.fI ho0 (az (by exact HB.out))); replace qG := aa.mk (aG (bU qG.out) hb); replace HB := aa.mk (aW (by exact HB.out) hb); clear hb; clear ho0; obtain ⟨Ao7, co7, eo7⟩ := Kd.fu Mh.out; subst eo7))); (go_loopg [6, 19] k (fun kq v6 v19 w' => ∃ (fe : ByteArray) (gz : Int), v6 = .string fe ∧ v19 = .int .i64 gz ∧ aa (dw.l0 kq fe jH (jH.length : Int) gz = some (r1, r2)) ∧ aa (kq ≤ k) ∧ aa (Kd.R Kd.string 9 w' w.heap.size (fun _ => True) (.slice Ao7 jH.length co7) jH) ∧ aa (w'.heap[Bp]? = some (.cells #[(.slice eX aZ.length dZ), .int .i64 bz, .int .i64 bS, .int .i64 bW, (.slice eB bB.length dW)] 25 (0, 0))) ∧ aa (Below w.heap.size w w'))); case atStart => exact ⟨((⟨#[]⟩ : ByteArray)), (0), (by rfl), (by rfl), H', ⟨Nat.le_refl _⟩, ⟨by (with_reducible skip); exact Mh.out⟩, ⟨by (with_reducible skip); exact qG.out⟩, ⟨by exact HB.out⟩⟩
  case round =>
   clear H' rX Cj Ib Hr GY VP Wd Iz IJ Ip Xt VA; obtain ⟨fe, gz, rfl, rfl, HA, HK1, BM, qG, HB⟩ := hrel
   cases gk with
   | zero => exact absurd HA.out (by simp [dw.l0])
   | succ k1 =>
    have H := HA.out; clear HA; simp only [dw.l0] at H; by_cases c8 : gz < (jH.length : Int)
    ·rw [if_pos c8] at H; have Iu : decide (gz < (jH.length : Int)) = true := decide_eq_true c8; clear c8; by_cases c9 : 0 ≤ gz
     ·rw [if_pos c9] at H; have WQ : decide (0 ≤ gz) = true := decide_eq_true c9; clear c9; by_cases c10 : gz < (jH.length : Int)
      ·rw [if_pos c10] at H; have xq : decide (gz < (jH.length : Int)) = true := decide_eq_true c10; clear c10; have XG := aa.mk H; clear H; have Rc : 0 ≤ (gz : Int) := of_decide_eq_true (by with_reducible assumption); have Qy : gz < (jH.length : Int) := of_decide_eq_true (by with_reducible assumption); obtain ⟨XY, e263, TY⟩ := Kd.nG (Kd.dM BM.out).2.2 gz Rc Qy; cases e263; replace Rc := eq_true Rc; replace Qy := eq_true Qy; (go_upto_if 25 with (fail)); go_cut [25] (fun v25 wc => ∃ (kq : Nat) (DN : Bool), v25 = .bool DN ∧ aa (dw.j1 kq fe (gT ByteArray.empty jH gz) jH (jH.length : Int) gz ((gT ByteArray.empty jH gz).size : Int) DN = some (r1, r2)) ∧ aa (kq ≤ k1) ∧ aa (Kd.R Kd.string 9 wc w.heap.size (fun _ => True) (.slice (some XY) jH.length co7) jH) ∧ aa (wc.heap[Bp]? = some (.cells #[(.slice eX aZ.length dZ), .int .i64 bz, .int .i64 bS, .int .i64 bW, (.slice eB bB.length dW)] 25 (0, 0))) ∧ aa (Below w.heap.size w wc))
       case first =>
        have H := XG.out; clear XG; by_cases c12 : ((gT ByteArray.empty jH gz).size : Int) = 2
        ·rw [if_pos c12] at H; have zD : (((gT ByteArray.empty jH gz).size : Int) == 2) = true := beq_iff_eq.mpr c12; have Ko : (((gT ByteArray.empty jH gz).size : Int) != 2) = false := bne_eq_false_iff_eq.mpr c12; clear c12; (rw [zD]); have H' := aa.mk H; clear H; go_wp2; go_meet; case rel => exact ⟨_, ((((gT ByteArray.empty jH gz).size : Int) == 2)), (by simp [*]; done), H', ⟨by have := HK1.out; omega⟩, ⟨by (with_reducible skip); exact BM.out⟩, ⟨by (with_reducible skip); exact qG.out⟩, ⟨by exact HB.out⟩⟩
        ·rw [if_neg c12] at H; have zD : (((gT ByteArray.empty jH gz).size : Int) == 2) = false := beq_eq_false_iff_ne.mpr c12; have Ko : (((gT ByteArray.empty jH gz).size : Int) != 2) = true := bne_iff_ne.mpr c12; (rw [zD]); have H' := aa.mk H; clear H; go_wp2; go_meet; case rel => exact ⟨_, ((((gT ByteArray.empty jH gz).size : Int) == 3)), (by rfl), H', ⟨by have := HK1.out; omega⟩, ⟨by (with_reducible skip); exact BM.out⟩, ⟨by (with_reducible skip); exact qG.out⟩, ⟨by exact HB.out⟩⟩
       case rest =>
        clear XG Iu WQ xq TY Rc Qy; obtain ⟨kq, DN, rfl, HA, HJ10, BM, qG, HB⟩ := hcut
        cases kq with
        | zero => exact absurd HA.out (by simp [dw.j1])
        | succ kj10 =>
         have H := HA.out; clear HA; simp only [dw.j1] at H; by_cases c13 : DN = true
         ·subst c13; rw [if_pos rfl] at H; by_cases c14 : 1 + (gT ByteArray.empty jH gz).size ≤ 9223372036854775807
          ·rw [if_pos c14] at H; have EU := eq_true c14; have EM : decide (1 + (gT ByteArray.empty jH gz).size ≤ 9223372036854775807) = true := decide_eq_true c14; have aht : (9223372036854775807 < 1 + (gT ByteArray.empty jH gz).size) = False := eq_false (Nat.not_lt.2 c14); by_cases c15 : ((⟨#[123]⟩ : ByteArray) ++ (gT ByteArray.empty jH gz)).size + 1 ≤ 9223372036854775807
           ·rw [if_pos c15] at H; (have Oq : 1 + (gT ByteArray.empty jH gz).size + 1 ≤ 9223372036854775807 := by have h := c15; rw [ByteArray.size_append] at h; exact h); have ahD := eq_true Oq; have agW : decide (1 + (gT ByteArray.empty jH gz).size + 1 ≤ 9223372036854775807) = true := decide_eq_true Oq; have ag7 : (9223372036854775807 < 1 + (gT ByteArray.empty jH gz).size + 1) = False := eq_false (Nat.not_lt.2 Oq); have UX := eq_true c15; have agD : decide (((⟨#[123]⟩ : ByteArray) ++ (gT ByteArray.empty jH gz)).size + 1 ≤ 9223372036854775807) = true := decide_eq_true c15; have ahf : (9223372036854775807 < ((⟨#[123]⟩ : ByteArray) ++ (gT ByteArray.empty jH gz)).size + 1) = False := eq_false (Nat.not_lt.2 c15); by_cases c16 : fe.size + (((⟨#[123]⟩ : ByteArray) ++ (gT ByteArray.empty jH gz)) ++ (⟨#[125]⟩ : ByteArray)).size ≤ 9223372036854775807
            ·rw [if_pos c16] at H; (have MN : fe.size + (1 + (gT ByteArray.empty jH gz).size + 1) ≤ 9223372036854775807 := by have h := c16; rw [ByteArray.size_append, ByteArray.size_append] at h; exact h); have ahk := eq_true MN; have ahl : decide (fe.size + (1 + (gT ByteArray.empty jH gz).size + 1) ≤ 9223372036854775807) = true := decide_eq_true MN; have ahJ : (9223372036854775807 < fe.size + (1 + (gT ByteArray.empty jH gz).size + 1)) = False := eq_false (Nat.not_lt.2 MN); have ahn := eq_true c16; have ahC : decide (fe.size + (((⟨#[123]⟩ : ByteArray) ++ (gT ByteArray.empty jH gz)) ++ (⟨#[125]⟩ : ByteArray)).size ≤ 9223372036854775807) = true := decide_eq_true c16; have agL : (9223372036854775807 < fe.size + (((⟨#[123]⟩ : ByteArray) ++ (gT ByteArray.empty jH gz)) ++ (⟨#[125]⟩ : ByteArray)).size) = False := eq_false (Nat.not_lt.2 c16); have H' := aa.mk H; clear H; go_wp2; go_roundg kj10; (case measure => have := HK1.out; have := HJ10.out; omega); case rel => exact ⟨(fe ++ (((⟨#[123]⟩ : ByteArray) ++ (gT ByteArray.empty jH gz)) ++ (⟨#[125]⟩ : ByteArray))), (wrap64 (gz + 1)), (by rfl), (by rfl), H', ⟨by have := HK1.out; have := HJ10.out; omega⟩, ⟨by (with_reducible skip); exact BM.out⟩, ⟨by (with_reducible skip); exact qG.out⟩, ⟨by exact HB.out⟩⟩
            ·rw [if_neg c16] at H; exact absurd H (by simp)
           ·rw [if_neg c15] at H; exact absurd H (by simp)
          ·rw [if_neg c14] at H; exact absurd H (by simp)
         ·replace c13 := Bool.eq_false_iff.mpr c13; subst c13; rw [if_neg (show ¬ (false = true) by decide)] at H; by_cases c17 : ((gT ByteArray.empty jH gz).size : Int) = 1
          ·rw [if_pos c17] at H; have Cx : (((gT ByteArray.empty jH gz).size : Int) == 1) = true := beq_iff_eq.mpr c17; have Y5 : (((gT ByteArray.empty jH gz).size : Int) != 1) = false := bne_eq_false_iff_eq.mpr c17; clear c17; by_cases c18 : fe.size + (gT ByteArray.empty jH gz).size ≤ 9223372036854775807
           ·rw [if_pos c18] at H; have CW := eq_true c18; have ahI : decide (fe.size + (gT ByteArray.empty jH gz).size ≤ 9223372036854775807) = true := decide_eq_true c18; have ahE : (9223372036854775807 < fe.size + (gT ByteArray.empty jH gz).size) = False := eq_false (Nat.not_lt.2 c18); have H' := aa.mk H; clear H; go_wp2; go_roundg kj10; (case measure => have := HK1.out; have := HJ10.out; omega); case rel => exact ⟨(fe ++ (gT ByteArray.empty jH gz)), (wrap64 (gz + 1)), (by rfl), (by rfl), H', ⟨by have := HK1.out; have := HJ10.out; omega⟩, ⟨by (with_reducible skip); exact BM.out⟩, ⟨by (with_reducible skip); exact qG.out⟩, ⟨by exact HB.out⟩⟩
           ·rw [if_neg c18] at H; exact absurd H (by simp)
          ·rw [if_neg c17] at H; have Cx : (((gT ByteArray.empty jH gz).size : Int) == 1) = false := beq_eq_false_iff_ne.mpr c17; have Y5 : (((gT ByteArray.empty jH gz).size : Int) != 1) = true := bne_iff_ne.mpr c17; by_cases c19 : fe.size + 1 ≤ 9223372036854775807
           ·rw [if_pos c19] at H; have NB := eq_true c19; have agU : decide (fe.size + 1 ≤ 9223372036854775807) = true := decide_eq_true c19; have ahm : (9223372036854775807 < fe.size + 1) = False := eq_false (Nat.not_lt.2 c19); have H' := aa.mk H; clear H; go_wp2; go_roundg kj10; (case measure => have := HK1.out; have := HJ10.out; omega); case rel => exact ⟨(fe ++ (⟨#[45]⟩ : ByteArray)), (wrap64 (gz + 1)), (by rfl), (by rfl), H', ⟨by have := HK1.out; have := HJ10.out; omega⟩, ⟨by (with_reducible skip); exact BM.out⟩, ⟨by (with_reducible skip); exact qG.out⟩, ⟨by exact HB.out⟩⟩
           ·rw [if_neg c19] at H; exact absurd H (by simp)
      ·rw [if_neg c10] at H; exact absurd H (by simp)
     ·rw [if_neg c9] at H; exact absurd H (by simp)
    ·rw [if_neg c8] at H; have Iu : decide (gz < (jH.length : Int)) = false := decide_eq_false c8; clear c8; simp only [Option.some.injEq, Prod.mk.injEq] at H; obtain ⟨rfl, rfl⟩ := H; go_wp2
     go_ret2
     exact ⟨by rfl, by exact HB.out⟩
 ·rw [if_neg c3] at H; have rX : (IB == 0) = false := beq_eq_false_iff_ne.mpr c3; have Cj : (IB != 0) = true := bne_iff_ne.mpr c3; simp only [Option.some.injEq, Prod.mk.injEq] at H; obtain ⟨rfl, rfl⟩ := H; go_enter Try.func19, Try.ntmps19; go_wp2_with (first | ((with_reducible refine dh (N := 1) rfl ?_); refine dA ?hg (N := 1) ?hd (cs := #[.slice eX aZ.length dZ, .int .i64 bz, .int .i64 bS, .int .i64 bW, .slice eB bB.length dW]) (t := 25) ?hr ?_; (case hd => rfl); (case hg => rfl); (case hr => (go_simp; done)); intro Bp hg w20 hbox hb; have qG := aa.mk (hbox); have aac := aa.mk ((by rw [hg]; exact (az (by exact HB.out)) : w.heap.size ≤ Bp)); have abe := aa.mk ((by rw [hg]; exact (az (by exact HB.out)) : w.heap.size ≤ Bp)); replace HB := aa.mk (aW (by exact HB.out) hb); clear hb hbox hg; obtain ⟨Sm, PY, Qr, acG, abR, Sg, Ui, R7, aeg, adX⟩ := cells5 qG.out) | ((with_reducible refine bT (f := 24) rfl ?_); refine fC (some 11) rfl rfl Try.func24 (by kernel_rfl) rfl #[.agg #[.slice eX aZ.length dZ, .int .i64 bz, .int .i64 bS, .int .i64 bW, .slice eB bB.length dW]] rfl (by (simp only [List.map_toArray, List.map_cons, List.map_nil]); rfl) ?_; (with_reducible refine (bM.calls k _ _ aZ bz bS bW _ _ bB jH IB _ ?side1 ?side2 ?side3 ?side4 A2.out).mono ?_); (case side1 => repeat (exact (Kd.eT pU.out HB.out))); (case side2 => exact uW.out); (case side3 => repeat (exact (Kd.eT ry.out HB.out))); (case side4 => exact uT.out); rintro e w22 ⟨af6, rfl, ho0, hb⟩; refine ⟨_, rfl, ?_⟩; have Mh := aa.mk (Kd.fI ho0 (az (by exact HB.out))); replace qG := aa.mk (aG (bU qG.out) hb); replace HB := aa.mk (aW (by exact HB.out) hb); clear hb; (clear ho0)))
  go_ret2
  exact ⟨by rfl, by exact HB.out⟩
def eu.f (k : Nat)  : Option (Bool) := (fJ.f).bind fun uV => ((bM.f k uV.1 uV.2.1 uV.2.2.1 uV.2.2.2.1 uV.2.2.2.2).bind fun EI => ((fJ.f).bind fun uZ => ((dw.f k uZ.1 uZ.2.1 uZ.2.2.1 uZ.2.2.2.1 uZ.2.2.2.2).bind fun EJ => ((jS.f 1 (([(⟨15, 15⟩ : S27)] : List (S27)))).bind fun pF => ((nE.f pF.1 pF.2.1 pF.2.2.1 pF.2.2.2.1 pF.2.2.2.2).bind fun zg => (if EI.2 = 0 then (if EJ.2 = 0 then (if zg.2 = 0 then (if zg.1 = 1 then (if EJ.1.toList = ([65, 123, 65, 76, 125, 84] : List UInt8) then ((bP.f k EI.1 (([(⟨#[65]⟩ : ByteArray), (⟨#[65, 76]⟩ : ByteArray), (⟨#[84]⟩ : ByteArray)] : List ByteArray))).bind fun Dj => (some Dj)) else (some false)) else (some false)) else (some false)) else (some false)) else (some false)))))))
theorem eu.mono : ∀ k, LeO (eu.f k ) (eu.f (k + 1) ) := by
 intro  k; unfold eu.f
 repeat' first | (with_reducible exact bP.mono _ _ _) | (with_reducible exact bM.mono _ _ _ _ _ _) | (with_reducible exact dw.mono _ _ _ _ _ _) | (with_reducible exact LeO.refl _) | (with_reducible refine LeO.ite ?_ ?_) | (with_reducible refine LeO.bind ?_ (fun _ => ?_))
set_option maxRecDepth 100000 in
theorem FC : eu.f 60 = some true := by decide +kernel
theorem Gx {k : Nat} {r : Bool} (h : eu.f k = some r) : r = true := by
 have h1 := yT eu.mono (Nat.le_max_left k 60) h; have h2 := yT eu.mono (Nat.le_max_right k 60) FC; exact Option.some.inj (h1.symm.trans h2)
set_option maxHeartbeats 8000000 in
set_option maxRecDepth 100000 in
theorem eu.calls (k : Nat)  (r : Bool) (w : World) (h : eu.f k  = some r) :
 Calls Try.prog 14 #[] w fun e w' => e = .returned (.bool r) ∧ Below w.heap.size w w' := by
 have hrT := Gx h; have hu27 := Try.underlying27; have HB := aa.mk (Below.refl w.heap.size w); have H : ((fJ.f).bind fun uV => ((bM.f k uV.1 uV.2.1 uV.2.2.1 uV.2.2.2.1 uV.2.2.2.2).bind fun EI => ((fJ.f).bind fun uZ => ((dw.f k uZ.1 uZ.2.1 uZ.2.2.1 uZ.2.2.2.1 uZ.2.2.2.2).bind fun EJ => ((jS.f 1 (([(⟨15, 15⟩ : S27)] : List (S27)))).bind fun pF => ((nE.f pF.1 pF.2.1 pF.2.2.1 pF.2.2.2.1 pF.2.2.2.2).bind fun zg => (if EI.2 = 0 then (if EJ.2 = 0 then (if zg.2 = 0 then (if zg.1 = 1 then (if EJ.1.toList = ([65, 123, 65, 76, 125, 84] : List UInt8) then ((bP.f k EI.1 (([(⟨#[65]⟩ : ByteArray), (⟨#[65, 76]⟩ : ByteArray), (⟨#[84]⟩ : ByteArray)] : List ByteArray))).bind fun Dj => (some Dj)) else (some false)) else (some false)) else (some false)) else (some false)) else (some false)))))))) = some r := h; clear h; replace H := Option.bind_eq_some_iff.mp H; obtain ⟨⟨Hu, VW, Xe, WF, Ia⟩, A10, H⟩ := H; dsimp only at H; have A1 := aa.mk A10; clear A10; replace H := Option.bind_eq_some_iff.mp H; obtain ⟨⟨Rl, O5⟩, A20, H⟩ := H; dsimp only at H; have A2 := aa.mk A20; clear A20; replace H := Option.bind_eq_some_iff.mp H; obtain ⟨⟨Nr, Xw, XK, VG, Oy⟩, A30, H⟩ := H; dsimp only at H; have A3 := aa.mk A30; clear A30; replace H := Option.bind_eq_some_iff.mp H; obtain ⟨⟨Nz, LZ⟩, A40, H⟩ := H; dsimp only at H; have A4 := aa.mk A40; clear A40; obtain ⟨Tc, Ps⟩ : ∃ y_ : List (S27), y_ = (([(⟨15, 15⟩ : S27)] : List (S27))) := ⟨_, rfl⟩; (replace H : ((jS.f 1 Tc).bind fun pF => ((nE.f pF.1 pF.2.1 pF.2.2.1 pF.2.2.2.1 pF.2.2.2.2).bind fun zg => (if O5 = 0 then (if LZ = 0 then (if zg.2 = 0 then (if zg.1 = 1 then (if Nz.toList = ([65, 123, 65, 76, 125, 84] : List UInt8) then ((bP.f k Rl (([(⟨#[65]⟩ : ByteArray), (⟨#[65, 76]⟩ : ByteArray), (⟨#[84]⟩ : ByteArray)] : List ByteArray))).bind fun Dj => (some Dj)) else (some false)) else (some false)) else (some false)) else (some false)) else (some false)))) = some r := by (rw [Ps]; with_reducible exact H)); have Yo := aa.mk Ps; clear Ps; replace H := Option.bind_eq_some_iff.mp H; obtain ⟨⟨WT, WV, Wx, Wu, Wz⟩, A50, H⟩ := H; dsimp only at H; have A5 := aa.mk A50; clear A50; replace H := Option.bind_eq_some_iff.mp H; obtain ⟨⟨Rt, SB⟩, A60, H⟩ := H; dsimp only at H; have A6 := aa.mk A60; clear A60; by_cases c7 : O5 = 0
 ·rw [if_pos c7] at H; have Lr : (O5 == 0) = true := beq_iff_eq.mpr c7; have ahW : (O5 != 0) = false := bne_eq_false_iff_eq.mpr c7; clear c7; by_cases c8 : LZ = 0
  ·rw [if_pos c8] at H; have Iu : (LZ == 0) = true := beq_iff_eq.mpr c8; have aip : (LZ != 0) = false := bne_eq_false_iff_eq.mpr c8; clear c8; by_cases c9 : SB = 0
   ·rw [if_pos c9] at H; have WQ : (SB == 0) = true := beq_iff_eq.mpr c9; have ah5 : (SB != 0) = false := bne_eq_false_iff_eq.mpr c9; clear c9; by_cases c10 : Rt = 1
    ·rw [if_pos c10] at H; have xq : (Rt == 1) = true := beq_iff_eq.mpr c10; have ahe : (Rt != 1) = false := bne_eq_false_iff_eq.mpr c10; clear c10; by_cases c11 : Nz.toList = ([65, 123, 65, 76, 125, 84] : List UInt8)
     ·rw [if_pos c11] at H; have IQ : (Nz.toList == ([65, 123, 65, 76, 125, 84] : List UInt8)) = true := beq_iff_eq.mpr c11; have ahj : (Nz.toList != ([65, 123, 65, 76, 125, 84] : List UInt8)) = false := bne_eq_false_iff_eq.mpr c11; clear c11; obtain ⟨YW, L6⟩ : ∃ y_ : List ByteArray, y_ = (([(⟨#[65]⟩ : ByteArray), (⟨#[65, 76]⟩ : ByteArray), (⟨#[84]⟩ : ByteArray)] : List ByteArray)) := ⟨_, rfl⟩; (replace H : ((bP.f k Rl YW).bind fun Dj => (some Dj)) = some r := by (rw [L6]; with_reducible exact H)); have Yy := aa.mk L6; clear L6; replace H := Option.bind_eq_some_iff.mp H; obtain ⟨Dj, aaL, H⟩ := H; have A12 := aa.mk aaL; clear aaL; obtain rfl := Option.some.inj H; go_enter Try.func14, Try.ntmps14; go_wp2_with (first | ((with_reducible refine bT (f := 48) rfl ?_); refine fC (some 8) rfl rfl Try.func48 (by kernel_rfl) rfl #[] rfl (by (simp only [List.map_toArray, List.map_cons, List.map_nil]); done) ?_; (with_reducible refine (fJ.calls  Hu VW Xe WF Ia _ A1.out).mono ?_); rintro e w13 ⟨afE, agq, rfl, ho0, ho1, hb⟩; refine ⟨_, rfl, ?_⟩; have jM := aa.mk (Kd.mH (Kd.bv (ok' := fun k_ => some k_ ≠ (agq : Value).ownBlock) ho0 (fun k_ hk_ => hk_.2)) (az (by exact HB.out))); have jN := aa.mk (Kd.mH (Kd.bv (ok' := fun k_ => some k_ ≠ (afE : Value).ownBlock) ho1 (fun k_ hk_ => hk_.2)) (az (by exact HB.out))); replace HB := aa.mk (aW (by exact HB.out) hb); clear hb; clear ho0; clear ho1; obtain ⟨M8, Mx, ae2⟩ := Kd.jY jM.out; subst ae2; obtain ⟨DT, Eg, Xk⟩ := Kd.jY jN.out; subst Xk) | ((with_reducible refine bT (f := 24) rfl ?_); refine fC (some 9) rfl rfl Try.func24 (by kernel_rfl) rfl #[.agg #[.slice M8 Hu.length Mx, .int .i64 VW, .int .i64 Xe, .int .i64 WF, .slice DT Ia.length Eg]] rfl (by (simp only [List.map_toArray, List.map_cons, List.map_nil]); rfl) ?_; (with_reducible refine (bM.calls k _ _ Hu VW Xe WF _ _ Ia Rl O5 _ ?side1 ?side2 ?side3 ?side4 A2.out).mono ?_); (case side1 => repeat (exact (Kd.gV jM.out).2.2)); (case side2 => exact (Kd.gV jM.out).2.1); (case side3 => repeat (exact (Kd.gV jN.out).2.2)); (case side4 => exact (Kd.gV jN.out).2.1); rintro e w16 ⟨TK, rfl, ho0, hb⟩; refine ⟨_, rfl, ?_⟩; replace jM := aa.mk (Kd.dU (nU jM.out) (Kd.dO ho0) hb); replace jN := aa.mk (Kd.dU (nU jN.out) (Kd.dO ho0) hb); have jV := aa.mk (Kd.fI ho0 (az (by exact HB.out))); replace HB := aa.mk (aW (by exact HB.out) hb); clear hb; (clear ho0)) | ((with_reducible refine bT (f := 48) rfl ?_); refine fC (some 13) rfl rfl Try.func48 (by kernel_rfl) rfl #[] rfl (by (simp only [List.map_toArray, List.map_cons, List.map_nil]); done) ?_; (with_reducible refine (fJ.calls  Nr Xw XK VG Oy _ A3.out).mono ?_); rintro e w17 ⟨aeS, agj, rfl, ho0, ho1, hb⟩; refine ⟨_, rfl, ?_⟩; have lD := aa.mk (Kd.mH (Kd.bv (ok' := fun k_ => some k_ ≠ (agj : Value).ownBlock ∧ some k_ ≠ (.slice M8 Hu.length Mx : Value).ownBlock ∧ some k_ ≠ (.slice DT Ia.length Eg : Value).ownBlock ∧ some k_ ≠ (TK : Value).ownBlock) ho0 (fun k_ hk_ => ⟨hk_.2, (Kd.iE (Kd.uD (nU jM.out)) k_ hk_.1), (Kd.iE (Kd.uD (nU jN.out)) k_ hk_.1), (Kd.iE (Kd.oF (rU jV.out)) k_ hk_.1)⟩)) (az (by exact HB.out))); have lu := aa.mk (Kd.mH (Kd.bv (ok' := fun k_ => some k_ ≠ (aeS : Value).ownBlock ∧ some k_ ≠ (.slice M8 Hu.length Mx : Value).ownBlock ∧ some k_ ≠ (.slice DT Ia.length Eg : Value).ownBlock ∧ some k_ ≠ (TK : Value).ownBlock) ho1 (fun k_ hk_ => ⟨hk_.2, (Kd.iE (Kd.uD (nU jM.out)) k_ hk_.1), (Kd.iE (Kd.uD (nU jN.out)) k_ hk_.1), (Kd.iE (Kd.oF (rU jV.out)) k_ hk_.1)⟩)) (az (by exact HB.out))); replace jM := aa.mk (Kd.bv (Kd.oQ (Kd.oQ (Kd.zt (nU jM.out) hb) (Kd.lN ho0)) (Kd.lN ho1)) (fun _ h_ => h_.1)); replace jN := aa.mk (Kd.bv (Kd.oQ (Kd.oQ (Kd.zt (nU jN.out) hb) (Kd.lN ho0)) (Kd.lN ho1)) (fun _ h_ => h_.1)); replace jV := aa.mk (Kd.eO (rU jV.out) hb); replace HB := aa.mk (aW (by exact HB.out) hb); clear hb; clear ho0; clear ho1; obtain ⟨Wj, V8, agp⟩ := Kd.jY lD.out; subst agp; obtain ⟨yN, yR, VU⟩ := Kd.jY lu.out; subst VU) | ((with_reducible refine bT (f := 19) rfl ?_); refine fC (some 14) rfl rfl Try.func19 (by kernel_rfl) rfl #[.agg #[.slice Wj Nr.length V8, .int .i64 Xw, .int .i64 XK, .int .i64 VG, .slice yN Oy.length yR]] rfl (by (simp only [List.map_toArray, List.map_cons, List.map_nil]); rfl) ?_; (with_reducible refine (dw.calls k _ _ Nr Xw XK VG _ _ Oy Nz LZ _ ?side1 ?side2 ?side3 ?side4 A4.out).mono ?_); (case side1 => repeat (exact (Kd.gV lD.out).2.2)); (case side2 => exact (Kd.gV lD.out).2.1); (case side3 => repeat (exact (Kd.gV lu.out).2.2)); (case side4 => exact (Kd.gV lu.out).2.1); rintro e w20 ⟨rfl, hb⟩; refine ⟨_, rfl, ?_⟩; replace jM := aa.mk (Kd.je (nU jM.out) hb); replace jN := aa.mk (Kd.je (nU jN.out) hb); replace jV := aa.mk (Kd.eO (rU jV.out) hb); replace lD := aa.mk (Kd.je (nU lD.out) hb); replace lu := aa.mk (Kd.je (nU lu.out) hb); replace HB := aa.mk (aW (by exact HB.out) hb); (clear hb)) | ((with_reducible refine dh (N := 19) rfl ?_); ((refine Bu (by rfl) ?_; dsimp only)); refine Kd.tq k27 _ 27 ?hg (N := 19) ?hd (xs := ([(⟨15, 15⟩ : S27)] : List (S27))) (inner := [.int .i64 15, .int .i64 15]) (ok := fun _ => True) (okp := fun _ => True) ?hr ?hp (fun _ hk => hk) trivial (Below.refl _ _) (Nat.le_refl _) (by simp) ?_; (case hd => rfl); (case hg => rfl); (case hr => (go_simp; done)); (case hp => exact (eG.c2 (show Kd.M k27 _ _ _ (⟨15, 15⟩ : S27) [.int .i64 15, .int .i64 15] from (vV _ _ _ (⟨15, 15⟩ : S27) )) (eG.none _ _))); intro aig w21 Gt hb hg_ hnew_; clear hg_ hnew_; (rw [← Yo.out] at Gt); replace jM := aa.mk (Kd.dU (nU jM.out) (Kd.dO Gt) hb); replace jN := aa.mk (Kd.dU (nU jN.out) (Kd.dO Gt) hb); replace jV := aa.mk (Kd.eO (rU jV.out) hb); replace lD := aa.mk (Kd.dU (nU lD.out) (Kd.dO Gt) hb); replace lu := aa.mk (Kd.dU (nU lu.out) (Kd.dO Gt) hb); have oJ := aa.mk (Kd.fI Gt (az (by exact HB.out))); replace HB := aa.mk (aW (by exact HB.out) hb); clear hb Gt; obtain ⟨OI, Md, XD⟩ := Kd.fu oJ.out; subst XD) | ((with_reducible refine bT (f := 49) rfl ?_); refine fC (some 20) rfl rfl Try.func49 (by kernel_rfl) rfl #[.int .i64 1, .slice OI Tc.length Md] rfl (by (simp only [List.map_toArray, List.map_cons, List.map_nil]); rfl) ?_; (with_reducible refine (jS.calls 1 (fun k_ => some k_ = (.slice OI Tc.length Md : Value).ownBlock) _ _ Tc WT WV Wx Wu Wz _ ?side1 A5.out).mono ?_); (case side1 => exact Kd.R_V (Kd.zV rfl (Kd.bK (Kd.bK (Kd.bK (Kd.bK (Kd.bK (oJ.out) (Kd.dC jM.out) (by decide)) (Kd.dC jN.out) (by decide)) (Kd.gF jV.out) (by decide)) (Kd.dC lD.out) (by decide)) (Kd.dC lu.out) (by decide)))); rintro e w24 ⟨afj, aeX, rfl, ho0, ho1, hb⟩; refine ⟨_, rfl, ?_⟩; have A9 := aa.mk (Kd.mH (Kd.bv (ok' := fun k_ => some k_ ≠ (aeX : Value).ownBlock ∧ some k_ ≠ (.slice M8 Hu.length Mx : Value).ownBlock ∧ some k_ ≠ (.slice DT Ia.length Eg : Value).ownBlock ∧ some k_ ≠ (TK : Value).ownBlock ∧ some k_ ≠ (.slice Wj Nr.length V8 : Value).ownBlock ∧ some k_ ≠ (.slice yN Oy.length yR : Value).ownBlock) ho0 (fun k_ hk_ => ⟨hk_.2, Or.elim hk_.1 (fun hs_ => ((Kd.bK (Kd.bK (Kd.bK (Kd.bK (Kd.bK (oJ.out) (Kd.dC jM.out) (by decide)) (Kd.dC jN.out) (by decide)) (Kd.gF jV.out) (by decide)) (Kd.dC lD.out) (by decide)) (Kd.dC lu.out) (by decide)).1 k_ hs_.symm).1.1.1.1.2) (fun hn_ => (Kd.iE (Kd.uD (nU jM.out)) k_ hn_)), Or.elim hk_.1 (fun hs_ => ((Kd.bK (Kd.bK (Kd.bK (Kd.bK (Kd.bK (oJ.out) (Kd.dC jM.out) (by decide)) (Kd.dC jN.out) (by decide)) (Kd.gF jV.out) (by decide)) (Kd.dC lD.out) (by decide)) (Kd.dC lu.out) (by decide)).1 k_ hs_.symm).1.1.1.2) (fun hn_ => (Kd.iE (Kd.uD (nU jN.out)) k_ hn_)), Or.elim hk_.1 (fun hs_ => ((Kd.bK (Kd.bK (Kd.bK (Kd.bK (Kd.bK (oJ.out) (Kd.dC jM.out) (by decide)) (Kd.dC jN.out) (by decide)) (Kd.gF jV.out) (by decide)) (Kd.dC lD.out) (by decide)) (Kd.dC lu.out) (by decide)).1 k_ hs_.symm).1.1.2) (fun hn_ => (Kd.iE (Kd.oF (rU jV.out)) k_ hn_)), Or.elim hk_.1 (fun hs_ => ((Kd.bK (Kd.bK (Kd.bK (Kd.bK (Kd.bK (oJ.out) (Kd.dC jM.out) (by decide)) (Kd.dC jN.out) (by decide)) (Kd.gF jV.out) (by decide)) (Kd.dC lD.out) (by decide)) (Kd.dC lu.out) (by decide)).1 k_ hs_.symm).1.2) (fun hn_ => (Kd.iE (Kd.uD (nU lD.out)) k_ hn_)), Or.elim hk_.1 (fun hs_ => ((Kd.bK (Kd.bK (Kd.bK (Kd.bK (Kd.bK (oJ.out) (Kd.dC jM.out) (by decide)) (Kd.dC jN.out) (by decide)) (Kd.gF jV.out) (by decide)) (Kd.dC lD.out) (by decide)) (Kd.dC lu.out) (by decide)).1 k_ hs_.symm).2) (fun hn_ => (Kd.iE (Kd.uD (nU lu.out)) k_ hn_))⟩)) (az (by exact HB.out))); have AV := aa.mk (Kd.mH (Kd.bv (ok' := fun k_ => some k_ ≠ (afj : Value).ownBlock ∧ some k_ ≠ (.slice M8 Hu.length Mx : Value).ownBlock ∧ some k_ ≠ (.slice DT Ia.length Eg : Value).ownBlock ∧ some k_ ≠ (TK : Value).ownBlock ∧ some k_ ≠ (.slice Wj Nr.length V8 : Value).ownBlock ∧ some k_ ≠ (.slice yN Oy.length yR : Value).ownBlock) ho1 (fun k_ hk_ => ⟨hk_.2, Or.elim hk_.1 (fun hs_ => ((Kd.bK (Kd.bK (Kd.bK (Kd.bK (Kd.bK (oJ.out) (Kd.dC jM.out) (by decide)) (Kd.dC jN.out) (by decide)) (Kd.gF jV.out) (by decide)) (Kd.dC lD.out) (by decide)) (Kd.dC lu.out) (by decide)).1 k_ hs_.symm).1.1.1.1.2) (fun hn_ => (Kd.iE (Kd.uD (nU jM.out)) k_ hn_)), Or.elim hk_.1 (fun hs_ => ((Kd.bK (Kd.bK (Kd.bK (Kd.bK (Kd.bK (oJ.out) (Kd.dC jM.out) (by decide)) (Kd.dC jN.out) (by decide)) (Kd.gF jV.out) (by decide)) (Kd.dC lD.out) (by decide)) (Kd.dC lu.out) (by decide)).1 k_ hs_.symm).1.1.1.2) (fun hn_ => (Kd.iE (Kd.uD (nU jN.out)) k_ hn_)), Or.elim hk_.1 (fun hs_ => ((Kd.bK (Kd.bK (Kd.bK (Kd.bK (Kd.bK (oJ.out) (Kd.dC jM.out) (by decide)) (Kd.dC jN.out) (by decide)) (Kd.gF jV.out) (by decide)) (Kd.dC lD.out) (by decide)) (Kd.dC lu.out) (by decide)).1 k_ hs_.symm).1.1.2) (fun hn_ => (Kd.iE (Kd.oF (rU jV.out)) k_ hn_)), Or.elim hk_.1 (fun hs_ => ((Kd.bK (Kd.bK (Kd.bK (Kd.bK (Kd.bK (oJ.out) (Kd.dC jM.out) (by decide)) (Kd.dC jN.out) (by decide)) (Kd.gF jV.out) (by decide)) (Kd.dC lD.out) (by decide)) (Kd.dC lu.out) (by decide)).1 k_ hs_.symm).1.2) (fun hn_ => (Kd.iE (Kd.uD (nU lD.out)) k_ hn_)), Or.elim hk_.1 (fun hs_ => ((Kd.bK (Kd.bK (Kd.bK (Kd.bK (Kd.bK (oJ.out) (Kd.dC jM.out) (by decide)) (Kd.dC jN.out) (by decide)) (Kd.gF jV.out) (by decide)) (Kd.dC lD.out) (by decide)) (Kd.dC lu.out) (by decide)).1 k_ hs_.symm).2) (fun hn_ => (Kd.iE (Kd.uD (nU lu.out)) k_ hn_))⟩)) (az (by exact HB.out))); replace jM := aa.mk (Kd.bv (Kd.oQ (Kd.oQ (Kd.zt (nU jM.out) hb) (Kd.lN ho0)) (Kd.lN ho1)) (fun _ h_ => h_.1)); replace jN := aa.mk (Kd.bv (Kd.oQ (Kd.oQ (Kd.zt (nU jN.out) hb) (Kd.lN ho0)) (Kd.lN ho1)) (fun _ h_ => h_.1)); replace jV := aa.mk (Kd.eO (rU jV.out) hb); replace lD := aa.mk (Kd.bv (Kd.oQ (Kd.oQ (Kd.zt (nU lD.out) hb) (Kd.lN ho0)) (Kd.lN ho1)) (fun _ h_ => h_.1)); replace lu := aa.mk (Kd.bv (Kd.oQ (Kd.oQ (Kd.zt (nU lu.out) hb) (Kd.lN ho0)) (Kd.lN ho1)) (fun _ h_ => h_.1)); replace oJ := aa.mk (Kd.eO (rU oJ.out) hb); replace HB := aa.mk (aW (by exact HB.out) hb); clear hb; clear ho0; clear ho1; obtain ⟨Qh, Sb, Xg⟩ := Kd.jY A9.out; subst Xg; obtain ⟨Sn, SL, Ww⟩ := Kd.jY AV.out; subst Ww) | ((with_reducible refine bT (f := 21) rfl ?_); refine fC (some 21) rfl rfl Try.func21 (by kernel_rfl) rfl #[.agg #[.slice Qh WT.length Sb, .int .i64 WV, .int .i64 Wx, .int .i64 Wu, .slice Sn Wz.length SL]] rfl (by (simp only [List.map_toArray, List.map_cons, List.map_nil]); rfl) ?_; (with_reducible refine (nE.calls _ _ WT WV Wx Wu _ _ Wz Rt SB _ ?side1 ?side2 ?side3 ?side4 A6.out).mono ?_); (case side1 => repeat (exact (Kd.gV A9.out).2.2)); (case side2 => exact (Kd.gV A9.out).2.1); (case side3 => repeat (exact (Kd.gV AV.out).2.2)); (case side4 => exact (Kd.gV AV.out).2.1); rintro e w27 ⟨rfl, hb⟩; refine ⟨_, rfl, ?_⟩; replace jM := aa.mk (Kd.je (nU jM.out) hb); replace jN := aa.mk (Kd.je (nU jN.out) hb); replace jV := aa.mk (Kd.eO (rU jV.out) hb); replace lD := aa.mk (Kd.je (nU lD.out) hb); replace lu := aa.mk (Kd.je (nU lu.out) hb); replace oJ := aa.mk (Kd.eO (rU oJ.out) hb); replace A9 := aa.mk (Kd.je (nU A9.out) hb); replace AV := aa.mk (Kd.je (nU AV.out) hb); replace HB := aa.mk (aW (by exact HB.out) hb); (clear hb)) | ((with_reducible refine dh (N := 44) rfl ?_); ((refine Bu (by rfl) ?_; dsimp only)); refine Kd.tq Kd.string _ 9 ?hg (N := 44) ?hd (xs := ([(⟨#[65]⟩ : ByteArray), (⟨#[65, 76]⟩ : ByteArray), (⟨#[84]⟩ : ByteArray)] : List ByteArray)) (inner := [.string (⟨#[65]⟩ : ByteArray), .string (⟨#[65, 76]⟩ : ByteArray), .string (⟨#[84]⟩ : ByteArray)]) (ok := fun _ => True) (okp := fun _ => True) ?hr ?hp (fun _ hk => hk) trivial (Below.refl _ _) (Nat.le_refl _) (by simp) ?_; (case hd => rfl); (case hg => rfl); (case hr => (go_simp; done)); (case hp => exact (eG.one (show Kd.M Kd.string _ _ _ (⟨#[65]⟩ : ByteArray) [.string (⟨#[65]⟩ : ByteArray)] from rfl) (eG.one (show Kd.M Kd.string _ _ _ (⟨#[65, 76]⟩ : ByteArray) [.string (⟨#[65, 76]⟩ : ByteArray)] from rfl) (eG.one (show Kd.M Kd.string _ _ _ (⟨#[84]⟩ : ByteArray) [.string (⟨#[84]⟩ : ByteArray)] from rfl) (eG.none _ _))))); intro ah6 w28 Ci hb hg_ hnew_; clear hg_ hnew_; (rw [← Yy.out] at Ci); replace jM := aa.mk (Kd.dU (nU jM.out) (Kd.dO Ci) hb); replace jN := aa.mk (Kd.dU (nU jN.out) (Kd.dO Ci) hb); replace lD := aa.mk (Kd.dU (nU lD.out) (Kd.dO Ci) hb); replace lu := aa.mk (Kd.dU (nU lu.out) (Kd.dO Ci) hb); replace oJ := aa.mk (Kd.eO (rU oJ.out) hb); replace A9 := aa.mk (Kd.dU (nU A9.out) (Kd.dO Ci) hb); replace AV := aa.mk (Kd.dU (nU AV.out) (Kd.dO Ci) hb); have NU := aa.mk (Kd.fI (Kd.oN Ci (Kd.oF (rU jV.out))) (az (by exact HB.out))); replace jV := aa.mk (Kd.kD (rU jV.out) (Kd.dO Ci) hb); replace HB := aa.mk (aW (by exact HB.out) hb); clear hb Ci; obtain ⟨ahU, aif, aeW⟩ := Kd.fu jV.out; subst aeW; obtain ⟨aiv, aiF, aeI⟩ := Kd.fu NU.out; subst aeI) | (go_at_call 42; (with_reducible refine (bP.calls k _ _ Rl _ _ YW Dj _ ?side1 ?side2 ?side3 ?side4 A12.out).mono ?_); (case side1 => repeat (exact (Kd.dM jV.out).2.2)); (case side2 => exact (Kd.dM jV.out).2.1); (case side3 => repeat (exact (Kd.dM NU.out).2.2)); (case side4 => exact (Kd.dM NU.out).2.1); rintro e w' ⟨rfl, ⟨nd, rfl⟩⟩))
      go_ret
      exact ⟨by simp [*, tu, sK] <;> rfl, by exact lU HB.out⟩
     ·rw [if_neg c11] at H; exact absurd ((Option.some.inj H).trans hrT) (by decide)
    ·rw [if_neg c10] at H; exact absurd ((Option.some.inj H).trans hrT) (by decide)
   ·rw [if_neg c9] at H; exact absurd ((Option.some.inj H).trans hrT) (by decide)
  ·rw [if_neg c8] at H; exact absurd ((Option.some.inj H).trans hrT) (by decide)
 ·rw [if_neg c7] at H; exact absurd ((Option.some.inj H).trans hrT) (by decide)
end Go.Proofs.Ytihedeofkhapiaa.Pr
end
