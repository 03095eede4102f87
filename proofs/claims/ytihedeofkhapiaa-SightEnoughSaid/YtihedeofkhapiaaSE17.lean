/- Part 17 of 18 of the proof of: SightEnough: for every slice of numbers, the law returns true: a line made of them may be just if Marks is at most Total, for all Totals from 0 to 12; no condition beyond the statement's own. -/
import Derived.RangeFuncBox
import Derived.Maps.AppendAt
import Derived.Maps.OwnIn
import Derived.Maps.RangeWalk
import Derived.Sort.KeysCollected
import Derived.Laws.MakeOwn
import Derived.Laws.OwnMore
import Derived.Sort.CutIn
import Derived.Sort.LoopGhostIn
import Derived.Test.YtihedeofkhapiaaSE3
import Derived.Test.YtihedeofkhapiaaSE7
import Derived.Test.YtihedeofkhapiaaSE8
import Derived.Test.YtihedeofkhapiaaSE10
import Derived.Test.YtihedeofkhapiaaSE11
import Derived.Test.YtihedeofkhapiaaSE12
import Derived.Test.YtihedeofkhapiaaSE15
import Derived.Test.YtihedeofkhapiaaSE16
section
namespace Go.Proofs.Ytihedeofkhapiaa.Pr
open Go.RowKit Go.Shelf Go.Proofs.YtihedeofkhapiaaW.PrintWords Go.Proofs.YtihedeofkhapiaaW.PrintLast Go.Proofs.YtihedeofkhapiaaW.PrintMore
set_option linter.unusedVariables false
set_option linter.unusedSimpArgs false
attribute [local go_sem] Oper.semAt_some
def hitP (gs gl a1 a2 a3 : Int) (l0 : List S66) (l4 : List (List S27)) (i x k : Nat) : Bool :=
 let m := needsHand a1 a2 l0 l4 x
 let st := sumsTo gs gl m (rd_T66 l0 (x : Int)).f1 l4.length
 mayP gs gl i (rd_T86 (rd_T66 l0 (x : Int)).f1 (k : Int)) && decide (m.getD (i * 8 + k) 0 < 1048576) && decide (wrap64 (wrap64 (st.2 - st.1.getD i 0) + m.getD (i * 8 + k) 0) ≤ a3)
def rowHit (gs gl a1 a2 a3 : Int) (l0 : List S66) (l4 : List (List S27)) (i x : Nat) : Nat → Int → Bool
 | 0, _ => false
 | k + 1, c => rowHit gs gl a1 a2 a3 l0 l4 i x k c || (hitP gs gl a1 a2 a3 l0 l4 i x k && (c == (rd_T86 (rd_T66 l0 (x : Int)).f1 (k : Int)).f0))
def foundTo (gs gl a1 a2 a3 : Int) (l0 : List S66) (l4 : List (List S27)) (i : Nat) (pre : List (Fin l0.length)) (c : Int) : Bool :=
 pre.any fun x => rowHit gs gl a1 a2 a3 l0 l4 i x.1 (rd_T66 l0 (x.1 : Int)).f1.length c
def lettersAt (gs gl a1 a2 a3 : Int) (l0 : List S66) (l4 : List (List S27)) (i : Nat) : List Int :=
 ((List.range 256).map Int.ofNat).filter (foundTo gs gl a1 a2 a3 l0 l4 i (List.finRange l0.length))
def lettersP (gs gl a1 a2 a3 : Int) (l0 : List S66) (l4 : List (List S27)) : List (List Int) := (List.range l4.length).map (lettersAt gs gl a1 a2 a3 l0 l4)
def sight_given_letters.f (a0_0 : Int) (a0_1 : Int) (l1_0 : List (S66)) (a1_1 : Int) (a1_2 : Int) (a1_3 : Int) (l1_4 : List (List (S27))) : Option ((List (List Int))) :=
 if checkP l1_0 a1_1 a1_2 a1_3 l1_4 = 0 ∧ (∀ l ∈ lettersP a0_0 a0_1 a1_1 a1_2 a1_3 l1_0 l1_4, l.length ≤ 12) then some (lettersP a0_0 a0_1 a1_1 a1_2 a1_3 l1_0 l1_4) else none
theorem shapes_letters : ∀ {p : Option Int} {l : List S86}, shapesP p l = 0 → ∀ s ∈ l, 65 ≤ s.f0 ∧ s.f0 ≤ 90
 | _, [], _, s, hs => by cases hs
 | p, s :: r, h, t, ht => by
  simp only [shapesP] at h; by_cases h1 : s.f0 < 65 ∨ s.f0 > 90
  ·rw [if_pos h1] at h; cases h
  ·rw [if_neg h1] at h; by_cases h2 : inP s.f1 1 1023 = true
   ·rw [if_pos h2] at h; by_cases h3 : ∃ q, p = some q ∧ s.f0 ≤ q
    ·rw [if_pos h3] at h; cases h
    ·rw [if_neg h3] at h; rcases List.mem_cons.1 ht with rfl | ht
     ·omega
     ·exact shapes_letters h t ht
   ·rw [if_neg h2] at h; cases h
theorem check_letter {l0 : List S66} (h : handsP l0 = 0) (x k : Nat) (hx : x < l0.length) (hk : k < (rd_T66 l0 (x : Int)).f1.length) : 65 ≤ (rd_T86 (rd_T66 l0 (x : Int)).f1 (k : Int)).f0 ∧ (rd_T86 (rd_T66 l0 (x : Int)).f1 (k : Int)).f0 ≤ 90 := by
 have h1 := hands_all h (rd_T66 l0 (x : Int)) (by rw [rd66, List.getD_eq_getElem?_getD, List.getElem?_eq_getElem hx]; exact List.getElem_mem _); have h2 := (hand_bounds h1).2.2.2.2.2; refine shapes_letters h2 _ ?_; rw [rd86, List.getD_eq_getElem?_getD, List.getElem?_eq_getElem hk]; exact List.getElem_mem _
def MapIs (W : World) (b : Nat) (S : Int → Bool) (N : Nat) : Prop := ∃ (D : DataW Unit) (nn : Nat), W.ownsMap Try.prog 5 (plainElem Try.prog 4) b nn D ∧ nn ≤ N ∧ ∀ c, Maps.has D (.int .u8 c) = S c
theorem MapIs.kept {W W' : World} {b : Nat} {S : Int → Bool} {N : Nat} (h : MapIs W b S N) {row : Option Nat} (hg : W.grownBy W' row) (hb : row ≠ some b) : MapIs W' b S N := by
 obtain ⟨D, nn, h1, h2⟩ := h; exact ⟨D, nn, h1.kept hg (fun e => hb e.symm), h2⟩
theorem MapIs.lt {W : World} {b : Nat} {S : Int → Bool} {N : Nat} (h : MapIs W b S N) : b < W.heap.size := by
 obtain ⟨D, nn, h1, h2⟩ := h; exact h1.lt
theorem MapIs.below {W W' : World} {b : Nat} {S : Int → Bool} {N : Nat} (h : MapIs W b S N) (hb : Below W.heap.size W W') : MapIs W' b S N := h.kept (grown_of_below hb none) (by simp)
theorem MapIs.more {W : World} {b : Nat} {S : Int → Bool} {N N' : Nat} (h : MapIs W b S N) (hn : N ≤ N') : MapIs W b S N' := by
 obtain ⟨D, nn, h1, h2, h3⟩ := h; exact ⟨D, nn, h1, Nat.le_trans h2 hn, h3⟩
theorem MapIs.put {D : DataW Unit} {W : World} {b nn N : Nat} {S : Int → Bool} {c : Int} {D0 : DataW Unit} (h : W.ownsMap Try.prog 5 (plainElem Try.prog 4) b nn (D0.put (.int .u8 c) D)) (hD : Maps.IsMap D0) (hn : nn ≤ N) (hs : ∀ c, Maps.has D0 (.int .u8 c) = S c) : MapIs W b (fun x => S x || x == c) N := by
 refine ⟨_, nn, h, hn, fun x => ?_⟩; by_cases hx : x = c
 ·subst hx; rw [Maps.has_put_same (k := .int .u8 x) hD trivial]; simp
 ·rw [Maps.has_put_other (by simpa using hx), hs x]; simp [hx]
theorem MapIs.congr {W : World} {b N : Nat} {S S' : Int → Bool} (h : MapIs W b S N) (he : ∀ c, S c = S' c) : MapIs W b S' N := by
 obtain ⟨D, nn, h1, h2, h3⟩ := h; exact ⟨D, nn, h1, h2, fun c => (h3 c).trans (he c)⟩
def CollU (S : Int → Bool) (left : Lit → Bool) (ss : List Int) : Prop := ss.Nodup ∧ (∀ x, x ∈ ss ↔ (S x = true ∧ left (.int .u8 x) = false)) ∧ ∀ x ∈ ss, 0 ≤ x ∧ x < 256
theorem wf_u8 {x : Int} : (Lit.int .u8 x).wf = true ↔ 0 ≤ x ∧ x < 256 := by
 have e1 : IntKind.u8.min = 0 := rfl; have e2 : IntKind.u8.max = 255 := rfl; simp only [Lit.wf, e1, e2]; simp; omega
theorem CollU.start {D : DataW Unit} {S : Int → Bool} (h : ∀ c, Maps.has D (.int .u8 c) = S c) : CollU S (Maps.has D) [] := ⟨List.nodup_nil, fun x => by rw [h x]; cases S x <;> simp, fun x hx => by cases hx⟩
theorem CollU.step {S : Int → Bool} {left : Lit → Bool} {ss : List Int} (h : CollU S left ss) {x : Int} (hl : left (.int .u8 x) = true) (hs : S x = true) (hw : 0 ≤ x ∧ x < 256) : CollU S (fun z => left z && !z.sameKey (.int .u8 x)) (ss ++ [x]) := by
 (have hnew : x ∉ ss := fun hx => by have := ((h.2.1 x).1 hx).2; rw [hl] at this; cases this); refine ⟨List.nodup_append.2 ⟨h.1, by simp, fun a ha b hb => by simp at hb; subst hb; exact fun e => hnew (e ▸ ha)⟩, fun y => ?_, fun y hy => ?_⟩
 ·by_cases hy : y = x
  ·subst hy; simp [hs, Lit.sameKey]
  ·simp [h.2.1 y, hy, Lit.sameKey]
 ·rcases List.mem_append.1 hy with hy | hy
  ·exact h.2.2 y hy
  ·simp at hy; subst hy; exact hw
theorem CollU.perm {gs gl a1 a2 a3 : Int} {l0 : List S66} {l4 : List (List S27)} {i : Nat} {left : Lit → Bool} {ss : List Int} (h : CollU (foundTo gs gl a1 a2 a3 l0 l4 i (List.finRange l0.length)) left ss) (hl : ∀ kl, left kl = false) : (lettersAt gs gl a1 a2 a3 l0 l4 i).Perm ss := by
 have hnd : ((List.range 256).map Int.ofNat).Nodup := by
  refine List.pairwise_map.2 (List.nodup_range.imp fun hne e => hne ?_); exact Int.ofNat.inj e
 (refine (List.perm_ext_iff_of_nodup (hnd.filter _) h.1).2 fun x => ?_); rw [List.mem_filter, h.2.1 x]; constructor
 ·rintro ⟨_, h2⟩; exact ⟨h2, hl _⟩
 ·rintro ⟨h1, h2⟩; have := h.2.2 x ((h.2.1 x).2 ⟨h1, h2⟩); exact ⟨List.mem_map.2 ⟨x.toNat, by simp; omega, by simp; omega⟩, h1⟩
theorem letters_sorted (gs gl a1 a2 a3 : Int) (l0 : List S66) (l4 : List (List S27)) (i : Nat) : (lettersAt gs gl a1 a2 a3 l0 l4 i).Pairwise (· ≤ ·) := by
 refine List.Pairwise.filter _ (List.pairwise_map.2 (List.pairwise_le_range.imp fun h => ?_)); exact Int.ofNat_le.2 h
theorem bool_inv {v : Value} {y : DataW Unit × List MemPlace} (h : plainElem (H := Unit) Try.prog 4 v = some y) : ∃ c : Bool, v = .bool c := by
 (cases v <;> simp [plainElem, Try.underlying4] at h); exact ⟨_, rfl⟩
theorem u8_inv {key : Value} {kl : Lit} (h : keyOf Try.prog 5 key = some kl) : ∃ x : Int, key = .int .u8 x ∧ kl = .int .u8 x ∧ (Lit.int .u8 x).wf = true := Maps.keyOf_int_inv Try.underlying5 h
theorem one_C8 {W : World} {g : Nat} {v : Int} (h : W.cell? ⟨g, 0, none⟩ = some (.int .u8 v)) : Kd.C (Kd.int .u8) W (some ⟨g, 0, none⟩) 1 [v] := by
 refine ⟨rfl, by simp, fun _ => ⟨_, rfl, fun j p hp => ?_⟩⟩
 cases j with
 | zero =>
  simp at hp; subst hp; refine ⟨[.int .u8 v], rfl, rfl, fun i u hu => ?_⟩
  cases i with
  | zero =>
   simp at hu; subst hu; exact h
  | succ i => simp at hu
 | succ j => simp at hp
theorem make88 (W : World) (n : Nat) (hn : n ≤ 1000) : (Instr.makeSlice 88 (.int .i64 (n : Int)) (.int .i64 (n : Int))).run Try.prog W = .ok (.slice (some ⟨W.heap.size, 0, none⟩) n n) (W.alloc (.cells (madeCells #[.int .u8 0] n) 5)) := by
 obtain ⟨i, h1, h2, h3, h4⟩ := info_parts (P := Try.prog) (e := 5) (z := .int .u8 0) (size := 1) (bytes := 1) (by kernel_rfl); have h := run_makeSlice (P := Try.prog) W 88 5 i (.int .u8 0) Try.underlying88 h1 h2 .i64 .i64 n n (by omega) (by omega) (by rw [h3]; omega) (by rw [h4]; omega) (by omega); rw [h3] at h; rw [show (Value.int .u8 0).cells = #[Value.int .u8 0] from rfl] at h
 simpa using h
theorem made88 (W : World) (n base : Nat) (hn : n ≤ 1000) (hb : base ≤ W.heap.size) : Kd.R (Kd.int .u8) 5 (W.alloc (.cells (madeCells #[.int .u8 0] n) 5)) base (fun k => k = W.heap.size) (.slice (some ⟨W.heap.size, 0, none⟩) n n) (List.replicate n 0) := by
 obtain ⟨i, h1, h2, h3, h4⟩ := info_parts (P := Try.prog) (e := 5) (z := .int .u8 0) (size := 1) (bytes := 1) (by kernel_rfl); obtain ⟨w', e1, e2, e3⟩ := run_makeSlice_full (P := Try.prog) (w := W) base 88 5 i (.int .u8 0) 1 Try.underlying88 h1 h2 h3 .i64 .i64 n (by omega) (by rw [h4]; omega) (by unfold maxLen; omega) hb; rw [make88 W n hn] at e1; injection e1 with _ e1; subst e1; refine Kd.R_of_own (enc := Value.int .u8) ?_ (fun k hk => by simp [Value.ownBlock] at hk; exact hk.symm); rw [List.length_replicate]
 have : encs (Value.int .u8) (List.replicate n (0 : Int)) = (madeCells (Value.int IntKind.u8 0).cells (n * 1)).toList := by
  rw [show (Value.int IntKind.u8 0).cells = #[Value.int .u8 0] from rfl, Nat.mul_one]; apply List.ext_getElem?; intro j; simp only [encs, madeCells, List.map_replicate]; simp; by_cases hj : j < n
  ·simp [hj, Nat.mod_one]
  ·simp [hj]
 rw [this]; exact e2
theorem foundTo_snoc {gs gl a1 a2 a3 : Int} {l0 : List S66} {l4 : List (List S27)} {i : Nat} (pre : List (Fin l0.length)) (x : Fin l0.length) (c : Int) : foundTo gs gl a1 a2 a3 l0 l4 i (pre ++ [x]) c = (foundTo gs gl a1 a2 a3 l0 l4 i pre c || rowHit gs gl a1 a2 a3 l0 l4 i x.1 (rd_T66 l0 (x.1 : Int)).f1.length c) := by
 simp [foundTo, List.any_append]
theorem w64 (n : Int) : wrap64 n = IntKind.i64.wrap n := by
 simp only [IntKind.wrap, IntKind.bits, IntKind.signed, wrap64]; simp; split <;> omega
theorem make104 (W : World) (n : Nat) (hn : n ≤ 8) : (Instr.makeSlice 104 (.int .i64 (n : Int)) (.int .i64 (n : Int))).run Try.prog W = .ok (.slice (some ⟨W.heap.size, 0, none⟩) n n) (W.alloc (.cells (madeCells #[.slice none 0 0] n) 88)) := by
 obtain ⟨i, h1, h2, h3, h4⟩ := info_parts (P := Try.prog) (e := 88) (z := .slice none 0 0) (size := 1) (bytes := 24) (by kernel_rfl); have h := run_makeSlice (P := Try.prog) W 104 88 i (.slice none 0 0) Try.underlying104 h1 h2 .i64 .i64 n n (by omega) (by omega) (by rw [h3]; omega) (by rw [h4]; omega) (by omega); rw [h3] at h; rw [show (Value.slice none 0 0).cells = #[Value.slice none 0 0] from rfl] at h
 simpa using h
def MarksIs (b : Nat) (ds : List Deferred) (W : World) : Prop := (∀ d ∈ ds, ∃ D, d = { target := .collected D, args := #[] } ∧ b ≤ D ∧ W.heap[D]? = some (.deferred (some []))) ∧ ds.Nodup
theorem leaves_marks {C : World → Prop} {b : Nat} (hC : ∀ (W : World) (D : Nat) (o : Obj), C W → b ≤ D → W.heap[D]? = some (.deferred (some [])) → C (W.putObj D o)) {F : Fence} {n : Nat} {P : Program} {fn : Func} {tmps : Array Value} {R : Ending → World → Prop}
 (hend : ∀ W, C W → LeavesIn F n P fn tmps R [] .returning W) : ∀ (ds : List Deferred) (W : World), MarksIs b ds W → C W → LeavesInM F n P fn tmps R ds .returning W
 | [], W, _, h => hend W h
 | d :: ds, W, hm, h => by
  obtain ⟨D, rfl, hb, hD⟩ := hm.1 d (List.mem_cons_self); refine ⟨by simp, .inl ⟨_, _, rfl, run_takeDeferred hD, ?_⟩⟩; refine leaves_marks hC hend ds _ ⟨fun d' hd' => ?_, (List.nodup_cons.1 hm.2).2⟩ (hC _ _ _ h hb hD); obtain ⟨D', rfl, hb', hD'⟩ := hm.1 d' (List.mem_cons_of_mem _ hd'); refine ⟨D', rfl, hb', ?_⟩
  have hne : D ≠ D' := by
   rintro rfl; exact (List.nodup_cons.1 hm.2).1 hd'
  simp only [World.putObj]; rw [Array.getElem?_setIfInBounds_ne hne]; exact hD'
theorem MarksIs.below {b : Nat} {ds : List Deferred} {W W1 : World} (h : MarksIs b ds W) (hb : Below W.heap.size W W1) : MarksIs b ds W1 :=
 ⟨fun d hd => by
  obtain ⟨D, e, h1, h2⟩ := h.1 d hd
  exact ⟨D, e, h1, (hb.block D (blk_lt h2)).trans h2⟩, h.2⟩
structure RoundMem (w1 : World) (i : Nat) (S : Int → Bool) (N : Nat) (W : World) : Prop where
 sq : W.heap[w1.heap.size]? = some (.cells #[.int .i64 (i : Int)] 3 (0, 0))
 mp : W.heap[w1.heap.size + 1 + 1]? = some (.cells #[.map (some (w1.heap.size + 1))] 128 (0, 0))
 set : MapIs W (w1.heap.size + 1) S N
 below : Below w1.heap.size w1 W
theorem RoundMem.kept {w1 : World} {i : Nat} {S : Int → Bool} {N : Nat} {W W' : World} (h : RoundMem w1 i S N W) {row : Option Nat} (hg : W.grownBy W' row) (hr : ∀ r, row = some r → w1.heap.size + 1 + 1 < r) : RoundMem w1 i S N W' := by
 refine ⟨(hg.block _ (blk_lt h.sq) ?_).trans h.sq, (hg.block _ (blk_lt h.mp) ?_).trans h.mp, h.set.kept hg ?_, h.below.grown hg h.below.size (fun j hj => ?_)⟩
 ·intro e; have := hr _ e.symm; omega
 ·intro e; have := hr _ e.symm; omega
 ·intro e; have := hr _ e; omega
 ·have := hr j hj; omega
theorem RoundMem.step {w1 : World} {i : Nat} {S : Int → Bool} {N : Nat} {W W' : World} (h : RoundMem w1 i S N W) (hb : Below W.heap.size W W') : RoundMem w1 i S N W' := h.kept (grown_of_below hb none) (by simp)
structure BodyMem (w1 : World) (i : Nat) (S : Int → Bool) (N bo B0 Bx By : Nat) (m es : List Int) (W wr : World) : Prop where
 rnd : RoundMem w1 i S N wr
 arr : Arr97 wr Bx m
 eac : Arr95 wr By es
 keeps : KeepsFrom B0 W wr
 kp : KpB w1.heap.size bo W wr
theorem BodyMem.step {w1 : World} {i : Nat} {S : Int → Bool} {N bo B0 Bx By : Nat} {m es : List Int} {W wr wn : World} (h : BodyMem w1 i S N bo B0 Bx By m es W wr) (hb : Below wr.heap.size wr wn) : BodyMem w1 i S N bo B0 Bx By m es W wn := by
 have hs := h.rnd.below.size; exact ⟨h.rnd.step hb, h.arr.below hb, h.eac.below hb, h.keeps.trans ((keepsOthers_below hb).from _), h.kp.trans ⟨hb.mono hs, fun o ho _ => (hb.block _ (blk_lt ho)).trans ho⟩⟩
theorem BodyMem.congr {w1 : World} {i : Nat} {S S' : Int → Bool} {N bo B0 Bx By : Nat} {m es : List Int} {W wr : World} (h : BodyMem w1 i S N bo B0 Bx By m es W wr) (he : ∀ c, S c = S' c) : BodyMem w1 i S' N bo B0 Bx By m es W wr :=
 { h with rnd := { h.rnd with set := h.rnd.set.congr he } }
theorem BodyMem.more {w1 : World} {i : Nat} {S : Int → Bool} {N N' bo B0 Bx By : Nat} {m es : List Int} {W wr : World} (h : BodyMem w1 i S N bo B0 Bx By m es W wr) (hn : N ≤ N') : BodyMem w1 i S N' bo B0 Bx By m es W wr :=
 { h with rnd := { h.rnd with set := h.rnd.set.more hn } }
theorem BodyMem.turn {w1 : World} {i : Nat} {S S' : Int → Bool} {N N' bo B0 Bx By : Nat} {m es : List Int} {W wr wn : World} (h : BodyMem w1 i S N bo B0 Bx By m es W wr) (hg : wr.grownBy wn (some (w1.heap.size + 1))) (hm : MapIs wn (w1.heap.size + 1) S' N')
 (hB : w1.heap.size + 1 < B0) (hbo : w1.heap.size + 1 < bo) (hx : w1.heap.size + 1 < Bx) (hy : w1.heap.size + 1 < By) : BodyMem w1 i S' N' bo B0 Bx By m es W wn := by
 have hb : Below w1.heap.size w1 wn := h.rnd.below.grown hg h.rnd.below.size (fun j hj => by cases hj; omega)
 refine ⟨⟨(hg.block _ (blk_lt h.rnd.sq) (by simp)).trans h.rnd.sq, (hg.block _ (blk_lt h.rnd.mp) (by simp)).trans h.rnd.mp, hm, hb⟩, ⟨h.arr.1, (hg.block _ (blk_lt h.arr.2) (by simp; omega)).trans h.arr.2⟩, ⟨h.eac.1, (hg.block _ (blk_lt h.eac.2) (by simp; omega)).trans h.eac.2⟩,
  h.keeps.trans (KeepsFrom.of_grownBy hg (fun j hj => by cases hj; exact hB)), h.kp.trans ⟨?_, fun o ho _ => (hg.block _ (blk_lt ho) (by simp; omega)).trans ho⟩⟩
 have := (Below.refl w1.heap.size wr).grown hg h.rnd.below.size (fun j hj => by cases hj; omega); exact this
theorem wpIn_world {F : Fence} {n : Nat} {P : Program} {c : Code} {Q : Exit → Act → World → Prop} {a : Act} {W : World} (R : World → Prop) (h : R W) (k : ∀ W', R W' → Code.wpIn F n P c Q a W') : Code.wpIn F n P c Q a W := k W h
structure LetMem (w : World) (gs gl : Int) (A0 : Option Addr) (c0 : Nat) (l0 : List S66) (a1 a2 a3 : Int) (A4 : Option Addr) (c4 : Nat) (l4 : List (List S27)) (i : Nat) (ds : List Deferred) (W : World) : Prop where
 given : W.heap[w.heap.size]? = some (.cells #[.int .i64 gs, .int .u8 gl] 100 (0, 0))
 line : W.heap[w.heap.size + 1]? = some (.cells #[.slice A0 l0.length c0, .int .i64 a1, .int .i64 a2, .int .i64 a3, .slice A4 l4.length c4] 25 (0, 0))
 rows : ∃ (cs : Array Value) (fo : Nat → Nat), cs.size = l4.length ∧ W.heap[w.heap.size + 1 + 1]? = some (.cells cs 88 (0, 0)) ∧ (∀ u ∈ cs, u.oneCell' = true) ∧
  ∀ j, j < i → ∃ v, cs[j]? = some v ∧ Kd.R (Kd.int .u8) 5 W w.heap.size (fun k => fo k = j) v (lettersAt gs gl a1 a2 a3 l0 l4 j)
 marks : MarksIs w.heap.size ds W
 below : Below w.heap.size w W
theorem LetMem.step {w : World} {gs gl : Int} {A0 : Option Addr} {c0 : Nat} {l0 : List S66} {a1 a2 a3 : Int} {A4 : Option Addr} {c4 : Nat} {l4 : List (List S27)} {i : Nat} {ds : List Deferred} {W W1 : World}
 (h : LetMem w gs gl A0 c0 l0 a1 a2 a3 A4 c4 l4 i ds W) (hb : Below W.heap.size W W1) : LetMem w gs gl A0 c0 l0 a1 a2 a3 A4 c4 l4 i ds W1 := by
 refine ⟨(hb.block _ (blk_lt h.given)).trans h.given, (hb.block _ (blk_lt h.line)).trans h.line, ?_, h.marks.below hb, below_then h.below h.below.size hb⟩; obtain ⟨cs, fo, h1, h2, h3, h4⟩ := h.rows; refine ⟨cs, fo, h1, (hb.block _ (blk_lt h2)).trans h2, h3, fun j hj => ?_⟩; obtain ⟨v, e, hr⟩ := h4 j hj; exact ⟨v, e, Kd.R_below hr hb⟩
def noPanic (Q : Exit → Act → World → Prop) : Exit → Act → World → Prop
 | .panic _, _, _ => False
 | e, a, w => Q e a w
theorem noPanic_n {Q : Exit → Act → World → Prop} {a : Act} {w : World} (h : Q .normal a w) : noPanic Q .normal a w := h
theorem wp_noPanic {P : Program} {c : Code} {Q : Exit → Act → World → Prop} {a : Act} {w : World} (h : c.wp P (noPanic Q) a w) : c.wp P Q a w :=
 wp_mono h fun e a w h => by
  cases e with
  | panic ch => exact h.elim
  | normal => exact h
  | exit id => exact h
  | goto l => exact h
  | ret => exact h
  | outgrown => exact h
theorem LetMem.next {w : World} {gs gl : Int} {A0 : Option Addr} {c0 : Nat} {l0 : List S66} {a1 a2 a3 : Int} {A4 : Option Addr} {c4 : Nat} {l4 : List (List S27)} {i : Nat} {ds : List Deferred} {w1 Wn : World} {v : Value} {D : Nat}
 (h : LetMem w gs gl A0 c0 l0 a1 a2 a3 A4 c4 l4 i ds w1) (hi : i < l4.length) (hbelow : Below w.heap.size w Wn)
 (hbut : ∀ k, k < w1.heap.size → k ≠ w.heap.size + 1 + 1 → Wn.heap[k]? = w1.heap[k]?)
 (hout : ∀ cs, w1.heap[w.heap.size + 1 + 1]? = some (.cells cs 88 (0, 0)) → Wn.heap[w.heap.size + 1 + 1]? = some (.cells (cs.setIfInBounds i v) 88 (0, 0)))
 (hone : v.oneCell' = true) (hw1 : w.heap.size ≤ w1.heap.size) (hv : Kd.R (Kd.int .u8) 5 Wn w1.heap.size (fun _ => True) v (lettersAt gs gl a1 a2 a3 l0 l4 i)) (hD : Wn.heap[D]? = some (.deferred (some []))) (hDw : w1.heap.size ≤ D) :
 LetMem w gs gl A0 c0 l0 a1 a2 a3 A4 c4 l4 (i + 1) ({ target := .collected D, args := #[] } :: ds) Wn := by
 refine ⟨(hbut _ (blk_lt h.given) (by omega)).trans h.given, (hbut _ (blk_lt h.line) (by omega)).trans h.line, ?_, ⟨fun d hd => ?_, ?_⟩, hbelow⟩
 ·obtain ⟨cs, fo, h1, h2, h3, h4⟩ := h.rows; refine ⟨cs.setIfInBounds i v, fun k => if w1.heap.size ≤ k then i else fo k, by simpa using h1, hout cs h2, fun u hu => ?_, fun j hj => ?_⟩
  ·rw [Array.mem_iff_getElem] at hu; obtain ⟨k, hk, rfl⟩ := hu; rw [Array.getElem_setIfInBounds]
   ·split
    ·exact hone
    ·exact h3 _ (Array.getElem_mem (by simpa using hk))
   ·simpa using hk
  ·by_cases hji : j = i
   ·subst hji; refine ⟨v, by simp [h1, hi], ?_⟩; exact Kd.R_lower (Kd.R_mono (Kd.R_bound hv) (fun k hk => by simp [hk.2.1])) hw1
   ·obtain ⟨u, e, hr⟩ := h4 j (by omega); refine ⟨u, by rw [Array.getElem?_setIfInBounds_ne (fun e => hji e.symm)]; exact e, ?_⟩; have hr1 := Kd.R_bound (Kd.R_types hr h2 (fun q hq => by simp [Kd.int, Kd.scalar] at hq; subst hq; decide))
    exact Kd.R_mono (Kd.R_move hr1 (fun k hk => hbut k hk.2.2.1 hk.1.2)) (fun k hk => by
     have h5 := hk.2.2.1; show (if w1.heap.size ≤ k then i else fo k) = j; rw [if_neg (by omega)]
     exact hk.1.1)
 ·rcases List.mem_cons.1 hd with rfl | hd
  ·exact ⟨D, rfl, Nat.le_trans hw1 hDw, hD⟩
  ·obtain ⟨D', e, h1, h2⟩ := h.marks.1 d hd; refine ⟨D', e, h1, ?_⟩; rw [hbut D' (blk_lt h2) ?_]
   ·exact h2
   ·rintro rfl; obtain ⟨cs, fo, _, h3, _⟩ := h.rows; rw [h3] at h2; cases h2
 ·refine List.nodup_cons.2 ⟨fun hd => ?_, h.marks.2⟩; obtain ⟨D', e, h1, h2⟩ := h.marks.1 _ hd; injection e with e _; injection e with e; subst e; have := blk_lt h2; omega
theorem LetMem.all {w : World} {gs gl : Int} {A0 : Option Addr} {c0 : Nat} {l0 : List S66} {a1 a2 a3 : Int} {A4 : Option Addr} {c4 : Nat} {l4 : List (List S27)} {ds : List Deferred} {W : World}
 (h : LetMem w gs gl A0 c0 l0 a1 a2 a3 A4 c4 l4 l4.length ds W) (h8 : l4.length ≤ 8) : Kd.S (Kd.slice 5 (Kd.int .u8)) 88 W w.heap.size (fun _ => True) (.slice (some ⟨w.heap.size + 1 + 1, 0, none⟩) l4.length l4.length) (lettersP gs gl a1 a2 a3 l0 l4) := by
 obtain ⟨cs, fo, h1, h2, h3, h4⟩ := h.rows; have hlen : (lettersP gs gl a1 a2 a3 l0 l4).length = l4.length := by simp [lettersP]
 obtain ⟨f, hr⟩ := Kd.reps_tag (d := Kd.slice 5 (Kd.int .u8)) (w := W) (base := w.heap.size) (ok := fun k => True ∧ some k ≠ (Value.slice (some ⟨w.heap.size + 1 + 1, 0, none⟩) l4.length l4.length).ownBlock) (xs := lettersP gs gl a1 a2 a3 l0 l4) (inner := cs.toList)
  (fun j k => fo k = j ∧ k ≠ w.heap.size + 1 + 1) (fun i j k e1 e2 => e1.1.symm.trans e2.1) (fun j k e => ⟨trivial, by simp [Value.ownBlock]; exact e.2⟩) (by rw [hlen]; simp [Kd.slice, h1]) (fun j x hx => by
   have hj : j < l4.length := by
    rw [← hlen]; exact (List.getElem?_eq_some_iff.1 hx).1
   obtain ⟨v, e, hv⟩ := h4 j hj
   have hx' : x = lettersAt gs gl a1 a2 a3 l0 l4 j := by
    simp [lettersP, hj] at hx; exact hx.symm
   subst hx'; refine ⟨v, ?_, Kd.R_types hv h2 (fun q hq => by simp [Kd.int, Kd.scalar] at hq; subst hq; decide)⟩; show (cs.toList.drop (j * 1)).take 1 = [v]; (have e' : cs.toList[j]? = some v := by simpa using e); rw [Nat.mul_one]; obtain ⟨hj2, hj3⟩ := List.getElem?_eq_some_iff.1 e'; rw [List.drop_eq_getElem_cons hj2, hj3]
   rfl)
 refine ⟨f, fun _ _ => trivial, cs.toList, ?_, hr⟩; rw [List.length_zipIdx, hlen]; refine ⟨by simp [Kd.tag, Kd.slice, h1], .inr ⟨w.heap.size + 1 + 1, l4.length, cs, rfl, by omega, h2, Nat.le_refl _, by unfold maxLen; omega, by simp [Kd.tag, Kd.slice, h1], ?_⟩⟩; refine List.take_of_length_le ?_; simp [Kd.tag, Kd.slice, h1]
theorem S_putObj {α : Type} {d : Kd α} {e : Nat} {W : World} {base : Nat} {ok : Nat → Prop} {v : Value} {xs : List α} (h : Kd.S d e W base ok v xs) {l : Nat} {o o' : Obj} (hl : W.heap[l]? = some o) (ho : o.isCells = false) : Kd.S d e (W.putObj l o') base ok v xs := by
 obtain ⟨f, h⟩ := h; exact ⟨f, R_putObj h hl ho⟩
end Go.Proofs.Ytihedeofkhapiaa.Pr
end
section
namespace Go.Proofs.Ytihedeofkhapiaa.Pr
open Go.RowKit Go.Shelf Go.Proofs.YtihedeofkhapiaaW.PrintWords Go.Proofs.YtihedeofkhapiaaW.PrintLast Go.Proofs.YtihedeofkhapiaaW.PrintMore
set_option linter.unusedVariables false
set_option linter.unusedSimpArgs false
attribute [local go_sem] Oper.semAt_some
set_option maxRecDepth 100000 in
set_option maxHeartbeats 4000000 in
theorem sight_given_letters.calls (a0_0 : Int) (a0_1 : Int) (A1_0 : Option Addr) (c1_0 : Nat) (l1_0 : List (S66)) (a1_1 : Int) (a1_2 : Int) (a1_3 : Int) (A1_4 : Option Addr) (c1_4 : Nat) (l1_4 : List (List (S27))) (r : List (List Int)) (w : World) (hr1_0 : Kd.C k66 w A1_0 l1_0.length l1_0) (hc1_0 : l1_0.length ≤ c1_0) (hr1_4 : Kd.C (Kd.slice 27 k27) w A1_4 l1_4.length l1_4) (hc1_4 : l1_4.length ≤ c1_4) (h : sight_given_letters.f a0_0 a0_1 l1_0 a1_1 a1_2 a1_3 l1_4 = some r) :
    Calls Try.prog 59 #[.agg #[.int .i64 a0_0, .int .u8 a0_1], .agg #[.slice A1_0 l1_0.length c1_0, .int .i64 a1_1, .int .i64 a1_2, .int .i64 a1_3, .slice A1_4 l1_4.length c1_4]] w fun e w' => ∃ v0_ : Value, e = .returned (v0_) ∧ Kd.S (Kd.slice 5 (Kd.int .u8)) 88 w' w.heap.size (fun _ => True) v0_ r ∧ Below w.heap.size w w' := by
  unfold sight_given_letters.f at h
  by_cases hck : checkP l1_0 a1_1 a1_2 a1_3 l1_4 = 0 ∧ (∀ l ∈ lettersP a0_0 a0_1 a1_1 a1_2 a1_3 l1_0 l1_4, l.length ≤ 12)
  case neg => rw [if_neg hck] at h; cases h
  rw [if_pos hck] at h
  obtain rfl := Option.some.inj h
  obtain ⟨hck, hsh⟩ := hck
  have hv := check_bounds hck
  have HV := Aside0.mk hv
  have HS := Aside0.mk (check_shapes hv.2.2.2.2.1)
  have HSH := Aside0.mk hsh
  have HR0 := Aside0.mk hr1_0
  have HR4 := Aside0.mk hr1_4
  obtain ⟨n, hn⟩ : ∃ n, n = l1_4.length := ⟨_, rfl⟩
  have hmk : ∀ W : World, (Instr.makeSlice 104 (.int .i64 (l1_4.length : Int)) (.int .i64 (l1_4.length : Int))).run Try.prog W = .ok (.slice (some ⟨W.heap.size, 0, none⟩) l1_4.length l1_4.length) (W.alloc (.cells (madeCells #[.slice none 0 0] l1_4.length) 88)) := fun W => make104 W _ hv.2.2.2.1
  clear hv hck hsh h hr1_0 hr1_4 hc1_0 hc1_4
  refine callsIn_wide (n := 10).1 ?_
  refine callsIn_of_wp_marks Try.func59 rfl trivial ?_ rfl
  simp only [Try.ntmps59, List.size_toArray, List.length_cons, List.length_nil, Nat.reduceAdd, Nat.reduceSub, Array.replicate_succ, Array.replicate_zero, List.push_toArray, List.append_toArray, List.nil_append, List.cons_append]
  refine wpIn_wide.2 ?_
  go_wp2_with (fail)
  refine wp_loop_ghost_k (fun gk a W => ∃ (u6 u7 u8 u9 u10 u11 u12 u13 u14 u15 u24 u25 u26 u27 u28 u29 u30 u31 u32 u33 u34 u35 u36 u37 u38 u39 u40 u41 u42 u43 u44 u45 u46 u47 u48 u49 u50 u51 u52 u53 u54 u55 u56 u57 u58 u59 u60 u61 u62 u63 u64 u65 u66 u67 u68 u69 u70 u71 u72 u73 u74 u75 u76 u77 u78 u79 u80 u81 u82 u83 u84 u85 u86 u87 u88 u89 u90 u91 u92 u93 u94 u95 u96 u97 u98 u99 u100 u101 u102 u103 u104 u105 u106 u107 u108 : Value) (i : Nat) (ds : List Deferred), gk + i = l1_4.length ∧ a = { tmps := #[.agg #[.int .i64 a0_0, .int .u8 a0_1], .agg #[.slice A1_0 l1_0.length c1_0, .int .i64 a1_1, .int .i64 a1_2, .int .i64 a1_3, .slice A1_4 l1_4.length c1_4], .pointer (some ⟨w.heap.size, 0, none⟩), .pointer (some ⟨w.heap.size + 1, 0, none⟩), .slice none 0 0, .slice (some ⟨w.heap.size + 1 + 1, 0, none⟩) l1_4.length l1_4.length, u6, u7, u8, u9, u10, u11, u12, u13, u14, u15, .pointer (some ⟨w.heap.size + 1, 4, none⟩), .slice A1_4 l1_4.length c1_4, .int .i64 l1_4.length, .slice (some ⟨w.heap.size + 1 + 1, 0, none⟩) l1_4.length l1_4.length, .pointer (some ⟨w.heap.size + 1, 4, none⟩), .slice A1_4 l1_4.length c1_4, .int .i64 l1_4.length, .int .i64 i, u24, u25, u26, u27, u28, u29, u30, u31, u32, u33, u34, u35, u36, u37, u38, u39, u40, u41, u42, u43, u44, u45, u46, u47, u48, u49, u50, u51, u52, u53, u54, u55, u56, u57, u58, u59, u60, u61, u62, u63, u64, u65, u66, u67, u68, u69, u70, u71, u72, u73, u74, u75, u76, u77, u78, u79, u80, u81, u82, u83, u84, u85, u86, u87, u88, u89, u90, u91, u92, u93, u94, u95, u96, u97, u98, u99, u100, u101, u102, u103, u104, u105, u106, u107, u108], defers := ds } ∧ Aside0 (LetMem w a0_0 a0_1 A1_0 c1_0 l1_0 a1_1 a1_2 a1_3 A1_4 c1_4 l1_4 i ds W)) l1_4.length ?start ?round
  case start =>
    refine ⟨_, _, _, _, _, _, _, _, _, _, _, _, _, _, _, _, _, _, _, _, _, _, _, _, _, _, _, _, _, _, _, _, _, _, _, _, _, _, _, _, _, _, _, _, _, _, _, _, _, _, _, _, _, _, _, _, _, _, _, _, _, _, _, _, _, _, _, _, _, _, _, _, _, _, _, _, _, _, _, _, _, _, _, _, _, _, _, _, _, _, _, _, _, _, _, 0, [], by omega, rfl, ⟨⟨?_, ?_, ⟨madeCells #[.slice none 0 0] l1_4.length, fun _ => 0, size_madeCells _ _, ?_, ?_, fun j hj => absurd hj (by omega)⟩, ⟨fun d hd => (by cases hd), List.nodup_nil⟩, ?_⟩⟩⟩
    · exact blk_alloc (blk_alloc (heap_alloc_new w _) _) _
    · refine blk_alloc ?_ _
      have := heap_alloc_new (w.alloc (.cells #[.int .i64 a0_0, .int .u8 a0_1] 100)) (.cells #[.slice A1_0 l1_0.length c1_0, .int .i64 a1_1, .int .i64 a1_2, .int .i64 a1_3, .slice A1_4 l1_4.length c1_4] 25)
      rwa [World.size_alloc] at this
    · have := heap_alloc_new ((w.alloc (.cells #[.int .i64 a0_0, .int .u8 a0_1] 100)).alloc (.cells #[.slice A1_0 l1_0.length c1_0, .int .i64 a1_1, .int .i64 a1_2, .int .i64 a1_3, .slice A1_4 l1_4.length c1_4] 25)) (.cells (madeCells #[.slice none 0 0] l1_4.length) 88)
      rwa [World.size_alloc, World.size_alloc] at this
    · intro u hu
      simp [madeCells] at hu
      obtain ⟨k, _, rfl⟩ := hu
      rw [Nat.mod_one]
      rfl
    · exact below_alloc (below_alloc (below_alloc (Below.refl _ _) _) _) _
  case round =>
    intro gk a w1 hinv
    obtain ⟨u6, hinv⟩ := hinv
    obtain ⟨u7, hinv⟩ := hinv
    obtain ⟨u8, hinv⟩ := hinv
    obtain ⟨u9, hinv⟩ := hinv
    obtain ⟨u10, hinv⟩ := hinv
    obtain ⟨u11, hinv⟩ := hinv
    obtain ⟨u12, hinv⟩ := hinv
    obtain ⟨u13, hinv⟩ := hinv
    obtain ⟨u14, hinv⟩ := hinv
    obtain ⟨u15, hinv⟩ := hinv
    obtain ⟨u24, hinv⟩ := hinv
    obtain ⟨u25, hinv⟩ := hinv
    obtain ⟨u26, hinv⟩ := hinv
    obtain ⟨u27, hinv⟩ := hinv
    obtain ⟨u28, hinv⟩ := hinv
    obtain ⟨u29, hinv⟩ := hinv
    obtain ⟨u30, hinv⟩ := hinv
    obtain ⟨u31, hinv⟩ := hinv
    obtain ⟨u32, hinv⟩ := hinv
    obtain ⟨u33, hinv⟩ := hinv
    obtain ⟨u34, hinv⟩ := hinv
    obtain ⟨u35, hinv⟩ := hinv
    obtain ⟨u36, hinv⟩ := hinv
    obtain ⟨u37, hinv⟩ := hinv
    obtain ⟨u38, hinv⟩ := hinv
    obtain ⟨u39, hinv⟩ := hinv
    obtain ⟨u40, hinv⟩ := hinv
    obtain ⟨u41, hinv⟩ := hinv
    obtain ⟨u42, hinv⟩ := hinv
    obtain ⟨u43, hinv⟩ := hinv
    obtain ⟨u44, hinv⟩ := hinv
    obtain ⟨u45, hinv⟩ := hinv
    obtain ⟨u46, hinv⟩ := hinv
    obtain ⟨u47, hinv⟩ := hinv
    obtain ⟨u48, hinv⟩ := hinv
    obtain ⟨u49, hinv⟩ := hinv
    obtain ⟨u50, hinv⟩ := hinv
    obtain ⟨u51, hinv⟩ := hinv
    obtain ⟨u52, hinv⟩ := hinv
    obtain ⟨u53, hinv⟩ := hinv
    obtain ⟨u54, hinv⟩ := hinv
    obtain ⟨u55, hinv⟩ := hinv
    obtain ⟨u56, hinv⟩ := hinv
    obtain ⟨u57, hinv⟩ := hinv
    obtain ⟨u58, hinv⟩ := hinv
    obtain ⟨u59, hinv⟩ := hinv
    obtain ⟨u60, hinv⟩ := hinv
    obtain ⟨u61, hinv⟩ := hinv
    obtain ⟨u62, hinv⟩ := hinv
    obtain ⟨u63, hinv⟩ := hinv
    obtain ⟨u64, hinv⟩ := hinv
    obtain ⟨u65, hinv⟩ := hinv
    obtain ⟨u66, hinv⟩ := hinv
    obtain ⟨u67, hinv⟩ := hinv
    obtain ⟨u68, hinv⟩ := hinv
    obtain ⟨u69, hinv⟩ := hinv
    obtain ⟨u70, hinv⟩ := hinv
    obtain ⟨u71, hinv⟩ := hinv
    obtain ⟨u72, hinv⟩ := hinv
    obtain ⟨u73, hinv⟩ := hinv
    obtain ⟨u74, hinv⟩ := hinv
    obtain ⟨u75, hinv⟩ := hinv
    obtain ⟨u76, hinv⟩ := hinv
    obtain ⟨u77, hinv⟩ := hinv
    obtain ⟨u78, hinv⟩ := hinv
    obtain ⟨u79, hinv⟩ := hinv
    obtain ⟨u80, hinv⟩ := hinv
    obtain ⟨u81, hinv⟩ := hinv
    obtain ⟨u82, hinv⟩ := hinv
    obtain ⟨u83, hinv⟩ := hinv
    obtain ⟨u84, hinv⟩ := hinv
    obtain ⟨u85, hinv⟩ := hinv
    obtain ⟨u86, hinv⟩ := hinv
    obtain ⟨u87, hinv⟩ := hinv
    obtain ⟨u88, hinv⟩ := hinv
    obtain ⟨u89, hinv⟩ := hinv
    obtain ⟨u90, hinv⟩ := hinv
    obtain ⟨u91, hinv⟩ := hinv
    obtain ⟨u92, hinv⟩ := hinv
    obtain ⟨u93, hinv⟩ := hinv
    obtain ⟨u94, hinv⟩ := hinv
    obtain ⟨u95, hinv⟩ := hinv
    obtain ⟨u96, hinv⟩ := hinv
    obtain ⟨u97, hinv⟩ := hinv
    obtain ⟨u98, hinv⟩ := hinv
    obtain ⟨u99, hinv⟩ := hinv
    obtain ⟨u100, hinv⟩ := hinv
    obtain ⟨u101, hinv⟩ := hinv
    obtain ⟨u102, hinv⟩ := hinv
    obtain ⟨u103, hinv⟩ := hinv
    obtain ⟨u104, hinv⟩ := hinv
    obtain ⟨u105, hinv⟩ := hinv
    obtain ⟨u106, hinv⟩ := hinv
    obtain ⟨u107, hinv⟩ := hinv
    obtain ⟨u108, hinv⟩ := hinv
    obtain ⟨i, ds, hgi, ha, hM⟩ := hinv
    subst ha
    intro J K hJ hK
    try dsimp only
    clear hmk
    cases gk with
    | zero =>
      obtain rfl : i = l1_4.length := by omega
      have c1 : decide (l1_4.length < l1_4.length) = false := by simp
      go_wp2_with (fail)
      refine leaves_marks (C := fun W => Kd.S (Kd.slice 5 (Kd.int .u8)) 88 W w.heap.size (fun _ => True) (.slice (some ⟨w.heap.size + 1 + 1, 0, none⟩) l1_4.length l1_4.length) (lettersP a0_0 a0_1 a1_1 a1_2 a1_3 l1_0 l1_4) ∧ Below w.heap.size w W) (b := w.heap.size)
        ?_ ?_ ds w1 hM.out.marks ⟨LetMem.all hM.out HV.out.2.2.2.1, hM.out.below⟩
      · exact fun W D o h hb hD => ⟨S_putObj h.1 hD rfl, h.2.trans (belowK_b (w := w) (Nat.le_refl _) W D _ _ hb hD rfl rfl)⟩
      · intro W h
        exact ⟨_, results_tmp (show Try.f59.results = #[ResultVar.tmp 4] from rfl) _ _ _, _, rfl, h.1, h.2⟩
    | succ g0 =>
      have c1 : decide (i < l1_4.length) = true := by simp; omega
      have hlt : w.heap.size + 1 < w1.heap.size := blk_lt hM.out.line
      have hmm := @run_makeMap Try.prog
      go_upto_region 6 with (fail)
      refine wp_world (fun W => RoundMem w1 i (fun _ => false) 0 W) ?_ ?_
      · refine ⟨?_, ?_, ⟨DataW.map [], 0, ?_, Nat.le_refl _, fun c => rfl⟩, below_alloc (below_alloc (below_alloc (Below.refl _ _) _) _) _⟩
        · exact blk_alloc (blk_alloc (heap_alloc_new w1 _) _) _
        · have := heap_alloc_new ((w1.alloc (.cells #[.int .i64 (i : Int)] 3)).alloc (.map #[] 0)) (.cells #[.map (some (w1.heap.size + 1))] 128)
          rwa [World.size_alloc, World.size_alloc] at this
        · have := World.ownsMap_made (H := Unit) (w1.alloc (.cells #[.int .i64 (i : Int)] 3)) Try.prog 5 (plainElem (H := Unit) Try.prog 4)
          rw [World.size_alloc] at this
          exact this.alloc _
      intro W hR
      have HR := Aside0.mk hR
      have HM := Aside0.mk (hM.out.step (hR.below))
      clear hR hmm hlt
      have hz0 : W.cell? ⟨w.heap.size + 1, 0, none⟩ = some (.slice A1_0 l1_0.length c1_0) := (blk_cell HM.out.line 0).trans rfl
      have hz1 : W.cell? ⟨w.heap.size + 1, 1, none⟩ = some (.int .i64 a1_1) := (blk_cell HM.out.line 1).trans rfl
      have hz2 : W.cell? ⟨w.heap.size + 1, 2, none⟩ = some (.int .i64 a1_2) := (blk_cell HM.out.line 2).trans rfl
      have hz3 : W.cell? ⟨w.heap.size + 1, 3, none⟩ = some (.int .i64 a1_3) := (blk_cell HM.out.line 3).trans rfl
      have hz4 : W.cell? ⟨w.heap.size + 1, 4, none⟩ = some (.slice A1_4 l1_4.length c1_4) := (blk_cell HM.out.line 4).trans rfl
      go_wp2_with (fail)
      refine (callsIn_wide (n := 9).1 (hands_in 9 _ _ _ _ _ _ _ _ _ _)).mono ?_
      rintro e w2 ⟨rfl, rfl⟩
      have HRL := Aside0.mk (HR.out.step (below_alloc (Below.refl _ _) (.cells #[.slice A1_0 l1_0.length c1_0, .int .i64 a1_1, .int .i64 a1_2, .int .i64 a1_3, .slice A1_4 l1_4.length c1_4] 25)))
      have bL := heap_alloc_new W (.cells #[.slice A1_0 l1_0.length c1_0, .int .i64 a1_1, .int .i64 a1_2, .int .i64 a1_3, .slice A1_4 l1_4.length c1_4] 25)
      have hB0 := below_alloc HM.out.below (.cells #[.slice A1_0 l1_0.length c1_0, .int .i64 a1_1, .int .i64 a1_2, .int .i64 a1_3, .slice A1_4 l1_4.length c1_4] 25)
      have hsz : (W.alloc (.cells #[.slice A1_0 l1_0.length c1_0, .int .i64 a1_1, .int .i64 a1_2, .int .i64 a1_3, .slice A1_4 l1_4.length c1_4] 25)).heap.size = W.heap.size + 1 := by simp
      have hlt1 : w1.heap.size + 1 + 1 < W.heap.size := blk_lt HR.out.mp
      have hlt0 : w.heap.size + 1 + 1 < w1.heap.size := by
        obtain ⟨cs, fo, _, h2, _⟩ := hM.out.rows
        exact blk_lt h2
      obtain ⟨bo, hbo⟩ : ∃ bo, bo = W.heap.size := ⟨_, rfl⟩
      rw [← hbo] at bL hsz hlt1 ⊢
      obtain ⟨W0, hW0⟩ : ∃ W0, W0 = (W.alloc (.cells #[.slice A1_0 l1_0.length c1_0, .int .i64 a1_1, .int .i64 a1_2, .int .i64 a1_3, .slice A1_4 l1_4.length c1_4] 25)) := ⟨_, rfl⟩
      rw [← hW0] at HRL bL hsz hB0 ⊢
      clear hW0 hz0 hz1 hz2 hz3 hz4 hbo HR HM
      go_wp2_with (fail)
      refine (wpIn_wide (n := 10)).1 ?_
      refine wpIn_rangeFunc_ownH (n := 10) rfl (by omega) (gf := 73) (lb := #[.pointer (some ⟨bo, 0, none⟩)]) rfl trivial (enters_of Try.func73 (by kernel_rfl) rfl)
        (hands_stops 9 (by omega) bo w1.heap.size A1_0 c1_0 l1_0 a1_1 a1_2 a1_3 A1_4 c1_4 l1_4 HV.out.2.2.2.1 HS.out w W0 (by omega) HR0.out HR4.out hB0 (by omega) bL) KpB_t (KpB_b (by omega)) (Below.refl _ _) (fun _ => rfl)
        (fun pre W => RoundMem w1 i (foundTo a0_0 a0_1 a1_1 a1_2 a1_3 l1_0 l1_4 i pre) (8 * pre.length) W ∧ bo < W.heap.size)
        (fun _ _ _ => False)
        (fun pre A B row hs hg hr => ⟨hs.1.kept hg (fun r e => by have := (hr r e).1; omega), Nat.lt_of_lt_of_le hs.2 hg.size⟩)
        (fun _ _ _ _ _ hs _ _ => hs)
        ⟨HRL.out, by omega⟩
        (fun x a' W => ∃ Bx, bo < Bx ∧ Arr97 W Bx (needsHand a1_1 a1_2 l1_0 l1_4 x.1) ∧ a' = { tmps := #[.agg #[.int .i64 a0_0, .int .u8 a0_1], .agg #[.slice A1_0 l1_0.length c1_0, .int .i64 a1_1, .int .i64 a1_2, .int .i64 a1_3, .slice A1_4 l1_4.length c1_4], .pointer (some ⟨w.heap.size, 0, none⟩), .pointer (some ⟨w.heap.size + 1, 0, none⟩), .slice none 0 0, .slice (some ⟨w.heap.size + 1 + 1, 0, none⟩) l1_4.length l1_4.length, .pointer (some ⟨w1.heap.size, 0, none⟩), .pointer (some ⟨w1.heap.size + 1 + 1, 0, none⟩), .int .i64 (x.1 : Int), .pointer (some ⟨Bx, 0, none⟩), u10, u11, u12, u13, u14, u15, .pointer (some ⟨w.heap.size + 1, 4, none⟩), .slice A1_4 l1_4.length c1_4, .int .i64 l1_4.length, .slice (some ⟨w.heap.size + 1 + 1, 0, none⟩) l1_4.length l1_4.length, .pointer (some ⟨w.heap.size + 1, 4, none⟩), .slice A1_4 l1_4.length c1_4, .int .i64 l1_4.length, .int .i64 i, .bool true, .int .i64 i, .map (some (w1.heap.size + 1)), .agg #[.slice A1_0 l1_0.length c1_0, .int .i64 a1_1, .int .i64 a1_2, .int .i64 a1_3, .slice A1_4 l1_4.length c1_4], .func (.func 73) #[] #[.pointer (some ⟨bo, 0, none⟩)], .int .i64 (x.1 : Int), .agg (nums .i64 (needsHand a1_1 a1_2 l1_0 l1_4 x.1)).toArray, u31, u32, u33, u34, u35, u36, u37, u38, u39, u40, u41, u42, u43, u44, u45, u46, u47, u48, u49, u50, u51, u52, u53, u54, u55, u56, u57, u58, u59, u60, u61, u62, u63, u64, u65, u66, u67, u68, u69, u70, u71, u72, u73, u74, u75, u76, u77, u78, u79, u80, u81, u82, u83, u84, u85, u86, u87, u88, u89, u90, u91, u92, u93, u94, u95, u96, u97, u98, u99, u100, u101, u102, u103, u104, u105, u106, u107, u108], defers := [] })
        (fun x a' _ X Y row hs hg hr => by obtain ⟨Bx, h1, h2, h3⟩ := hs; exact ⟨Bx, h1, ⟨h2.1, blk_own (β := Unit) Bx _ 97 () X Y row h2.2 hg (fun r e => (hr r e).2)⟩, h3⟩)
        ?assign ?body ?done ?stop
      case assign =>
        rintro l pre x W K ⟨hI, hbW⟩ hK
        dsimp only [encH]
        have hlen := needsTo_length a1_1 a1_2 l1_4 (rd_T66 l1_0 (x.1 : Int)).f1 l1_4.length
        have hin : (Try.prog.info? 97).map (·.size) = some 64 := by kernel_rfl
        have H64 := Aside0.mk (show (nums .i64 (needsHand a1_1 a1_2 l1_0 l1_4 x.1)).toArray.size = 64 by simp [nums, needsHand, hlen])
        have HIN := Aside0.mk hin
        have HA := Aside0.mk (nums_one (needsHand a1_1 a1_2 l1_0 l1_4 x.1))
        have HI := Aside0.mk hI
        have hK2 := Aside0.mk hK
        clear hlen hin hK hI
        gi_wp2_with (refine wpListIn_store_row rfl 97 (.tmp 9) (.tmp 30) rfl W.heap.size _ rfl rfl 97 _ (heap_alloc_new W _) (by rw [H64.out]; exact HIN.out) (by rw [H64.out]; rfl) HA.out ?_)
        rw [alloc_setRow]
        have hW1 := HI.out.below.size
        refine hK2.out _ _ ((KeepsOthers.alloc _ _).from _) ⟨(Below.refl _ W).alloc hW1 _, fun o ho hc => blk_alloc ho _⟩ ⟨HI.out.step (below_alloc (Below.refl _ _) _), by simp; omega⟩ ⟨W.heap.size, hbW, ⟨needsTo_length _ _ _ _ _, heap_alloc_new W _⟩, rfl⟩
      case body =>
        rintro l pre x a' W hl ⟨r, hr⟩ ⟨hI, hbW⟩ ⟨Bx, hBx, bN, rfl⟩ hlt
        have hin : (Try.prog.info? 97).map (·.size) = some 64 := by kernel_rfl
        have hin5 : (Try.prog.info? 95).map (·.size) = some 8 := by kernel_rfl
        have H64 := Aside0.mk (show (nums .i64 (needsHand a1_1 a1_2 l1_0 l1_4 x.1)).toArray.size = 64 by simp [nums, bN.1])
        have HIN := Aside0.mk hin
        have HIN5 := Aside0.mk hin5
        have HI := Aside0.mk hI
        have HN := Aside0.mk bN
        have HM := Aside0.mk (hM.out.step hI.below)
        have HPL := Aside0.mk hlt
        clear hin hin5 hI bN hlt
        have hz0 : W.cell? ⟨w.heap.size + 1, 0, none⟩ = some (.slice A1_0 l1_0.length c1_0) := (blk_cell HM.out.line 0).trans rfl
        have hz1 : W.cell? ⟨w.heap.size + 1, 1, none⟩ = some (.int .i64 a1_1) := (blk_cell HM.out.line 1).trans rfl
        have hz2 : W.cell? ⟨w.heap.size + 1, 2, none⟩ = some (.int .i64 a1_2) := (blk_cell HM.out.line 2).trans rfl
        have hz3 : W.cell? ⟨w.heap.size + 1, 3, none⟩ = some (.int .i64 a1_3) := (blk_cell HM.out.line 3).trans rfl
        have hz4 : W.cell? ⟨w.heap.size + 1, 4, none⟩ = some (.slice A1_4 l1_4.length c1_4) := (blk_cell HM.out.line 4).trans rfl
        have hg0 : W.cell? ⟨w.heap.size, 0, none⟩ = some (.int .i64 a0_0) := (blk_cell HM.out.given 0).trans rfl
        have hg1 : W.cell? ⟨w.heap.size, 1, none⟩ = some (.int .u8 a0_1) := (blk_cell HM.out.given 1).trans rfl
        gi_wp2_with (refine wpListIn_load_row rfl 97 (.tmp 9) rfl Bx rfl 97 _ (0, 0) _ HN.out.2 Try.underlying97 rfl (by rw [H64.out]; exact HIN.out) ?_)
        refine ⟨trivial, (CallsIn.inRound l (callsIn_wide.2 (sums.calls a0_0 a0_1 A1_0 c1_0 l1_0 a1_1 a1_2 a1_3 A1_4 l1_4.length c1_4 x.1 (needsHand a1_1 a1_2 l1_0 l1_4 x.1) W (Kd.C_below HR0.out HM.out.below) x.2 HN.out.1 HV.out.2.2.2.1 (HS.out x.1 x.2)))).mono ?_⟩
        rintro e w2 ⟨rfl, hb⟩
        obtain ⟨es, hes⟩ : ∃ es, es = (sumsTo a0_0 a0_1 (needsHand a1_1 a1_2 l1_0 l1_4 x.1) (rd_T66 l1_0 (x.1 : Int)).f1 l1_4.length).1 := ⟨_, rfl⟩
        obtain ⟨tot, htot⟩ : ∃ tot, tot = (sumsTo a0_0 a0_1 (needsHand a1_1 a1_2 l1_0 l1_4 x.1) (rd_T66 l1_0 (x.1 : Int)).f1 l1_4.length).2 := ⟨_, rfl⟩
        rw [← hes, ← htot]
        have hel : es.length = 8 := by rw [hes]; exact sumsTo_length _ _ _ _ _
        have HE := Aside0.mk (show (nums .i64 es).toArray.size = 8 by simp [nums, hel])
        have HEL := Aside0.mk hel
        have HA := Aside0.mk (nums_one es)
        have HES := Aside0.mk (And.intro hes htot)
        have HB2 := Aside0.mk hb
        have HI2 := Aside0.mk (HI.out.step hb)
        have HN2 := Aside0.mk (HN.out.below hb)
        have HM2 := Aside0.mk (hM.out.step HI2.out.below)
        clear hes htot hel hb hz0 hz1 hz2 hz3 hz4 hg0 hg1
        gi_upto_region 10 with (refine wpListIn_store_row rfl 95 (.tmp 10) (.tmp 37) rfl w2.heap.size _ rfl rfl 95 _ (heap_alloc_new w2 _) (by rw [HE.out]; exact HIN5.out) (by rw [HE.out]; rfl) HA.out ?_; rw [alloc_setRow])
        refine wpIn_world (fun W3 => BodyMem w1 i (foundTo a0_0 a0_1 a1_1 a1_2 a1_3 l1_0 l1_4 i pre) (8 * pre.length) bo W0.heap.size Bx w2.heap.size (needsHand a1_1 a1_2 l1_0 l1_4 x.1) es W W3) ?_ ?_
        · exact ⟨HI2.out.step (below_alloc (Below.refl _ _) _), HN2.out.below (below_alloc (Below.refl _ _) _), ⟨HEL.out, heap_alloc_new w2 _⟩, ((keepsOthers_below HB2.out).trans (KeepsOthers.alloc _ _)).from _,
            ⟨(HB2.out.mono HI.out.below.size).alloc (Nat.le_trans HI.out.below.size HB2.out.size) _, fun o ho _ => blk_alloc ((HB2.out.block _ (blk_lt ho)).trans ho) _⟩⟩
        intro W3 hM3
        have HM3 := Aside0.mk hM3
        have HL3 := Aside0.mk (hM.out.step hM3.rnd.below)
        obtain ⟨By, hBy⟩ : ∃ By, By = w2.heap.size := ⟨_, rfl⟩
        have hByb : w1.heap.size + 1 + 1 < By := by rw [hBy]; exact blk_lt HI2.out.mp
        rw [← hBy] at HM3 ⊢
        clear hM3 HM2 HN2 HI2 HB2 hBy
        have hz0 : W3.cell? ⟨w.heap.size + 1, 0, none⟩ = some (.slice A1_0 l1_0.length c1_0) := (blk_cell HL3.out.line 0).trans rfl
        obtain ⟨ad, A2, c2, e, hx0, hx1, hx2, hl2, hi2⟩ := at_T66 HR0.out x.1 (by omega) (by have := x.2; omega)
        cases e
        rw [Int.toNat_natCast] at hx0 hx1 hx2
        obtain ⟨sh, hsh⟩ : ∃ sh, sh = (rd_T66 l1_0 (x.1 : Int)).f1 := ⟨_, rfl⟩
        rw [← hsh] at hx2 hl2 hi2
        have hx2' := (HL3.out.below.cell (World.block_lt_of_cell? w _ hx2)).trans hx2
        have HI := Aside0.mk hi2
        have HSL := Aside0.mk (show sh.length ≤ 8 by rw [hsh]; exact HS.out x.1 x.2)
        have HSHX := Aside0.mk hsh
        have hxlt := x.2
        clear hx0 hx1 hx2 hi2 hsh
        gi_wp2_with (fail)
        gi_loopg [46] sh.length (fun g v46 wr => ∃ k : Nat, k + g = sh.length ∧ v46 = .int .i64 k ∧ Aside0 (BodyMem w1 i (fun c => foundTo a0_0 a0_1 a1_1 a1_2 a1_3 l1_0 l1_4 i pre c || rowHit a0_0 a0_1 a1_1 a1_2 a1_3 l1_0 l1_4 i x.1 k c) (8 * pre.length + k) bo W0.heap.size Bx By (needsHand a1_1 a1_2 l1_0 l1_4 x.1) es W wr))
        case atStart => exact ⟨0, by omega, rfl, ⟨{ HM3.out with rnd := { HM3.out.rnd with set := HM3.out.rnd.set.congr (fun c => by simp [rowHit]) } }⟩⟩
        case round =>
          clear hz0 hx2' HM3 HL3
          obtain ⟨k, hkg, rfl, HB⟩ := hrel
          cases gk with
          | zero =>
            obtain rfl : k = sh.length := by omega
            gi_wp2_with (fail)
            refine ⟨HB.out.keeps, HB.out.kp, ⟨HB.out.rnd.sq, HB.out.rnd.mp, (HB.out.rnd.set.more ?_).congr ?_, HB.out.rnd.below⟩, Nat.lt_of_lt_of_le hbW HB.out.kp.1.size⟩
            · have := HSL.out
              simp
              omega
            · intro c
              rw [foundTo_snoc, ← HSHX.out]
          | succ g2 =>
            have ck : decide (k < sh.length) = true := by simp; omega
            obtain ⟨bd, e, hx0, hx1⟩ := at_T86 HI.out k (by omega) (by omega)
            cases e
            rw [Int.toNat_natCast] at hx0 hx1
            have HL := Aside0.mk (hM.out.step HB.out.rnd.below)
            replace hx0 := (HL.out.below.cell (World.block_lt_of_cell? w _ hx0)).trans hx0
            replace hx1 := (HL.out.below.cell (World.block_lt_of_cell? w _ hx1)).trans hx1
            obtain ⟨sk, hsk⟩ : ∃ sk, sk = rd_T86 sh (k : Int) := ⟨_, rfl⟩
            rw [← hsk] at hx0 hx1
            have HSK := Aside0.mk hsk
            clear hsk
            have HN' := Aside0.mk hkg
            gi_upto_region 13 with (fail)
            obtain ⟨bs, hbs⟩ : ∃ bs, bs = wr.heap.size := ⟨_, rfl⟩
            refine wpIn_world (fun W4 => BodyMem w1 i (fun c => foundTo a0_0 a0_1 a1_1 a1_2 a1_3 l1_0 l1_4 i pre c || rowHit a0_0 a0_1 a1_1 a1_2 a1_3 l1_0 l1_4 i x.1 k c) (8 * pre.length + k) bo W0.heap.size Bx By (needsHand a1_1 a1_2 l1_0 l1_4 x.1) es W W4 ∧ W4.heap[bs]? = some (.cells #[.int .u8 sk.f0, .int .i64 sk.f1] 86 (0, 0))) ⟨HB.out.step (below_alloc (Below.refl _ _) _), by rw [hbs]; exact heap_alloc_new wr _⟩ ?_
            intro W4 hM4
            have HM4 := Aside0.mk hM4.1
            have HS4 := Aside0.mk hM4.2
            have HL4 := Aside0.mk (hM.out.step hM4.1.rnd.below)
            rw [← hbs]
            clear hM4 HL HB hx0 hx1 hbs hkg
            have hg0 := cell_regrown ((blk_cell HL4.out.given 0).trans rfl : W4.cell? ⟨w.heap.size, 0, none⟩ = some (.int .i64 a0_0))
            have hg1 := cell_regrown ((blk_cell HL4.out.given 1).trans rfl : W4.cell? ⟨w.heap.size, 1, none⟩ = some (.int .u8 a0_1))
            have hz3 := cell_regrown ((blk_cell HL4.out.line 3).trans rfl : W4.cell? ⟨w.heap.size + 1, 3, none⟩ = some (.int .i64 a1_3))
            have hsq := cell_regrown ((blk_cell HM4.out.rnd.sq 0).trans rfl : W4.cell? ⟨w1.heap.size, 0, none⟩ = some (.int .i64 (i : Int)))
            have hs0 := cell_regrown ((blk_cell HS4.out 0).trans rfl : W4.cell? ⟨bs, 0, none⟩ = some (.int .u8 sk.f0))
            have hs1 := cell_regrown ((blk_cell HS4.out 1).trans rfl : W4.cell? ⟨bs, 1, none⟩ = some (.int .i64 sk.f1))
            have hk8 : k < 8 := by have := HSL.out; have := HN'.out; omega
            have hi8 : i < 8 := by have := HV.out.2.2.2.1; omega
            obtain ⟨nv, hnv⟩ : ∃ nv, nv = (needsHand a1_1 a1_2 l1_0 l1_4 x.1).getD (i * 8 + k) 0 := ⟨_, rfl⟩
            obtain ⟨ev, hev⟩ : ∃ ev, ev = es.getD i 0 := ⟨_, rfl⟩
            have hn0 := HM4.out.arr.cell (i * 8 + k) (by omega)
            have he0 := HM4.out.eac.cell i hi8
            rw [← hnv] at hn0
            rw [← hev] at he0
            have hn := cell_regrown hn0
            have he := cell_regrown he0
            have bi : (i : Int) < 8 := by omega
            have bk : (k : Int) < 8 := by omega
            have HNV := Aside0.mk hnv
            have HEV := Aside0.mk hev
            clear hn0 he0 hnv hev
            have HH := Aside0.mk (show hitP a0_0 a0_1 a1_1 a1_2 a1_3 l1_0 l1_4 i x.1 k = (mayP a0_0 a0_1 (i : Int) sk && decide (nv < 1048576) && decide (IntKind.i64.wrap (IntKind.i64.wrap (tot - ev) + nv) ≤ a1_3)) by
              rw [HSK.out, HNV.out, HEV.out, HES.out.1, HES.out.2, HSHX.out, ← w64, ← w64]; rfl)
            cases hmay : mayP a0_0 a0_1 (i : Int) sk with
            | false =>
              refine wpIn_region_belowR (by kernel_rfl) (by kernel_rfl) (by kernel_rfl) ?_
              repeat
                (refine wpQuietIn_step (fun _ _ _ _ => trivial) (fun K hK => ?_)
                 go_simp
                 first
                   | (refine hK _ ?_; clear hK K)
                   | (apply Exists.intro
                      refine ⟨fun _ => ?_, hK _ ?_⟩
                      (refine CallsIn.regrown_of (CallsIn.inRound l (callsIn_wide.2 (may_calls a0_0 a0_1 i sk _))))
                      clear hK K))
              refine wpQuietIn_nil ?_
              rintro _ ⟨p, rfl⟩
              obtain ⟨W5, hW5⟩ : ∃ W5, W5 = Go.Sort.grow (redrawn W4 p.d) p.os := ⟨_, rfl⟩
              have hb5 := below_regrown W4 p.d p.os
              rw [← hW5] at hb5 ⊢
              have HM5 := Aside0.mk (HM4.out.step hb5)
              have HS5 := Aside0.mk ((hb5.block _ (blk_lt HS4.out)).trans HS4.out)
              clear hg0 hg1 hz3 hsq hs0 hs1 hn he hb5 hW5
              have HF := Aside0.mk (show hitP a0_0 a0_1 a1_1 a1_2 a1_3 l1_0 l1_4 i x.1 k = false from HH.out.trans (by simp [hmay]))
              gi_wp2_with (fail)
              gi_roundg g2
              case measure => omega
              case rel => exact ⟨k + 1, by have := HN'.out; omega, by go_num, ⟨(HM5.out.more (by omega)).congr (fun c => by rw [rowHit, HF.out]; simp)⟩⟩
            | true =>
              cases hc1 : decide (nv < 1048576) with
              | false =>
                refine wpIn_region_belowR (by kernel_rfl) (by kernel_rfl) (by kernel_rfl) ?_
                repeat
                  (refine wpQuietIn_step (fun _ _ _ _ => trivial) (fun K hK => ?_)
                   go_simp
                   first
                     | (refine hK _ ?_; clear hK K)
                     | (apply Exists.intro
                        refine ⟨fun _ => ?_, hK _ ?_⟩
                        (refine CallsIn.regrown_of (CallsIn.inRound l (callsIn_wide.2 (may_calls a0_0 a0_1 i sk _))))
                        clear hK K))
                refine wpQuietIn_nil ?_
                rintro _ ⟨p, rfl⟩
                obtain ⟨W5, hW5⟩ : ∃ W5, W5 = Go.Sort.grow (redrawn W4 p.d) p.os := ⟨_, rfl⟩
                have hb5 := below_regrown W4 p.d p.os
                rw [← hW5] at hb5 ⊢
                have HM5 := Aside0.mk (HM4.out.step hb5)
                have HS5 := Aside0.mk ((hb5.block _ (blk_lt HS4.out)).trans HS4.out)
                clear hg0 hg1 hz3 hsq hs0 hs1 hn he hb5 hW5
                have HF := Aside0.mk (show hitP a0_0 a0_1 a1_1 a1_2 a1_3 l1_0 l1_4 i x.1 k = false from HH.out.trans (by simp [hmay, hc1]))
                gi_wp2_with (fail)
                gi_roundg g2
                case measure => omega
                case rel => exact ⟨k + 1, by have := HN'.out; omega, by go_num, ⟨(HM5.out.more (by omega)).congr (fun c => by rw [rowHit, HF.out]; simp)⟩⟩
              | true =>
                cases hc2 : decide (IntKind.i64.wrap (IntKind.i64.wrap (tot - ev) + nv) ≤ a1_3) with
                | false =>
                  refine wpIn_region_belowR (by kernel_rfl) (by kernel_rfl) (by kernel_rfl) ?_
                  repeat
                    (refine wpQuietIn_step (fun _ _ _ _ => trivial) (fun K hK => ?_)
                     go_simp
                     first
                       | (refine hK _ ?_; clear hK K)
                       | (apply Exists.intro
                          refine ⟨fun _ => ?_, hK _ ?_⟩
                          (refine CallsIn.regrown_of (CallsIn.inRound l (callsIn_wide.2 (may_calls a0_0 a0_1 i sk _))))
                          clear hK K))
                  refine wpQuietIn_nil ?_
                  rintro _ ⟨p, rfl⟩
                  obtain ⟨W5, hW5⟩ : ∃ W5, W5 = Go.Sort.grow (redrawn W4 p.d) p.os := ⟨_, rfl⟩
                  have hb5 := below_regrown W4 p.d p.os
                  rw [← hW5] at hb5 ⊢
                  have HM5 := Aside0.mk (HM4.out.step hb5)
                  have HS5 := Aside0.mk ((hb5.block _ (blk_lt HS4.out)).trans HS4.out)
                  clear hg0 hg1 hz3 hsq hs0 hs1 hn he hb5 hW5
                  have HF := Aside0.mk (show hitP a0_0 a0_1 a1_1 a1_2 a1_3 l1_0 l1_4 i x.1 k = false from HH.out.trans (by simp [hmay, hc1, hc2]))
                  gi_wp2_with (fail)
                  gi_roundg g2
                  case measure => omega
                  case rel => exact ⟨k + 1, by have := HN'.out; omega, by go_num, ⟨(HM5.out.more (by omega)).congr (fun c => by rw [rowHit, HF.out]; simp)⟩⟩
                | true =>
                  refine wpIn_region_belowR (by kernel_rfl) (by kernel_rfl) (by kernel_rfl) ?_
                  repeat
                    (refine wpQuietIn_step (fun _ _ _ _ => trivial) (fun K hK => ?_)
                     go_simp
                     first
                       | (refine hK _ ?_; clear hK K)
                       | (apply Exists.intro
                          refine ⟨fun _ => ?_, hK _ ?_⟩
                          (refine CallsIn.regrown_of (CallsIn.inRound l (callsIn_wide.2 (may_calls a0_0 a0_1 i sk _))))
                          clear hK K))
                  refine wpQuietIn_nil ?_
                  rintro _ ⟨p, rfl⟩
                  obtain ⟨W5, hW5⟩ : ∃ W5, W5 = Go.Sort.grow (redrawn W4 p.d) p.os := ⟨_, rfl⟩
                  have hb5 := below_regrown W4 p.d p.os
                  rw [← hW5] at hb5 ⊢
                  have HM5 := Aside0.mk (HM4.out.step hb5)
                  have HS5 := Aside0.mk ((hb5.block _ (blk_lt HS4.out)).trans HS4.out)
                  clear hg0 hg1 hz3 hsq hs0 hs1 hn he hb5 hW5
                  have HF := Aside0.mk (show hitP a0_0 a0_1 a1_1 a1_2 a1_3 l1_0 l1_4 i x.1 k = true from HH.out.trans (by simp [hmay, hc1, hc2]))
                  obtain ⟨D, nn, hown, hnn, hhas⟩ := HM5.out.rnd.set
                  have hlet := check_letter HV.out.2.2.2.2.1 x.1 k hxlt (by rw [← HSHX.out]; have := HN'.out; omega)
                  rw [← HSHX.out, ← HSK.out] at hlet
                  have hkey : keyOf Try.prog 5 (.int .u8 sk.f0) = some (.int .u8 sk.f0) := by
                    have hwf : (Lit.int .u8 sk.f0).wf = true := by
                      have e1 : IntKind.u8.min = 0 := rfl
                      have e2 : IntKind.u8.max = 255 := rfl
                      simp only [Lit.wf, e1, e2]
                      simp
                      omega
                    simp [keyOf, mapKey, Try.underlying5, hwf]
                  have hmx : nn < maxLen := by
                    have := HPL.out; have := HV.out.2.1; have := HSL.out; unfold maxLen; omega
                  have HOWN := Aside0.mk hown
                  have HHAS := Aside0.mk hhas
                  have hq := (blk_cell HM5.out.rnd.mp 0).trans rfl
                  have hs0 : W5.cell? ⟨bs, 0, none⟩ = some (.int .u8 sk.f0) := (blk_cell HS5.out 0).trans rfl
                  have hmp : W5.cell? ⟨w1.heap.size + 1 + 1, 0, none⟩ = some (.map (some (w1.heap.size + 1))) := hq
                  clear hown hhas hq
                  gi_wp2_with (refine wpListIn_mapUpdate_own W5 rfl (.tmp 79) (.tmp 81) (.const (.bool true)) 128 rfl 5 4 (Maps.int_keyed Try.underlying5) Try.underlying128 (plainElem Try.prog 4) (w1.heap.size + 1) nn D rfl HOWN.out hmx (.int .u8 sk.f0) (.bool true) (.int .u8 sk.f0) rfl rfl hkey (.lit (.bool true)) [] (plainElem_bool Try.underlying4 true) ?_; intro w6 r1 r2; have R1 := Aside0.mk r1; have R2 := Aside0.mk r2; clear r1 r2)
                  gi_roundg g2
                  case measure => omega
                  case rel =>
                    refine ⟨k + 1, by have := HN'.out; omega, by go_num, ⟨(HM5.out.turn R2.out (MapIs.put R1.out HOWN.out.isMap (show nn + 1 ≤ 8 * pre.length + (k + 1) by omega) HHAS.out) (by omega) (by omega) (by omega) (by omega)).congr (fun c => ?_)⟩⟩
                    rw [rowHit, HF.out, ← HSHX.out, ← HSK.out]
                    simp [Bool.or_assoc]
      case done =>
        rintro D ys W hD rfl ⟨hR, hbW⟩ hKD
        obtain ⟨DD, nn, hown, hnn, hhas⟩ := hR.set
        have HOWN := Aside0.mk hown
        have HHAS := Aside0.mk hhas
        have HNN := Aside0.mk (show nn ≤ 8 * l1_0.length by simpa using hnn)
        have HR := Aside0.mk hR
        have HKD := Aside0.mk hKD
        have hmp : W.cell? ⟨w1.heap.size + 1 + 1, 0, none⟩ = some (.map (some (w1.heap.size + 1))) := (blk_cell hR.mp 0).trans rfl
        have HDS := Aside0.mk (show w1.heap.size ≤ D by omega)
        clear hown hhas hnn hR hKD HRL bL hB0 hsz hD
        go_wp2_with (at_range; refine wpList_range_own _ rfl (.tmp 83) 128 rfl 5 4 (Maps.int_keyed Try.underlying5) Try.underlying128 _ (w1.heap.size + 1) nn DD rfl HOWN.out ?_; intro w3 hrg hg3 hs3)
        go_frame
        go_loopg [14] (Maps.size DD) (fun g v14 wr => ∃ (left : Lit → Bool) (ss : List Int), Aside0 (wr.ranges Try.prog 5 (plainElem (H := Unit) Try.prog 4) (w1.heap.size + 1) W.heap.size nn DD left g) ∧ Aside0 (ss.length + g ≤ Maps.size DD) ∧ Aside0 (Kd.R (Kd.int .u8) 5 wr W.heap.size (fun k => k ≠ W.heap.size) v14 ss) ∧ Aside0 (CollU (foundTo a0_0 a0_1 a1_1 a1_2 a1_3 l1_0 l1_4 i (List.finRange l1_0.length)) left ss) ∧ Aside0 (Below W.heap.size W wr) ∧ Aside0 (W.heap.size < wr.heap.size))
        case atStart => exact ⟨_, [], ⟨hrg⟩, ⟨by simp⟩, ⟨Kd.R_nil _ _ _ _ _⟩, ⟨CollU.start HHAS.out⟩, ⟨(Below.refl _ _).grown hg3 (Nat.le_refl _) (fun j hj => by cases hj)⟩, ⟨by omega⟩⟩
        case round =>
          clear hrg hg3 hs3 hmp
          obtain ⟨left, ss, hrg, hcs, hrow, hC, hB, hlt⟩ := hrel
          have hss : ss.length + gk ≤ 32 := by
            have h1 := hcs.out
            have h2 := HOWN.out.size_le
            have h3 := HNN.out
            have h4 := HV.out.2.1
            omega
          go_wp2_with (at_next; refine wpList_next_ranges _ rfl (.tmp 84) rfl 5 (Maps.int_keyed Try.underlying5) (plainElem Try.prog 4) (Value.int .u8) (fun v : Value => v) (fun key kl hk => by obtain ⟨x, e, _⟩ := u8_inv hk; exact ⟨x, e⟩) (fun v y hv => ⟨v, rfl⟩) (w1.heap.size + 1) W.heap.size nn DD left gk rfl hrg.out ?_ ?_)
          · intro hc0 hl0
            obtain ⟨T, hT⟩ : ∃ T, T = lettersAt a0_0 a0_1 a1_1 a1_2 a1_3 l1_0 l1_4 i := ⟨_, rfl⟩
            have hTm : T.length ≤ 12 := HSH.out T (by rw [hT]; exact List.mem_map.2 ⟨i, by simp; omega, rfl⟩)
            have hp : T.Perm ss := by rw [hT]; exact hC.out.perm hl0
            have hsl : ss.length ≤ 12 := by rw [← hp.length_eq]; exact hTm
            have hts : T.Pairwise (· ≤ ·) := by rw [hT]; exact letters_sorted _ _ _ _ _ _ _ _
            have HSORT := Aside0.mk (sort_short (fun k => k ≠ W.heap.size) u14 ss T W wr hB.out hrow.out hsl hts hp)
            have HTT := Aside0.mk hT
            have hms : ∀ X : World, (Instr.makeSlice 88 (.int .i64 (T.length : Int)) (.int .i64 (T.length : Int))).run Try.prog X = .ok (.slice (some ⟨X.heap.size, 0, none⟩) T.length T.length) (X.alloc (.cells (madeCells #[.int .u8 0] T.length) 5)) := fun X => make88 X _ (by omega)
            clear hp hts hsl hT hc0 hl0 hss
            go_upto_region 22 with (go_at_call 79; refine HSORT.out.mono ?_; rintro e w6 ⟨rfl, q1, q2, q3⟩; have Q1 := Aside0.mk q1; have Q2 := Aside0.mk q2; clear q1 q2 q3)
            obtain ⟨A14, c14, rfl⟩ := Kd.R_slice Q1.out
            have HR6 := Aside0.mk (HR.out.step Q2.out)
            have HM6 := Aside0.mk (hM.out.step HR6.out.below)
            obtain ⟨cs, fo, h1, h2, h3, h4⟩ := HM6.out.rows
            have HC6 := Aside0.mk h2
            have hsq : w6.cell? ⟨w1.heap.size, 0, none⟩ = some (.int .i64 (i : Int)) := (blk_cell HR6.out.sq 0).trans rfl
            obtain ⟨uo, hco⟩ : ∃ uo, w6.cell? ⟨w.heap.size + 1 + 1, i, none⟩ = some uo := ⟨_, (blk_cell h2 i).trans (Array.getElem?_eq_getElem (by omega))⟩
            have hfo : w6.frozen? ⟨w.heap.size + 1 + 1, i, none⟩ = false := blk_frozen h2 i
            have hlt6 : w.heap.size + 1 + 1 < w6.heap.size := blk_lt h2
            have hlt7 : w1.heap.size < w6.heap.size := blk_lt HR6.out.sq
            have hi4 : i < l1_4.length := by omega
            have hi5 : (i : Int) < (l1_4.length : Int) := by omega
            clear h1 h2 h3 h4
            refine wp_noPanic ?_
            go_region_with (fail)
            all_goals
              have hV : (w6.setCell ⟨w.heap.size + 1 + 1, i, none⟩ (.slice (some ⟨w6.heap.size, 0, none⟩) T.length T.length)).heap.size = w6.heap.size := by simp
              have hmade := made88 (w6.setCell ⟨w.heap.size + 1 + 1, i, none⟩ (.slice (some ⟨w6.heap.size, 0, none⟩) T.length T.length)) T.length w6.heap.size (by omega) (by rw [hV]; exact Nat.le_refl _)
              rw [hV] at hmade
              have hxo : (((w6.setCell ⟨w.heap.size + 1 + 1, i, none⟩ (.slice (some ⟨w6.heap.size, 0, none⟩) T.length T.length)).alloc (.cells (madeCells #[.int .u8 0] T.length) 5)).drew).heap[w.heap.size + 1 + 1]? = some (.cells (cs.setIfInBounds i (.slice (some ⟨w6.heap.size, 0, none⟩) T.length T.length)) 88 (0, 0)) :=
                blk_drew (blk_alloc (heap_setCell_same w6 _ i _ _ _ HC6.out) _)
              have hxb : ∀ k, k < w6.heap.size → k ≠ w.heap.size + 1 + 1 → (((w6.setCell ⟨w.heap.size + 1 + 1, i, none⟩ (.slice (some ⟨w6.heap.size, 0, none⟩) T.length T.length)).alloc (.cells (madeCells #[.int .u8 0] T.length) 5)).drew).heap[k]? = w6.heap[k]? := fun k hk hne => by
                have e1 := Below.heap_setCell w6 ⟨w.heap.size + 1 + 1, i, none⟩ (.slice (some ⟨w6.heap.size, 0, none⟩) T.length T.length) k hne
                have e2 := (below_alloc (Below.refl _ (w6.setCell ⟨w.heap.size + 1 + 1, i, none⟩ (.slice (some ⟨w6.heap.size, 0, none⟩) T.length T.length))) (.cells (madeCells #[.int .u8 0] T.length) 5)).block k (by rw [hV]; exact hk)
                exact e2.trans e1
              have hxw : Below w.heap.size w (((w6.setCell ⟨w.heap.size + 1 + 1, i, none⟩ (.slice (some ⟨w6.heap.size, 0, none⟩) T.length T.length)).alloc (.cells (madeCells #[.int .u8 0] T.length) 5)).drew) :=
                below_drew (below_alloc (below_set HM6.out.below (by omega)) _)
              have hxR := Kd.R_drew hmade
              have hxs : w6.heap.size < (((w6.setCell ⟨w.heap.size + 1 + 1, i, none⟩ (.slice (some ⟨w6.heap.size, 0, none⟩) T.length T.length)).alloc (.cells (madeCells #[.int .u8 0] T.length) 5)).drew).heap.size := by
                simp [World.drew]
              obtain ⟨X, hX⟩ : ∃ X, X = (((w6.setCell ⟨w.heap.size + 1 + 1, i, none⟩ (.slice (some ⟨w6.heap.size, 0, none⟩) T.length T.length)).alloc (.cells (madeCells #[.int .u8 0] T.length) 5)).drew) := ⟨_, rfl⟩
              rw [← hX] at hxo hxb hxw hxR hxs ⊢
              have hWw := HR.out.below.size
              have hlt0' : w.heap.size + 1 + 1 < w1.heap.size := hlt0
              have hxT : Kd.R (Kd.int .u8) 5 X W.heap.size (fun _ => True) (.slice A14 T.length c14) T := Kd.R_mono (Kd.R_move (Kd.R_bound Q1.out) (fun k hk => hxb k hk.2.2.1 (by have := hk.2.1; omega))) (fun _ _ => trivial)
              have HXC := Aside0.mk (Kd.R_reads' hxT).2.2
              have HXR := Aside0.mk hxR
              have HXB := Aside0.mk hxb
              have HXO := Aside0.mk hxo
              have HXW := Aside0.mk hxw
              have hsq' : X.cell? ⟨w1.heap.size, 0, none⟩ = some (.int .i64 (i : Int)) := (blk_cell ((hxb _ hlt7 (by omega)).trans HR6.out.sq) 0).trans rfl
              have hxv : X.cell? ⟨w.heap.size + 1 + 1, i, none⟩ = some (.slice (some ⟨w6.heap.size, 0, none⟩) T.length T.length) := by
                obtain ⟨cs', fo', g1, g2, _⟩ := HM6.out.rows
                rw [HC6.out] at g2
                injection g2 with g2
                injection g2 with g2
                subst g2
                rw [blk_cell hxo i]
                simp [g1, hi4]
              have hWD : W.heap[D]? = some (.deferred (some [])) := HKD.out
              have HDL := Aside0.mk (show D < w6.heap.size by have := blk_lt hWD; have := Q2.out.size; omega)
              have HXD := Aside0.mk ((hxb D HDL.out (by have := HDS.out; omega)).trans ((Q2.out.block D (blk_lt hWD)).trans hWD))
              clear hV hmade hxo hxb hxw hxR hX hsq hco hfo hxT hWD hms
              refine noPanic_n ?_
              go_wp2_with (refine Kd.R_copy (enc := Value.int .u8) 0 (w0 := X) w6.heap.size rfl (.tmp 104) (.tmp 105) 88 88 5 rfl Try.underlying88 (by kernel_rfl) (.slice (some ⟨w6.heap.size, 0, none⟩) T.length T.length) (List.replicate T.length 0) T A14 T.length c14 (fun k => k = w6.heap.size) rfl rfl HXR.out HXC.out (Below.refl _ _) (Nat.le_of_lt hxs) ?_; intro w8 r8 b8 g8; have R8 := Aside0.mk r8; have B8 := Aside0.mk b8; have G8 := Aside0.mk g8; clear r8 b8 g8)
              have hT8 : List.take (min T.length (List.replicate T.length (0 : Int)).length) T ++ List.drop (min T.length (List.replicate T.length (0 : Int)).length) (List.replicate T.length (0 : Int)) = T := by simp
              have r8 := R8.out
              rw [hT8, HTT.out] at r8
              have hx6 : w1.heap.size ≤ w6.heap.size := Nat.le_of_lt hlt7
              rw [wrap_nat i l1_4.length hi4 (by have := HV.out.2.2.2.1; omega)]
              refine Handed.intro g0 (by omega) (hJ _ _ _ ⟨_, _, _, _, _, _, _, _, _, _, _, _, _, _, _, _, _, _, _, _, _, _, _, _, _, _, _, _, _, _, _, _, _, _, _, _, _, _, _, _, _, _, _, _, _, _, _, _, _, _, _, _, _, _, _, _, _, _, _, _, _, _, _, _, _, _, _, _, _, _, _, _, _, _, _, _, _, _, _, _, _, _, _, _, _, _, _, _, _, _, _, _, _, _, _, i + 1, { target := .collected D, args := #[] } :: ds, by omega, rfl, ⟨LetMem.next hM.out hi4 (HXW.out.trans (B8.out.mono (by omega))) (fun k hk hne => (B8.out.block k (by omega)).trans ((HXB.out k (by omega) hne).trans (HR6.out.below.block k hk))) (fun cs' h' => ?_) rfl (by omega) (Kd.R_lower (Kd.R_mono r8 (fun _ _ => trivial)) hx6) ((B8.out.block D HDL.out).trans HXD.out) HDS.out⟩⟩)
              have e6 := (HR6.out.below.block _ hlt0').trans h'
              rw [HC6.out] at e6
              injection e6 with e6
              injection e6 with e6
              subst e6
              have hx9 := HXO.out
              rw [HTT.out] at hx9
              exact (B8.out.block _ hlt6).trans hx9
          · intro x c kl yd yp w4 cnt2 hkey hlk hv hat hrg2 hlt2 hg2 hs2 hen
            obtain ⟨x', ex, rfl, hwf⟩ := u8_inv hkey
            obtain rfl : x = x' := by simpa using ex
            have HX := Aside0.mk (hC.out.step hlk ((HHAS.out x).symm.trans (Maps.has_true_of_atKey hat)) (wf_u8.1 hwf))
            have hbw := hrow.out
            have hnr : ∀ k, u14.ownBlock = some k → k ≠ W.heap.size ∧ W.heap.size ≤ k := fun k e => ⟨((Kd.R_bound hrow.out).1 k e).1, ((Kd.R_bound hrow.out).1 k e).2.1⟩
            have HO := Aside0.mk (Kd.R_grown hrow.out hg2 (fun k hk e => hk (by injection e)))
            have HB4 := Aside0.mk (hB.out.grown hg2 (Nat.le_of_lt hlt.out) (fun j hj => by cases hj; exact Nat.le_refl _))
            have HL4 := Aside0.mk (show W.heap.size < w4.heap.size by rw [hs2]; exact hlt.out)
            have HRG := Aside0.mk hrg2
            have HNR := Aside0.mk hnr
            have HLT := Aside0.mk hlt2
            clear hkey hlk hv hat hrg2 hg2 hs2 hwf hbw hnr hlt2
            go_wp2_with (refine Kd.R_append_row (Value.int .u8) 0 (w0 := W) W.heap.size rfl (.tmp 89) (.tmp 91) 88 5 (.int .u8 0) 1 rfl Try.underlying88 (by kernel_rfl) rfl (by decide) u14 ss [x] (some ⟨w4.heap.size, 0, none⟩) 1 1 (fun k => k ≠ W.heap.size) rfl rfl (fun k hk => by have := HL4.out; simp at hk; omega) (Kd.R_below HO.out (below_alloc (Below.refl _ _) _)) (one_C8 ((World.cell?_alloc_at _ _ _ _ rfl).trans rfl)) (below_alloc HB4.out _) (by have := HL4.out; simp; omega) (by omega) ?_; intro v1 w5 hr5 hb5 hg5 hat5)
            have HRG5 := Aside0.mk ((HRG.out.alloc _).kept hg5 (fun e => by have := (HNR.out _ e.symm).2; omega) (fun e => (HNR.out _ e.symm).1 rfl))
            have hs5 := hg5.size
            go_roundg cnt2
            case measure => exact HLT.out
            case rel => exact ⟨_, ss ++ [x], HRG5, ⟨by have := hcs.out; have := HLT.out; simp; omega⟩, ⟨hr5⟩, HX, ⟨hb5⟩, ⟨by have := HL4.out; simp at hs5; omega⟩⟩
      case stop =>
        rintro D c pre W _ _ h _
        exact h.elim
end Go.Proofs.Ytihedeofkhapiaa.Pr
end
section
namespace Go.Proofs.Ytihedeofkhapiaa.Pr
open Go.RowKit Go.Proofs.YtihedeofkhapiaaW.PrintWords Go.Proofs.YtihedeofkhapiaaW.PrintLast Go.Proofs.YtihedeofkhapiaaW.PrintMore
attribute [local go_sem] max2_int min2_int max_two min_two max_three min_three max_four min_four
set_option linter.unusedVariables false
set_option linter.unusedSimpArgs false
def sight_Letters.l0 : Nat → List ByteArray → List (List Int) → Int → Int → Option (List ByteArray × Int)
 | 0, _, _, _, _ => none
 | k + 1, x6, x19, x20, x21 => if x21 < x20 then (if 0 ≤ x21 then (if x21 < (x19.length : Int) then (if x6.length < 8796093022208 then (sight_Letters.l0 k (x6 ++ [strOfNums (rd_L8 x19 x21)]) x19 x20 (wrap64 (x21 + 1))) else (none)) else (none)) else (none)) else (some (x6, 0))
def sight_Letters.f (k : Nat) (l0_0 : List (S66)) (a0_1 : Int) (a0_2 : Int) (a0_3 : Int) (l0_4 : List (List (S27))) : Option (List ByteArray × Int) := (sight_fitting.f l0_0 a0_1 a0_2 a0_3 l0_4).bind fun bt247 => (if bt247.2 = 0 then ((sight_given_letters.f (-1) 0 l0_0 a0_1 a0_2 a0_3 l0_4).bind fun t251 => (sight_Letters.l0 k ([] : List ByteArray) t251 (t251.length : Int) 0)) else (some (([] : List ByteArray), bt247.2)))
theorem sight_Letters.mono_l : ∀ k, (∀ y0 y1 y2 y3, LeO (sight_Letters.l0 k y0 y1 y2 y3) (sight_Letters.l0 (k + 1) y0 y1 y2 y3))
 | 0 => fun _ _ _ _ r h => by simp [sight_Letters.l0] at h
 | k + 1 => by
  have ih0 := sight_Letters.mono_l k
  ·intro y0 y1 y2 y3; unfold sight_Letters.l0
   repeat' first
   | (with_reducible exact ih0 _ _ _ _)
   | (with_reducible exact LeO.refl _)
   | (with_reducible exact LeO.none _)
   | (with_reducible refine LeO.ite ?_ ?_)
   | (with_reducible refine LeO.bind ?_ (fun _ => ?_))
   | exact ih0 _ _ _ _
   | exact LeO.none _
   | refine LeO.ite ?_ ?_
   | refine LeO.bind ?_ (fun _ => ?_)
theorem sight_Letters.mono : ∀ a0 a1 a2 a3 a4 k, LeO (sight_Letters.f k a0 a1 a2 a3 a4) (sight_Letters.f (k + 1) a0 a1 a2 a3 a4) := by
 intro a0 a1 a2 a3 a4 k; have ih0 := sight_Letters.mono_l k; unfold sight_Letters.f
 repeat' first
  | (with_reducible exact ih0 _ _ _ _)
  | (with_reducible exact LeO.refl _)
  | (with_reducible exact LeO.none _)
  | (with_reducible refine LeO.ite ?_ ?_)
  | (with_reducible refine LeO.bind ?_ (fun _ => ?_))
  | exact ih0 _ _ _ _
  | exact LeO.none _
  | refine LeO.ite ?_ ?_
  | refine LeO.bind ?_ (fun _ => ?_)
set_option maxHeartbeats 8000000 in
set_option maxRecDepth 100000 in
theorem sight_Letters.calls (k : Nat) (A0_0 : Option Addr) (c0_0 : Nat) (l0_0 : List (S66)) (a0_1 : Int) (a0_2 : Int) (a0_3 : Int) (A0_4 : Option Addr) (c0_4 : Nat) (l0_4 : List (List (S27))) (r1 : List ByteArray) (r2 : Int) (w : World) (hr0_0 : Kd.C k66 w A0_0 l0_0.length l0_0) (hc0_0 : l0_0.length ≤ c0_0) (hr0_4 : Kd.C (Kd.slice 27 k27) w A0_4 l0_4.length l0_4) (hc0_4 : l0_4.length ≤ c0_4) (h : sight_Letters.f k l0_0 a0_1 a0_2 a0_3 l0_4 = some (r1, r2)) :
 Calls Try.prog 24 #[.agg #[.slice A0_0 l0_0.length c0_0, .int .i64 a0_1, .int .i64 a0_2, .int .i64 a0_3, .slice A0_4 l0_4.length c0_4]] w fun e w' => ∃ v0_ : Value, e = .returned (.tuple #[v0_, .int .i64 r2]) ∧ Kd.R Kd.string 9 w' w.heap.size (fun _ => True) v0_ r1 ∧ Below w.heap.size w w' := by
 have hu25 := Try.underlying25; have hu100 := Try.underlying100; have HR0_0 := Aside0.mk hr0_0; have HC0_0 := Aside0.mk hc0_0; clear hr0_0 hc0_0; have HR0_4 := Aside0.mk hr0_4; have HC0_4 := Aside0.mk hc0_4; clear hr0_4 hc0_4; have HB := Aside0.mk (Below.refl w.heap.size w); have H : ((sight_fitting.f l0_0 a0_1 a0_2 a0_3 l0_4).bind fun bt247 => (if bt247.2 = 0 then ((sight_given_letters.f (-1) 0 l0_0 a0_1 a0_2 a0_3 l0_4).bind fun t251 => (sight_Letters.l0 k ([] : List ByteArray) t251 (t251.length : Int) 0)) else (some (([] : List ByteArray), bt247.2)))) = some (r1, r2) := h; clear h; replace H := Option.bind_eq_some_iff.mp H; obtain ⟨⟨t247, t250⟩, A20, H⟩ := H; replace H : (if t250 = 0 then ((sight_given_letters.f (-1) 0 l0_0 a0_1 a0_2 a0_3 l0_4).bind fun t251 => (sight_Letters.l0 k ([] : List ByteArray) t251 (t251.length : Int) 0)) else (some (([] : List ByteArray), t250))) = some (r1, r2) := H; have A2 := Aside0.mk A20; clear A20; by_cases c3 : t250 = 0
 ·rw [if_pos c3] at H; have c3b0 : (t250 == 0) = true := beq_iff_eq.mpr c3; have c3b1 : (t250 != 0) = false := bne_eq_false_iff_eq.mpr c3; clear c3; replace H := Option.bind_eq_some_iff.mp H; obtain ⟨t251, A40, H⟩ := H; replace H : (sight_Letters.l0 k ([] : List ByteArray) t251 (t251.length : Int) 0) = some (r1, r2) := H; have A4 := Aside0.mk A40; clear A40; have H' := Aside0.mk H; clear H; go_enter Try.func24, Try.ntmps24; (go_wp2_with (first | ((with_reducible refine gate_dst (N := 1) rfl ?_); refine box_event ?hg (N := 1) ?hd (cs := #[.slice A0_0 l0_0.length c0_0, .int .i64 a0_1, .int .i64 a0_2, .int .i64 a0_3, .slice A0_4 l0_4.length c0_4]) (t := 25) ?hr ?_; (case hd => rfl); (case hg => rfl); (case hr => first | (go_simp; done) | (go_simp; rfl)); intro gb246 hg w5 hbox hb; have n0_ := Aside0.mk (below_step (by repeat (first | (with_reducible first | exact HB.out | apply below_alloc | apply pw_below_drewN | apply below_drew1) | exact HB.out)) hb); have n1_ := Aside0.mk (hbox); have n2_ := Aside0.mk ((by rw [hg]; exact (below_size (by repeat (first | (with_reducible first | exact HB.out | apply below_alloc | apply pw_below_drewN | apply below_drew1) | exact HB.out))) : w.heap.size ≤ gb246)); have n3_ := Aside0.mk ((by rw [hg]; exact (below_size (by repeat (first | (with_reducible first | exact HB.out | apply below_alloc | apply pw_below_drewN | apply below_drew1) | exact HB.out))) : w.heap.size ≤ gb246)); clear HB; have HB := n0_; have BK246 := n1_; have GW246 := n2_; have GE246 := n3_; clear n0_ n1_ n2_ n3_; clear hb hbox hg; have hcz6_0 : w5.cell? ⟨gb246, 0, none⟩ = some (.slice A0_0 l0_0.length c0_0) := (blk_cell BK246.out 0).trans rfl; have hcz6_1 : w5.cell? ⟨gb246, 1, none⟩ = some (.int .i64 a0_1) := (blk_cell BK246.out 1).trans rfl; have hcz6_2 : w5.cell? ⟨gb246, 2, none⟩ = some (.int .i64 a0_2) := (blk_cell BK246.out 2).trans rfl; have hcz6_3 : w5.cell? ⟨gb246, 3, none⟩ = some (.int .i64 a0_3) := (blk_cell BK246.out 3).trans rfl; have hcz6_4 : w5.cell? ⟨gb246, 4, none⟩ = some (.slice A0_4 l0_4.length c0_4) := (blk_cell BK246.out 4).trans rfl; have hfz6_0 := blk_frozen BK246.out 0; have hfz6_1 := blk_frozen BK246.out 1; have hfz6_2 := blk_frozen BK246.out 2; have hfz6_3 := blk_frozen BK246.out 3; have hfz6_4 := blk_frozen BK246.out 4) | ((with_reducible refine gate_callee (f := 58) rfl ?_); refine goesL_ (some 11) rfl rfl Try.func58 (by kernel_rfl) rfl #[.agg #[.slice A0_0 l0_0.length c0_0, .int .i64 a0_1, .int .i64 a0_2, .int .i64 a0_3, .slice A0_4 l0_4.length c0_4]] rfl (by (try simp only [List.map_toArray, List.map_cons, List.map_nil]); first | done | rfl | (simp only [List.length_drop, List.length_take]; rfl)) ?_; (with_reducible refine (sight_fitting.calls _ _ l0_0 a0_1 a0_2 a0_3 _ _ l0_4 t247 t250 _ ?side1 ?side2 ?side3 ?side4 A2.out).mono ?_); (case side1 => repeat (first | exact (Kd.C_below HR0_0.out HB.out) | (with_reducible refine Kd.C_alloc ?_ _) | (with_reducible refine Kd.C_drewN ?_ _) | (with_reducible refine Kd.C_drew ?_))); (case side2 => exact HC0_0.out); (case side3 => repeat (first | exact (Kd.C_below HR0_4.out HB.out) | (with_reducible refine Kd.C_alloc ?_ _) | (with_reducible refine Kd.C_drewN ?_ _) | (with_reducible refine Kd.C_drew ?_))); (case side4 => exact HC0_4.out); rintro e w7 ⟨v248, rfl, ho0, hb⟩; refine ⟨_, rfl, ?_⟩; have n0_ := Aside0.mk (Kd.R_lower ho0 (below_size (by repeat (first | (with_reducible first | exact HB.out | apply below_alloc | apply pw_below_drewN | apply below_drew1 | refine below_set ?_ GE246.out) | exact HB.out)))); have n1_ := Aside0.mk (blk_below (g := gb246) (o := .cells #[.slice A0_0 l0_0.length c0_0, .int .i64 a0_1, .int .i64 a0_2, .int .i64 a0_3, .slice A0_4 l0_4.length c0_4] 25 (0, 0)) (by (with_reducible repeat (first | refine blk_drewN ?_ _ | refine blk_drew ?_ | refine blk_alloc ?_ _)); exact BK246.out) hb); have n2_ := Aside0.mk (below_step (by repeat (first | (with_reducible first | exact HB.out | apply below_alloc | apply pw_below_drewN | apply below_drew1 | refine below_set ?_ GE246.out) | exact HB.out)) hb); clear BK246; clear HB; have HO249 := n0_; have BK246 := n1_; have HB := n2_; clear n0_ n1_ n2_; (try clear hb); (try clear hb2); (try clear hk); (try clear hi); (try clear ho0); have hcz8_0 : w7.cell? ⟨gb246, 0, none⟩ = some (.slice A0_0 l0_0.length c0_0) := (blk_cell BK246.out 0).trans rfl; have hcz8_1 : w7.cell? ⟨gb246, 1, none⟩ = some (.int .i64 a0_1) := (blk_cell BK246.out 1).trans rfl; have hcz8_2 : w7.cell? ⟨gb246, 2, none⟩ = some (.int .i64 a0_2) := (blk_cell BK246.out 2).trans rfl; have hcz8_3 : w7.cell? ⟨gb246, 3, none⟩ = some (.int .i64 a0_3) := (blk_cell BK246.out 3).trans rfl; have hcz8_4 : w7.cell? ⟨gb246, 4, none⟩ = some (.slice A0_4 l0_4.length c0_4) := (blk_cell BK246.out 4).trans rfl; have hfz8_0 := blk_frozen BK246.out 0; have hfz8_1 := blk_frozen BK246.out 1; have hfz8_2 := blk_frozen BK246.out 2; have hfz8_3 := blk_frozen BK246.out 3; have hfz8_4 := blk_frozen BK246.out 4) | ((with_reducible refine gate_callee (f := 59) rfl ?_); refine goesL_ (some 19) rfl rfl Try.func59 (by kernel_rfl) rfl #[.agg #[.int .i64 (-1), .int .u8 0], .agg #[.slice A0_0 l0_0.length c0_0, .int .i64 a0_1, .int .i64 a0_2, .int .i64 a0_3, .slice A0_4 l0_4.length c0_4]] rfl (by (try simp only [List.map_toArray, List.map_cons, List.map_nil]); first | done | rfl | (simp only [List.length_drop, List.length_take]; rfl)) ?_; (with_reducible refine (sight_given_letters.calls (-1) 0 _ _ l0_0 a0_1 a0_2 a0_3 _ _ l0_4 t251 _ ?side1 ?side2 ?side3 ?side4 A4.out).mono ?_); (case side1 => repeat (first | exact (Kd.C_below HR0_0.out HB.out) | (with_reducible refine Kd.C_alloc ?_ _) | (with_reducible refine Kd.C_drewN ?_ _) | (with_reducible refine Kd.C_drew ?_))); (case side2 => exact HC0_0.out); (case side3 => repeat (first | exact (Kd.C_below HR0_4.out HB.out) | (with_reducible refine Kd.C_alloc ?_ _) | (with_reducible refine Kd.C_drewN ?_ _) | (with_reducible refine Kd.C_drew ?_))); (case side4 => exact HC0_4.out); rintro e w9 ⟨v252, rfl, ho0, hb⟩; refine ⟨_, rfl, ?_⟩; have n0_ := Aside0.mk (Kd.R_below (by (with_reducible repeat (first | apply Kd.R_alloc | apply Kd.R_drewN | apply Kd.R_drew)); exact HO249.out) hb); have n1_ := Aside0.mk (Kd.S_lower ho0 (below_size (by repeat (first | (with_reducible first | exact HB.out | apply below_alloc | apply pw_below_drewN | apply below_drew1 | refine below_set ?_ GE246.out) | exact HB.out)))); have n2_ := Aside0.mk (blk_below (g := gb246) (o := .cells #[.slice A0_0 l0_0.length c0_0, .int .i64 a0_1, .int .i64 a0_2, .int .i64 a0_3, .slice A0_4 l0_4.length c0_4] 25 (0, 0)) (by (with_reducible repeat (first | refine blk_drewN ?_ _ | refine blk_drew ?_ | refine blk_alloc ?_ _)); exact BK246.out) hb); have n3_ := Aside0.mk (below_step (by repeat (first | (with_reducible first | exact HB.out | apply below_alloc | apply pw_below_drewN | apply below_drew1 | refine below_set ?_ GE246.out) | exact HB.out)) hb); clear HO249; clear BK246; clear HB; have HO249 := n0_; have HO253 := n1_; have BK246 := n2_; have HB := n3_; clear n0_ n1_ n2_ n3_; (try clear hb); (try clear hb2); (try clear hk); (try clear hi); (try clear ho0); obtain ⟨Ao10, co10, eo10⟩ := Kd.S_slice HO253.out; subst eo10))); (go_loopg [6, 21] k (fun kq v6 v21 w' => ∃ (x6_1 : List ByteArray) (x21_1 : Int), v21 = .int .i64 x21_1 ∧ Aside0 (sight_Letters.l0 kq x6_1 t251 (t251.length : Int) x21_1 = some (r1, r2)) ∧ Aside0 (kq ≤ k) ∧ Aside0 (Kd.R Kd.string 9 w' w.heap.size (fun _ => True) v6 x6_1) ∧ Aside0 (Kd.S (Kd.slice 5 (Kd.int .u8)) 88 w' w.heap.size (fun _ => True) (.slice Ao10 t251.length co10) t251) ∧ Aside0 (w'.heap[gb246]? = some (.cells #[(.slice A0_0 l0_0.length c0_0), .int .i64 a0_1, .int .i64 a0_2, .int .i64 a0_3, (.slice A0_4 l0_4.length c0_4)] 25 (0, 0))) ∧ Aside0 (Below w.heap.size w w'))); case atStart => exact ⟨(([] : List ByteArray)), (0), (by first | rfl | (simp; done) | (simp [*]; done)), H', ⟨Nat.le_refl _⟩, ⟨by first | exact Kd.R_nil _ _ _ _ _ | exact Kd.N_nil _ _ _ _ _ | exact Kd.V_nil _ _ _ _ _ | exact Kd.Q_nil _ _ _ _ _ | exact Kd.S_nil _ _ _ _ _⟩, ⟨by (with_reducible repeat (first | apply Kd.S_alloc | apply Kd.S_drewN | apply Kd.S_drew)); exact HO253.out⟩, ⟨by (with_reducible repeat (first | refine blk_drewN ?_ _ | refine blk_drew ?_ | refine blk_alloc ?_ _)); exact BK246.out⟩, ⟨by repeat (first | (with_reducible first | exact HB.out | apply below_alloc | apply pw_below_drewN | apply below_drew1 | refine below_set ?_ GE246.out) | exact HB.out)⟩⟩
  case round =>
   clear H'; (try clear c2); (try clear p2); (try clear c3); (try clear c3b0); (try clear c3b1); (try clear c5); (try clear hcz6_0); (try clear hcz6_1); (try clear hcz6_2); (try clear hcz6_3); (try clear hcz6_4); (try clear hcz8_0); (try clear hcz8_1); (try clear hcz8_2); (try clear hcz8_3); (try clear hcz8_4); (try clear hfz6_0); (try clear hfz6_1); (try clear hfz6_2); (try clear hfz6_3); (try clear hfz6_4); (try clear hfz8_0); (try clear hfz8_1); (try clear hfz8_2); (try clear hfz8_3); (try clear hfz8_4); obtain ⟨x6_1, x21_1, rfl, HA, HK1, HO_6, HO_19, BK246, HB⟩ := hrel
   cases gk with
   | zero => exact absurd HA.out (by simp [sight_Letters.l0])
   | succ k1 =>
    have H := HA.out; clear HA; simp only [sight_Letters.l0] at H; by_cases c11 : x21_1 < (t251.length : Int)
    ·rw [if_pos c11] at H; have c11b0 : decide (x21_1 < (t251.length : Int)) = true := decide_eq_true c11; clear c11; by_cases c12 : 0 ≤ x21_1
     ·rw [if_pos c12] at H; have c12b0 : decide (0 ≤ x21_1) = true := decide_eq_true c12; clear c12; by_cases c13 : x21_1 < (t251.length : Int)
      ·rw [if_pos c13] at H; have c13b0 : decide (x21_1 < (t251.length : Int)) = true := decide_eq_true c13; clear c13; by_cases c14 : x6_1.length < 8796093022208
       ·rw [if_pos c14] at H; have LMc14 := Aside0.mk c14; clear c14; obtain ⟨y255, hy255⟩ : ∃ y_ : List ByteArray, y_ = (x6_1 ++ [strOfNums (rd_L8 t251 x21_1)]) := ⟨_, rfl⟩; (replace H : (sight_Letters.l0 k1 y255 t251 (t251.length : Int) (wrap64 (x21_1 + 1))) = some (r1, r2) := by first | (rw [hy255]; with_reducible exact H) | (have H2_ := (Option.bind_some _ _).symm.trans H; rw [hy255]; with_reducible exact H2_) | (have H2_ := (Option.bind_some _ _).symm.trans H; with_reducible exact H2_) | with_reducible exact H | (rw [hy255]; exact H) | exact H); have Ny255 := Aside0.mk hy255; clear hy255; have H' := Aside0.mk H; clear H; have p254 : 0 ≤ (x21_1 : Int) := of_decide_eq_true (by first | (with_reducible assumption) | assumption); have q254 : x21_1 < (t251.length : Int) := of_decide_eq_true (by first | (with_reducible assumption) | assumption); obtain ⟨ad254, A254_0, c254_0, e254, hx254_0, hl254_0, hi254_0⟩ := at_L8 (Kd.S_reads' HO_19.out).2.2 x21_1 p254 q254; cases e254; obtain ⟨ce254, hce254, hMe254, hcc254⟩ := Kd.S_get HO_19.out [] x21_1 p254 (by first | exact q254 | exact of_decide_eq_true (by first | (with_reducible assumption) | assumption) | (have e_ := (Kd.S_reads' HO_19.out).1; omega)); obtain ⟨ve254_0, rfl, ge254_0⟩ := hMe254; have hv254_0 := hcc254 0 _ rfl; rw [Nat.add_zero, show ((Kd.slice 5 (Kd.int .u8))).sz = 1 from rfl, Nat.mul_one] at hv254_0; replace hv254_0 := Option.some.inj (hv254_0.symm.trans hx254_0); rw [hv254_0] at ge254_0; have HL254_0 := Aside0.mk (show Kd.R (Kd.int .u8) 5 _ _ _ _ (rd_L8 t251 x21_1) from ge254_0); clear hv254_0 ge254_0 hcc254 hce254; have HR254_0 := Aside0.mk hi254_0; have HC254_0 := Aside0.mk hl254_0; clear hi254_0 hl254_0; replace p254 := eq_true p254; replace q254 := eq_true q254; have hcv15 := Kd.C_string (P := Try.prog) (A := A254_0) (c := c254_0) Try.underlying88 Try.underlying5 Try.underlying9 (by repeat (first | (with_reducible exact HR254_0.out) | (with_reducible refine Kd.C_alloc ?_ _) | (with_reducible refine Kd.C_drewN ?_ _) | (with_reducible refine Kd.C_drew ?_) | exact HR254_0.out)); (go_wp2_with (first | ((with_reducible refine gate_builtin (b := .append) (xs := #[.tmp 25, .tmp 28]) rfl ?_); at_builtin; refine Kd.R_append Kd.string (w0 := w) w.heap.size rfl (.tmp 25) (.tmp 28) 48 9 (.string ⟨#[]⟩) 16 rfl Try.underlying48 info9 rfl (by decide) (by omega) u6 x6_1 (strOfNums (rd_L8 t251 x21_1)) [.string (strOfNums (rd_L8 t251 x21_1))] (fun _ => True) (fun _ => False) rfl rfl ?aP (fun _ hk => hk.elim) ?aF ?aO ?aB ?aS ?aL ?_; (case aP => exact rfl); (case aB => exact (by repeat (first | (with_reducible first | exact HB.out | apply below_alloc | apply pw_below_drewN | apply below_drew1 | refine below_set ?_ GE246.out) | exact HB.out))); (case aF => exact (fun _ _ => trivial)); (case aO => exact (by (with_reducible repeat (first | apply Kd.R_alloc | apply Kd.R_drewN | apply Kd.R_drew)); exact HO_6.out)); (case aS => exact (below_size (by repeat (first | (with_reducible first | exact HB.out | apply below_alloc | apply pw_below_drewN | apply below_drew1 | refine below_set ?_ GE246.out) | exact HB.out)))); (case aL => have := LMc14.out; omega); intro v256 w16 ho hb hg hat; rw [← Ny255.out] at ho; have n0_ := Aside0.mk (Kd.S_over' (by (with_reducible repeat (first | apply Kd.S_alloc | apply Kd.S_drewN | apply Kd.S_drew)); exact HO_19.out) (Kd.R_typed (by (with_reducible repeat (first | apply Kd.R_alloc | apply Kd.R_drewN | apply Kd.R_drew)); exact HO_6.out)) (by decide) hg); have n1_ := Aside0.mk (blk_grown (g := gb246) (o := .cells #[.slice A0_0 l0_0.length c0_0, .int .i64 a0_1, .int .i64 a0_2, .int .i64 a0_3, .slice A0_4 l0_4.length c0_4] 25 (0, 0)) (by (with_reducible repeat (first | refine blk_drewN ?_ _ | refine blk_drew ?_ | refine blk_alloc ?_ _)); exact BK246.out) hg (Kd.R_ne HO_6.out BK246.out (by decide))); have n2_ := Aside0.mk (Kd.R_over' (by (with_reducible repeat (first | apply Kd.R_alloc | apply Kd.R_drewN | apply Kd.R_drew)); exact HL254_0.out) (Kd.R_typed (by (with_reducible repeat (first | apply Kd.R_alloc | apply Kd.R_drewN | apply Kd.R_drew)); exact HO_6.out)) (by decide) hg); have n3_ := Aside0.mk (hb); have n4_ := Aside0.mk (ho); clear HO_19; clear BK246; clear HL254_0; clear HB; clear HO_6; have HO_19 := n0_; have BK246 := n1_; have HL254_0 := n2_; have HB := n3_; have HO257 := n4_; clear n0_ n1_ n2_ n3_ n4_; clear ho hb hg hat))); go_roundg k1; (case measure => have := HK1.out; omega); case rel => exact ⟨(y255), (wrap64 (x21_1 + 1)), (by first | rfl | (simp; done) | (simp [*]; done)), H', ⟨by have := HK1.out; omega⟩, ⟨by (with_reducible repeat (first | apply Kd.R_alloc | apply Kd.R_drewN | apply Kd.R_drew)); exact HO257.out⟩, ⟨by (with_reducible repeat (first | apply Kd.S_alloc | apply Kd.S_drewN | apply Kd.S_drew)); exact HO_19.out⟩, ⟨by (with_reducible repeat (first | refine blk_drewN ?_ _ | refine blk_drew ?_ | refine blk_alloc ?_ _)); exact BK246.out⟩, ⟨by repeat (first | (with_reducible first | exact HB.out | apply below_alloc | apply pw_below_drewN | apply below_drew1 | refine below_set ?_ GE246.out) | exact HB.out)⟩⟩
       ·rw [if_neg c14] at H; exact absurd H (by simp)
      ·rw [if_neg c13] at H; exact absurd H (by simp)
     ·rw [if_neg c12] at H; exact absurd H (by simp)
    ·rw [if_neg c11] at H; have c11b0 : decide (x21_1 < (t251.length : Int)) = false := decide_eq_false c11; clear c11; simp only [Option.some.injEq, Prod.mk.injEq] at H; obtain ⟨rfl, rfl⟩ := H; go_wp2
     go_ret2
     exact ⟨_, by first | rfl | (simp [errW_none, errW_some] <;> rfl) | (simp [*, errW_none, errW_some] <;> rfl), by (with_reducible repeat (first | apply Kd.R_alloc | apply Kd.R_drewN | apply Kd.R_drew)); exact HO_6.out, by repeat (first | (with_reducible first | exact HB.out | apply below_alloc | apply pw_below_drewN | apply below_drew1 | refine below_set ?_ GE246.out) | exact HB.out)⟩
 ·rw [if_neg c3] at H; have c3b0 : (t250 == 0) = false := beq_eq_false_iff_ne.mpr c3; have c3b1 : (t250 != 0) = true := bne_iff_ne.mpr c3; simp only [Option.some.injEq, Prod.mk.injEq] at H; obtain ⟨rfl, rfl⟩ := H; go_enter Try.func24, Try.ntmps24; go_wp2_with (first | ((with_reducible refine gate_dst (N := 1) rfl ?_); refine box_event ?hg (N := 1) ?hd (cs := #[.slice A0_0 l0_0.length c0_0, .int .i64 a0_1, .int .i64 a0_2, .int .i64 a0_3, .slice A0_4 l0_4.length c0_4]) (t := 25) ?hr ?_; (case hd => rfl); (case hg => rfl); (case hr => first | (go_simp; done) | (go_simp; rfl)); intro gb246 hg w17 hbox hb; have n0_ := Aside0.mk (below_step (by repeat (first | (with_reducible first | exact HB.out | apply below_alloc | apply pw_below_drewN | apply below_drew1) | exact HB.out)) hb); have n1_ := Aside0.mk (hbox); have n2_ := Aside0.mk ((by rw [hg]; exact (below_size (by repeat (first | (with_reducible first | exact HB.out | apply below_alloc | apply pw_below_drewN | apply below_drew1) | exact HB.out))) : w.heap.size ≤ gb246)); have n3_ := Aside0.mk ((by rw [hg]; exact (below_size (by repeat (first | (with_reducible first | exact HB.out | apply below_alloc | apply pw_below_drewN | apply below_drew1) | exact HB.out))) : w.heap.size ≤ gb246)); clear HB; have HB := n0_; have BK246 := n1_; have GW246 := n2_; have GE246 := n3_; clear n0_ n1_ n2_ n3_; clear hb hbox hg; have hcz18_0 : w17.cell? ⟨gb246, 0, none⟩ = some (.slice A0_0 l0_0.length c0_0) := (blk_cell BK246.out 0).trans rfl; have hcz18_1 : w17.cell? ⟨gb246, 1, none⟩ = some (.int .i64 a0_1) := (blk_cell BK246.out 1).trans rfl; have hcz18_2 : w17.cell? ⟨gb246, 2, none⟩ = some (.int .i64 a0_2) := (blk_cell BK246.out 2).trans rfl; have hcz18_3 : w17.cell? ⟨gb246, 3, none⟩ = some (.int .i64 a0_3) := (blk_cell BK246.out 3).trans rfl; have hcz18_4 : w17.cell? ⟨gb246, 4, none⟩ = some (.slice A0_4 l0_4.length c0_4) := (blk_cell BK246.out 4).trans rfl; have hfz18_0 := blk_frozen BK246.out 0; have hfz18_1 := blk_frozen BK246.out 1; have hfz18_2 := blk_frozen BK246.out 2; have hfz18_3 := blk_frozen BK246.out 3; have hfz18_4 := blk_frozen BK246.out 4) | ((with_reducible refine gate_callee (f := 58) rfl ?_); refine goesL_ (some 11) rfl rfl Try.func58 (by kernel_rfl) rfl #[.agg #[.slice A0_0 l0_0.length c0_0, .int .i64 a0_1, .int .i64 a0_2, .int .i64 a0_3, .slice A0_4 l0_4.length c0_4]] rfl (by (try simp only [List.map_toArray, List.map_cons, List.map_nil]); first | done | rfl | (simp only [List.length_drop, List.length_take]; rfl)) ?_; (with_reducible refine (sight_fitting.calls _ _ l0_0 a0_1 a0_2 a0_3 _ _ l0_4 t247 t250 _ ?side1 ?side2 ?side3 ?side4 A2.out).mono ?_); (case side1 => repeat (first | exact (Kd.C_below HR0_0.out HB.out) | (with_reducible refine Kd.C_alloc ?_ _) | (with_reducible refine Kd.C_drewN ?_ _) | (with_reducible refine Kd.C_drew ?_))); (case side2 => exact HC0_0.out); (case side3 => repeat (first | exact (Kd.C_below HR0_4.out HB.out) | (with_reducible refine Kd.C_alloc ?_ _) | (with_reducible refine Kd.C_drewN ?_ _) | (with_reducible refine Kd.C_drew ?_))); (case side4 => exact HC0_4.out); rintro e w19 ⟨v248, rfl, ho0, hb⟩; refine ⟨_, rfl, ?_⟩; have n0_ := Aside0.mk (Kd.R_lower ho0 (below_size (by repeat (first | (with_reducible first | exact HB.out | apply below_alloc | apply pw_below_drewN | apply below_drew1 | refine below_set ?_ GE246.out) | exact HB.out)))); have n1_ := Aside0.mk (blk_below (g := gb246) (o := .cells #[.slice A0_0 l0_0.length c0_0, .int .i64 a0_1, .int .i64 a0_2, .int .i64 a0_3, .slice A0_4 l0_4.length c0_4] 25 (0, 0)) (by (with_reducible repeat (first | refine blk_drewN ?_ _ | refine blk_drew ?_ | refine blk_alloc ?_ _)); exact BK246.out) hb); have n2_ := Aside0.mk (below_step (by repeat (first | (with_reducible first | exact HB.out | apply below_alloc | apply pw_below_drewN | apply below_drew1 | refine below_set ?_ GE246.out) | exact HB.out)) hb); clear BK246; clear HB; have HO249 := n0_; have BK246 := n1_; have HB := n2_; clear n0_ n1_ n2_; (try clear hb); (try clear hb2); (try clear hk); (try clear hi); (try clear ho0)))
  go_ret2
  exact ⟨_, by first | rfl | (simp [errW_none, errW_some] <;> rfl) | (simp [*, errW_none, errW_some] <;> rfl), by first | exact Kd.R_nil _ _ _ _ _ | exact Kd.N_nil _ _ _ _ _ | exact Kd.V_nil _ _ _ _ _ | exact Kd.Q_nil _ _ _ _ _ | exact Kd.S_nil _ _ _ _ _, by repeat (first | (with_reducible first | exact HB.out | apply below_alloc | apply pw_below_drewN | apply below_drew1 | refine below_set ?_ GE246.out) | exact HB.out)⟩
end Go.Proofs.Ytihedeofkhapiaa.Pr
end
section
namespace Go.Proofs.Ytihedeofkhapiaa.Pr
open Go.RowKit Go.Proofs.YtihedeofkhapiaaW.PrintWords Go.Proofs.YtihedeofkhapiaaW.PrintLast Go.Proofs.YtihedeofkhapiaaW.PrintMore
attribute [local go_sem] max2_int min2_int max_two min_two max_three min_three max_four min_four
set_option linter.unusedVariables false
set_option linter.unusedSimpArgs false
mutual
def sight_Print.l0 : Nat → ByteArray → List ByteArray → Int → Int → Option (ByteArray × Int)
 | 0, _, _, _, _ => none
 | k + 1, x6, x17, x18, x19 => if x19 < x18 then (if 0 ≤ x19 then (if x19 < (x17.length : Int) then (if ((rdOf ByteArray.empty x17 x19).size : Int) = 2 then (sight_Print.j1 k x6 (rdOf ByteArray.empty x17 x19) x17 x18 x19 ((rdOf ByteArray.empty x17 x19).size : Int) (((rdOf ByteArray.empty x17 x19).size : Int) == 2)) else (sight_Print.j1 k x6 (rdOf ByteArray.empty x17 x19) x17 x18 x19 ((rdOf ByteArray.empty x17 x19).size : Int) (((rdOf ByteArray.empty x17 x19).size : Int) == 3))) else (none)) else (none)) else (some (x6, 0))
def sight_Print.j1 : Nat → ByteArray → ByteArray → List ByteArray → Int → Int → Int → Bool → Option (ByteArray × Int)
 | 0, _, _, _, _, _, _, _ => none
 | k + 1, x6, x8, x17, x18, x19, x24, x25 => if x25 = true then (if 1 + x8.size ≤ 9223372036854775807 then (if ((⟨#[123]⟩ : ByteArray) ++ x8).size + 1 ≤ 9223372036854775807 then (if x6.size + (((⟨#[123]⟩ : ByteArray) ++ x8) ++ (⟨#[125]⟩ : ByteArray)).size ≤ 9223372036854775807 then (sight_Print.l0 k (x6 ++ (((⟨#[123]⟩ : ByteArray) ++ x8) ++ (⟨#[125]⟩ : ByteArray))) x17 x18 (wrap64 (x19 + 1))) else (none)) else (none)) else (none)) else (if x24 = 1 then (if x6.size + x8.size ≤ 9223372036854775807 then (sight_Print.l0 k (x6 ++ x8) x17 x18 (wrap64 (x19 + 1))) else (none)) else (if x6.size + 1 ≤ 9223372036854775807 then (sight_Print.l0 k (x6 ++ (⟨#[45]⟩ : ByteArray)) x17 x18 (wrap64 (x19 + 1))) else (none)))
end
def sight_Print.f (k : Nat) (l0_0 : List (S66)) (a0_1 : Int) (a0_2 : Int) (a0_3 : Int) (l0_4 : List (List (S27))) : Option (ByteArray × Int) := (sight_Letters.f k l0_0 a0_1 a0_2 a0_3 l0_4).bind fun bt259 => (if bt259.2 = 0 then (sight_Print.l0 k (⟨#[]⟩ : ByteArray) bt259.1 (bt259.1.length : Int) 0) else (some ((⟨#[]⟩ : ByteArray), bt259.2)))
theorem sight_Print.mono_l : ∀ k, (∀ y0 y1 y2 y3, LeO (sight_Print.l0 k y0 y1 y2 y3) (sight_Print.l0 (k + 1) y0 y1 y2 y3)) ∧ (∀ y0 y1 y2 y3 y4 y5 y6, LeO (sight_Print.j1 k y0 y1 y2 y3 y4 y5 y6) (sight_Print.j1 (k + 1) y0 y1 y2 y3 y4 y5 y6))
 | 0 => ⟨fun _ _ _ _ r h => by simp [sight_Print.l0] at h, fun _ _ _ _ _ _ _ r h => by simp [sight_Print.j1] at h⟩
 | k + 1 => by
  obtain ⟨ih0, ih1⟩ := sight_Print.mono_l k; refine ⟨?_, ?_⟩
  ·intro y0 y1 y2 y3; unfold sight_Print.l0
   repeat' first
   | (with_reducible exact ih0 _ _ _ _)
   | (with_reducible exact ih1 _ _ _ _ _ _ _)
   | (with_reducible exact sight_Letters.mono _ _ _ _ _ _)
   | (with_reducible exact LeO.refl _)
   | (with_reducible exact LeO.none _)
   | (with_reducible refine LeO.ite ?_ ?_)
   | (with_reducible refine LeO.bind ?_ (fun _ => ?_))
   | exact ih0 _ _ _ _
   | exact ih1 _ _ _ _ _ _ _
   | exact sight_Letters.mono _ _ _ _ _ _
   | exact LeO.none _
   | refine LeO.ite ?_ ?_
   | refine LeO.bind ?_ (fun _ => ?_)
  ·intro y0 y1 y2 y3 y4 y5 y6; unfold sight_Print.j1
   repeat' first
   | (with_reducible exact ih0 _ _ _ _)
   | (with_reducible exact ih1 _ _ _ _ _ _ _)
   | (with_reducible exact sight_Letters.mono _ _ _ _ _ _)
   | (with_reducible exact LeO.refl _)
   | (with_reducible exact LeO.none _)
   | (with_reducible refine LeO.ite ?_ ?_)
   | (with_reducible refine LeO.bind ?_ (fun _ => ?_))
   | exact ih0 _ _ _ _
   | exact ih1 _ _ _ _ _ _ _
   | exact sight_Letters.mono _ _ _ _ _ _
   | exact LeO.none _
   | refine LeO.ite ?_ ?_
   | refine LeO.bind ?_ (fun _ => ?_)
theorem sight_Print.mono : ∀ a0 a1 a2 a3 a4 k, LeO (sight_Print.f k a0 a1 a2 a3 a4) (sight_Print.f (k + 1) a0 a1 a2 a3 a4) := by
 intro a0 a1 a2 a3 a4 k; obtain ⟨ih0, ih1⟩ := sight_Print.mono_l k; unfold sight_Print.f
 repeat' first
  | (with_reducible exact ih0 _ _ _ _)
  | (with_reducible exact ih1 _ _ _ _ _ _ _)
  | (with_reducible exact sight_Letters.mono _ _ _ _ _ _)
  | (with_reducible exact LeO.refl _)
  | (with_reducible exact LeO.none _)
  | (with_reducible refine LeO.ite ?_ ?_)
  | (with_reducible refine LeO.bind ?_ (fun _ => ?_))
  | exact ih0 _ _ _ _
  | exact ih1 _ _ _ _ _ _ _
  | exact sight_Letters.mono _ _ _ _ _ _
  | exact LeO.none _
  | refine LeO.ite ?_ ?_
  | refine LeO.bind ?_ (fun _ => ?_)
set_option maxHeartbeats 8000000 in
set_option maxRecDepth 100000 in
theorem sight_Print.calls (k : Nat) (A0_0 : Option Addr) (c0_0 : Nat) (l0_0 : List (S66)) (a0_1 : Int) (a0_2 : Int) (a0_3 : Int) (A0_4 : Option Addr) (c0_4 : Nat) (l0_4 : List (List (S27))) (r1 : ByteArray) (r2 : Int) (w : World) (hr0_0 : Kd.C k66 w A0_0 l0_0.length l0_0) (hc0_0 : l0_0.length ≤ c0_0) (hr0_4 : Kd.C (Kd.slice 27 k27) w A0_4 l0_4.length l0_4) (hc0_4 : l0_4.length ≤ c0_4) (h : sight_Print.f k l0_0 a0_1 a0_2 a0_3 l0_4 = some (r1, r2)) :
 Calls Try.prog 19 #[.agg #[.slice A0_0 l0_0.length c0_0, .int .i64 a0_1, .int .i64 a0_2, .int .i64 a0_3, .slice A0_4 l0_4.length c0_4]] w fun e w' => e = .returned (.tuple #[.string r1, .int .i64 r2]) ∧ Below w.heap.size w w' := by
 have hu25 := Try.underlying25; have HR0_0 := Aside0.mk hr0_0; have HC0_0 := Aside0.mk hc0_0; clear hr0_0 hc0_0; have HR0_4 := Aside0.mk hr0_4; have HC0_4 := Aside0.mk hc0_4; clear hr0_4 hc0_4; have HB := Aside0.mk (Below.refl w.heap.size w); have H : ((sight_Letters.f k l0_0 a0_1 a0_2 a0_3 l0_4).bind fun bt259 => (if bt259.2 = 0 then (sight_Print.l0 k (⟨#[]⟩ : ByteArray) bt259.1 (bt259.1.length : Int) 0) else (some ((⟨#[]⟩ : ByteArray), bt259.2)))) = some (r1, r2) := h; clear h; replace H := Option.bind_eq_some_iff.mp H; obtain ⟨⟨t259, t262⟩, A20, H⟩ := H; replace H : (if t262 = 0 then (sight_Print.l0 k (⟨#[]⟩ : ByteArray) t259 (t259.length : Int) 0) else (some ((⟨#[]⟩ : ByteArray), t262))) = some (r1, r2) := H; have A2 := Aside0.mk A20; clear A20; by_cases c3 : t262 = 0
 ·rw [if_pos c3] at H; have c3b0 : (t262 == 0) = true := beq_iff_eq.mpr c3; have c3b1 : (t262 != 0) = false := bne_eq_false_iff_eq.mpr c3; clear c3; have H' := Aside0.mk H; clear H; go_enter Try.func19, Try.ntmps19; (go_wp2_with (first | ((with_reducible refine gate_dst (N := 1) rfl ?_); refine box_event ?hg (N := 1) ?hd (cs := #[.slice A0_0 l0_0.length c0_0, .int .i64 a0_1, .int .i64 a0_2, .int .i64 a0_3, .slice A0_4 l0_4.length c0_4]) (t := 25) ?hr ?_; (case hd => rfl); (case hg => rfl); (case hr => first | (go_simp; done) | (go_simp; rfl)); intro gb258 hg w4 hbox hb; have n0_ := Aside0.mk (below_step (by repeat (first | (with_reducible first | exact HB.out | apply below_alloc | apply pw_below_drewN | apply below_drew1) | exact HB.out)) hb); have n1_ := Aside0.mk (hbox); have n2_ := Aside0.mk ((by rw [hg]; exact (below_size (by repeat (first | (with_reducible first | exact HB.out | apply below_alloc | apply pw_below_drewN | apply below_drew1) | exact HB.out))) : w.heap.size ≤ gb258)); have n3_ := Aside0.mk ((by rw [hg]; exact (below_size (by repeat (first | (with_reducible first | exact HB.out | apply below_alloc | apply pw_below_drewN | apply below_drew1) | exact HB.out))) : w.heap.size ≤ gb258)); clear HB; have HB := n0_; have BK258 := n1_; have GW258 := n2_; have GE258 := n3_; clear n0_ n1_ n2_ n3_; clear hb hbox hg; have hcz5_0 : w4.cell? ⟨gb258, 0, none⟩ = some (.slice A0_0 l0_0.length c0_0) := (blk_cell BK258.out 0).trans rfl; have hcz5_1 : w4.cell? ⟨gb258, 1, none⟩ = some (.int .i64 a0_1) := (blk_cell BK258.out 1).trans rfl; have hcz5_2 : w4.cell? ⟨gb258, 2, none⟩ = some (.int .i64 a0_2) := (blk_cell BK258.out 2).trans rfl; have hcz5_3 : w4.cell? ⟨gb258, 3, none⟩ = some (.int .i64 a0_3) := (blk_cell BK258.out 3).trans rfl; have hcz5_4 : w4.cell? ⟨gb258, 4, none⟩ = some (.slice A0_4 l0_4.length c0_4) := (blk_cell BK258.out 4).trans rfl; have hfz5_0 := blk_frozen BK258.out 0; have hfz5_1 := blk_frozen BK258.out 1; have hfz5_2 := blk_frozen BK258.out 2; have hfz5_3 := blk_frozen BK258.out 3; have hfz5_4 := blk_frozen BK258.out 4) | ((with_reducible refine gate_callee (f := 24) rfl ?_); refine goesL_ (some 11) rfl rfl Try.func24 (by kernel_rfl) rfl #[.agg #[.slice A0_0 l0_0.length c0_0, .int .i64 a0_1, .int .i64 a0_2, .int .i64 a0_3, .slice A0_4 l0_4.length c0_4]] rfl (by (try simp only [List.map_toArray, List.map_cons, List.map_nil]); first | done | rfl | (simp only [List.length_drop, List.length_take]; rfl)) ?_; (with_reducible refine (sight_Letters.calls k _ _ l0_0 a0_1 a0_2 a0_3 _ _ l0_4 t259 t262 _ ?side1 ?side2 ?side3 ?side4 A2.out).mono ?_); (case side1 => repeat (first | exact (Kd.C_below HR0_0.out HB.out) | (with_reducible refine Kd.C_alloc ?_ _) | (with_reducible refine Kd.C_drewN ?_ _) | (with_reducible refine Kd.C_drew ?_))); (case side2 => exact HC0_0.out); (case side3 => repeat (first | exact (Kd.C_below HR0_4.out HB.out) | (with_reducible refine Kd.C_alloc ?_ _) | (with_reducible refine Kd.C_drewN ?_ _) | (with_reducible refine Kd.C_drew ?_))); (case side4 => exact HC0_4.out); rintro e w6 ⟨v260, rfl, ho0, hb⟩; refine ⟨_, rfl, ?_⟩; have n0_ := Aside0.mk (Kd.R_lower ho0 (below_size (by repeat (first | (with_reducible first | exact HB.out | apply below_alloc | apply pw_below_drewN | apply below_drew1 | refine below_set ?_ GE258.out) | exact HB.out)))); have n1_ := Aside0.mk (blk_below (g := gb258) (o := .cells #[.slice A0_0 l0_0.length c0_0, .int .i64 a0_1, .int .i64 a0_2, .int .i64 a0_3, .slice A0_4 l0_4.length c0_4] 25 (0, 0)) (by (with_reducible repeat (first | refine blk_drewN ?_ _ | refine blk_drew ?_ | refine blk_alloc ?_ _)); exact BK258.out) hb); have n2_ := Aside0.mk (below_step (by repeat (first | (with_reducible first | exact HB.out | apply below_alloc | apply pw_below_drewN | apply below_drew1 | refine below_set ?_ GE258.out) | exact HB.out)) hb); clear BK258; clear HB; have HO261 := n0_; have BK258 := n1_; have HB := n2_; clear n0_ n1_ n2_; (try clear hb); (try clear hb2); (try clear hk); (try clear hi); (try clear ho0); obtain ⟨Ao7, co7, eo7⟩ := Kd.R_slice HO261.out; subst eo7))); (go_loopg [6, 19] k (fun kq v6 v19 w' => ∃ (x6_1 : ByteArray) (x19_1 : Int), v6 = .string x6_1 ∧ v19 = .int .i64 x19_1 ∧ Aside0 (sight_Print.l0 kq x6_1 t259 (t259.length : Int) x19_1 = some (r1, r2)) ∧ Aside0 (kq ≤ k) ∧ Aside0 (Kd.R Kd.string 9 w' w.heap.size (fun _ => True) (.slice Ao7 t259.length co7) t259) ∧ Aside0 (w'.heap[gb258]? = some (.cells #[(.slice A0_0 l0_0.length c0_0), .int .i64 a0_1, .int .i64 a0_2, .int .i64 a0_3, (.slice A0_4 l0_4.length c0_4)] 25 (0, 0))) ∧ Aside0 (Below w.heap.size w w'))); case atStart => exact ⟨((⟨#[]⟩ : ByteArray)), (0), (by first | rfl | (simp; done) | (simp [*]; done)), (by first | rfl | (simp; done) | (simp [*]; done)), H', ⟨Nat.le_refl _⟩, ⟨by (with_reducible repeat (first | apply Kd.R_alloc | apply Kd.R_drewN | apply Kd.R_drew)); exact HO261.out⟩, ⟨by (with_reducible repeat (first | refine blk_drewN ?_ _ | refine blk_drew ?_ | refine blk_alloc ?_ _)); exact BK258.out⟩, ⟨by repeat (first | (with_reducible first | exact HB.out | apply below_alloc | apply pw_below_drewN | apply below_drew1 | refine below_set ?_ GE258.out) | exact HB.out)⟩⟩
  case round =>
   clear H'; (try clear c1); (try clear c2); (try clear p2); (try clear c3); (try clear c3b0); (try clear c3b1); (try clear hcz5_0); (try clear hcz5_1); (try clear hcz5_2); (try clear hcz5_3); (try clear hcz5_4); (try clear hfz5_0); (try clear hfz5_1); (try clear hfz5_2); (try clear hfz5_3); (try clear hfz5_4); obtain ⟨x6_1, x19_1, rfl, rfl, HA, HK1, HO_17, BK258, HB⟩ := hrel
   cases gk with
   | zero => exact absurd HA.out (by simp [sight_Print.l0])
   | succ k1 =>
    have H := HA.out; clear HA; simp only [sight_Print.l0] at H; by_cases c8 : x19_1 < (t259.length : Int)
    ·rw [if_pos c8] at H; have c8b0 : decide (x19_1 < (t259.length : Int)) = true := decide_eq_true c8; clear c8; by_cases c9 : 0 ≤ x19_1
     ·rw [if_pos c9] at H; have c9b0 : decide (0 ≤ x19_1) = true := decide_eq_true c9; clear c9; by_cases c10 : x19_1 < (t259.length : Int)
      ·rw [if_pos c10] at H; have c10b0 : decide (x19_1 < (t259.length : Int)) = true := decide_eq_true c10; clear c10; have HC11 := Aside0.mk H; clear H; have p263 : 0 ≤ (x19_1 : Int) := of_decide_eq_true (by first | (with_reducible assumption) | assumption); have q263 : x19_1 < (t259.length : Int) := of_decide_eq_true (by first | (with_reducible assumption) | assumption); obtain ⟨ad263, e263, hx263_0⟩ := Kd.at_string (Kd.R_reads' HO_17.out).2.2 x19_1 p263 q263; cases e263; replace p263 := eq_true p263; replace q263 := eq_true q263; (go_upto_if 25 with (fail)); go_cut [25] (fun v25 wc => ∃ (kq : Nat) (x25_10 : Bool), v25 = .bool x25_10 ∧ Aside0 (sight_Print.j1 kq x6_1 (rdOf ByteArray.empty t259 x19_1) t259 (t259.length : Int) x19_1 ((rdOf ByteArray.empty t259 x19_1).size : Int) x25_10 = some (r1, r2)) ∧ Aside0 (kq ≤ k1) ∧ Aside0 (Kd.R Kd.string 9 wc w.heap.size (fun _ => True) (.slice (some ad263) t259.length co7) t259) ∧ Aside0 (wc.heap[gb258]? = some (.cells #[(.slice A0_0 l0_0.length c0_0), .int .i64 a0_1, .int .i64 a0_2, .int .i64 a0_3, (.slice A0_4 l0_4.length c0_4)] 25 (0, 0))) ∧ Aside0 (Below w.heap.size w wc))
       case first =>
        have H := HC11.out; clear HC11; by_cases c12 : ((rdOf ByteArray.empty t259 x19_1).size : Int) = 2
        ·rw [if_pos c12] at H; have c12b0 : (((rdOf ByteArray.empty t259 x19_1).size : Int) == 2) = true := beq_iff_eq.mpr c12; have c12b1 : (((rdOf ByteArray.empty t259 x19_1).size : Int) != 2) = false := bne_eq_false_iff_eq.mpr c12; clear c12; (first | rw [c12b0] | (simp only [i64_w, i32_w]; rw [c12b0]) | skip); have H' := Aside0.mk H; clear H; go_wp2; go_meet; case rel => exact ⟨_, ((((rdOf ByteArray.empty t259 x19_1).size : Int) == 2)), (by first | rfl | (simp; done) | (simp [*]; done)), H', ⟨by have := HK1.out; first | omega | exact Nat.le_refl _⟩, ⟨by (with_reducible repeat (first | apply Kd.R_alloc | apply Kd.R_drewN | apply Kd.R_drew)); exact HO_17.out⟩, ⟨by (with_reducible repeat (first | refine blk_drewN ?_ _ | refine blk_drew ?_ | refine blk_alloc ?_ _)); exact BK258.out⟩, ⟨by repeat (first | (with_reducible first | exact HB.out | apply below_alloc | apply pw_below_drewN | apply below_drew1 | refine below_set ?_ GE258.out) | exact HB.out)⟩⟩
        ·rw [if_neg c12] at H; have c12b0 : (((rdOf ByteArray.empty t259 x19_1).size : Int) == 2) = false := beq_eq_false_iff_ne.mpr c12; have c12b1 : (((rdOf ByteArray.empty t259 x19_1).size : Int) != 2) = true := bne_iff_ne.mpr c12; (first | rw [c12b0] | (simp only [i64_w, i32_w]; rw [c12b0]) | skip); have H' := Aside0.mk H; clear H; go_wp2; go_meet; case rel => exact ⟨_, ((((rdOf ByteArray.empty t259 x19_1).size : Int) == 3)), (by first | rfl | (simp; done) | (simp [*]; done)), H', ⟨by have := HK1.out; first | omega | exact Nat.le_refl _⟩, ⟨by (with_reducible repeat (first | apply Kd.R_alloc | apply Kd.R_drewN | apply Kd.R_drew)); exact HO_17.out⟩, ⟨by (with_reducible repeat (first | refine blk_drewN ?_ _ | refine blk_drew ?_ | refine blk_alloc ?_ _)); exact BK258.out⟩, ⟨by repeat (first | (with_reducible first | exact HB.out | apply below_alloc | apply pw_below_drewN | apply below_drew1 | refine below_set ?_ GE258.out) | exact HB.out)⟩⟩
       case rest =>
        clear HC11; (try clear c1); (try clear c2); (try clear p2); (try clear q2); (try clear hx2); (try clear c3); (try clear c3b0); (try clear c3b1); (try clear c8); (try clear c8b0); (try clear c9); (try clear c9b0); (try clear c10); (try clear c10b0); (try clear c12); (try clear c12b0); (try clear c12b1); (try clear hcz5_0); (try clear hcz5_1); (try clear hcz5_2); (try clear hcz5_3); (try clear hcz5_4); (try clear hfz5_0); (try clear hfz5_1); (try clear hfz5_2); (try clear hfz5_3); (try clear hfz5_4); (try clear hx263_0); (try clear p2); (try clear p263); (try clear q263); obtain ⟨kq, x25_10, rfl, HA, HJ10, HO_17, BK258, HB⟩ := hcut
        cases kq with
        | zero => exact absurd HA.out (by simp [sight_Print.j1])
        | succ kj10 =>
         have H := HA.out; clear HA; simp only [sight_Print.j1] at H; by_cases c13 : x25_10 = true
         ·subst c13; (have H1 : (if 1 + (rdOf ByteArray.empty t259 x19_1).size ≤ 9223372036854775807 then (if ((⟨#[123]⟩ : ByteArray) ++ (rdOf ByteArray.empty t259 x19_1)).size + 1 ≤ 9223372036854775807 then (if x6_1.size + (((⟨#[123]⟩ : ByteArray) ++ (rdOf ByteArray.empty t259 x19_1)) ++ (⟨#[125]⟩ : ByteArray)).size ≤ 9223372036854775807 then (sight_Print.l0 kj10 (x6_1 ++ (((⟨#[123]⟩ : ByteArray) ++ (rdOf ByteArray.empty t259 x19_1)) ++ (⟨#[125]⟩ : ByteArray))) t259 (t259.length : Int) (wrap64 (x19_1 + 1))) else (none)) else (none)) else (none)) = some (r1, r2) := by rw [if_pos rfl] at H; exact H); clear H; have H := H1; clear H1; by_cases c14 : 1 + (rdOf ByteArray.empty t259 x19_1).size ≤ 9223372036854775807
          ·rw [if_pos c14] at H; have c14b0 := eq_true c14; have c14b1 : decide (1 + (rdOf ByteArray.empty t259 x19_1).size ≤ 9223372036854775807) = true := decide_eq_true c14; (try have c14b2 : (9223372036854775807 < 1 + (rdOf ByteArray.empty t259 x19_1).size) = False := eq_false (Nat.not_lt.2 c14)); by_cases c15 : ((⟨#[123]⟩ : ByteArray) ++ (rdOf ByteArray.empty t259 x19_1)).size + 1 ≤ 9223372036854775807
           ·rw [if_pos c15] at H; (have c15b5 : 1 + (rdOf ByteArray.empty t259 x19_1).size + 1 ≤ 9223372036854775807 := by have h := c15; rw [ByteArray.size_append] at h; exact h); have c15b6 := eq_true c15b5; have c15b7 : decide (1 + (rdOf ByteArray.empty t259 x19_1).size + 1 ≤ 9223372036854775807) = true := decide_eq_true c15b5; have c15b8 : (9223372036854775807 < 1 + (rdOf ByteArray.empty t259 x19_1).size + 1) = False := eq_false (Nat.not_lt.2 c15b5); have c15b0 := eq_true c15; have c15b1 : decide (((⟨#[123]⟩ : ByteArray) ++ (rdOf ByteArray.empty t259 x19_1)).size + 1 ≤ 9223372036854775807) = true := decide_eq_true c15; (try have c15b2 : (9223372036854775807 < ((⟨#[123]⟩ : ByteArray) ++ (rdOf ByteArray.empty t259 x19_1)).size + 1) = False := eq_false (Nat.not_lt.2 c15)); by_cases c16 : x6_1.size + (((⟨#[123]⟩ : ByteArray) ++ (rdOf ByteArray.empty t259 x19_1)) ++ (⟨#[125]⟩ : ByteArray)).size ≤ 9223372036854775807
            ·rw [if_pos c16] at H; (have c16b5 : x6_1.size + (1 + (rdOf ByteArray.empty t259 x19_1).size + 1) ≤ 9223372036854775807 := by have h := c16; rw [ByteArray.size_append, ByteArray.size_append] at h; exact h); have c16b6 := eq_true c16b5; have c16b7 : decide (x6_1.size + (1 + (rdOf ByteArray.empty t259 x19_1).size + 1) ≤ 9223372036854775807) = true := decide_eq_true c16b5; have c16b8 : (9223372036854775807 < x6_1.size + (1 + (rdOf ByteArray.empty t259 x19_1).size + 1)) = False := eq_false (Nat.not_lt.2 c16b5); have c16b0 := eq_true c16; have c16b1 : decide (x6_1.size + (((⟨#[123]⟩ : ByteArray) ++ (rdOf ByteArray.empty t259 x19_1)) ++ (⟨#[125]⟩ : ByteArray)).size ≤ 9223372036854775807) = true := decide_eq_true c16; (try have c16b2 : (9223372036854775807 < x6_1.size + (((⟨#[123]⟩ : ByteArray) ++ (rdOf ByteArray.empty t259 x19_1)) ++ (⟨#[125]⟩ : ByteArray)).size) = False := eq_false (Nat.not_lt.2 c16)); have H' := Aside0.mk H; clear H; go_wp2; go_roundg kj10; (case measure => have := HK1.out; have := HJ10.out; omega); case rel => exact ⟨(x6_1 ++ (((⟨#[123]⟩ : ByteArray) ++ (rdOf ByteArray.empty t259 x19_1)) ++ (⟨#[125]⟩ : ByteArray))), (wrap64 (x19_1 + 1)), (by first | rfl | (simp; done) | (simp [*]; done)), (by first | rfl | (simp; done) | (simp [*]; done)), H', ⟨by have := HK1.out; have := HJ10.out; omega⟩, ⟨by (with_reducible repeat (first | apply Kd.R_alloc | apply Kd.R_drewN | apply Kd.R_drew)); exact HO_17.out⟩, ⟨by (with_reducible repeat (first | refine blk_drewN ?_ _ | refine blk_drew ?_ | refine blk_alloc ?_ _)); exact BK258.out⟩, ⟨by repeat (first | (with_reducible first | exact HB.out | apply below_alloc | apply pw_below_drewN | apply below_drew1 | refine below_set ?_ GE258.out) | exact HB.out)⟩⟩
            ·rw [if_neg c16] at H; exact absurd H (by simp)
           ·rw [if_neg c15] at H; exact absurd H (by simp)
          ·rw [if_neg c14] at H; exact absurd H (by simp)
         ·replace c13 := Bool.eq_false_iff.mpr c13; subst c13; (have H1 : (if ((rdOf ByteArray.empty t259 x19_1).size : Int) = 1 then (if x6_1.size + (rdOf ByteArray.empty t259 x19_1).size ≤ 9223372036854775807 then (sight_Print.l0 kj10 (x6_1 ++ (rdOf ByteArray.empty t259 x19_1)) t259 (t259.length : Int) (wrap64 (x19_1 + 1))) else (none)) else (if x6_1.size + 1 ≤ 9223372036854775807 then (sight_Print.l0 kj10 (x6_1 ++ (⟨#[45]⟩ : ByteArray)) t259 (t259.length : Int) (wrap64 (x19_1 + 1))) else (none))) = some (r1, r2) := by rw [if_neg (show ¬ (false = true) by decide)] at H; exact H); clear H; have H := H1; clear H1; by_cases c17 : ((rdOf ByteArray.empty t259 x19_1).size : Int) = 1
          ·rw [if_pos c17] at H; have c17b0 : (((rdOf ByteArray.empty t259 x19_1).size : Int) == 1) = true := beq_iff_eq.mpr c17; have c17b1 : (((rdOf ByteArray.empty t259 x19_1).size : Int) != 1) = false := bne_eq_false_iff_eq.mpr c17; clear c17; by_cases c18 : x6_1.size + (rdOf ByteArray.empty t259 x19_1).size ≤ 9223372036854775807
           ·rw [if_pos c18] at H; have c18b0 := eq_true c18; have c18b1 : decide (x6_1.size + (rdOf ByteArray.empty t259 x19_1).size ≤ 9223372036854775807) = true := decide_eq_true c18; (try have c18b2 : (9223372036854775807 < x6_1.size + (rdOf ByteArray.empty t259 x19_1).size) = False := eq_false (Nat.not_lt.2 c18)); have H' := Aside0.mk H; clear H; go_wp2; go_roundg kj10; (case measure => have := HK1.out; have := HJ10.out; omega); case rel => exact ⟨(x6_1 ++ (rdOf ByteArray.empty t259 x19_1)), (wrap64 (x19_1 + 1)), (by first | rfl | (simp; done) | (simp [*]; done)), (by first | rfl | (simp; done) | (simp [*]; done)), H', ⟨by have := HK1.out; have := HJ10.out; omega⟩, ⟨by (with_reducible repeat (first | apply Kd.R_alloc | apply Kd.R_drewN | apply Kd.R_drew)); exact HO_17.out⟩, ⟨by (with_reducible repeat (first | refine blk_drewN ?_ _ | refine blk_drew ?_ | refine blk_alloc ?_ _)); exact BK258.out⟩, ⟨by repeat (first | (with_reducible first | exact HB.out | apply below_alloc | apply pw_below_drewN | apply below_drew1 | refine below_set ?_ GE258.out) | exact HB.out)⟩⟩
           ·rw [if_neg c18] at H; exact absurd H (by simp)
          ·rw [if_neg c17] at H; have c17b0 : (((rdOf ByteArray.empty t259 x19_1).size : Int) == 1) = false := beq_eq_false_iff_ne.mpr c17; have c17b1 : (((rdOf ByteArray.empty t259 x19_1).size : Int) != 1) = true := bne_iff_ne.mpr c17; by_cases c19 : x6_1.size + 1 ≤ 9223372036854775807
           ·rw [if_pos c19] at H; have c19b0 := eq_true c19; have c19b1 : decide (x6_1.size + 1 ≤ 9223372036854775807) = true := decide_eq_true c19; (try have c19b2 : (9223372036854775807 < x6_1.size + 1) = False := eq_false (Nat.not_lt.2 c19)); have H' := Aside0.mk H; clear H; go_wp2; go_roundg kj10; (case measure => have := HK1.out; have := HJ10.out; omega); case rel => exact ⟨(x6_1 ++ (⟨#[45]⟩ : ByteArray)), (wrap64 (x19_1 + 1)), (by first | rfl | (simp; done) | (simp [*]; done)), (by first | rfl | (simp; done) | (simp [*]; done)), H', ⟨by have := HK1.out; have := HJ10.out; omega⟩, ⟨by (with_reducible repeat (first | apply Kd.R_alloc | apply Kd.R_drewN | apply Kd.R_drew)); exact HO_17.out⟩, ⟨by (with_reducible repeat (first | refine blk_drewN ?_ _ | refine blk_drew ?_ | refine blk_alloc ?_ _)); exact BK258.out⟩, ⟨by repeat (first | (with_reducible first | exact HB.out | apply below_alloc | apply pw_below_drewN | apply below_drew1 | refine below_set ?_ GE258.out) | exact HB.out)⟩⟩
           ·rw [if_neg c19] at H; exact absurd H (by simp)
      ·rw [if_neg c10] at H; exact absurd H (by simp)
     ·rw [if_neg c9] at H; exact absurd H (by simp)
    ·rw [if_neg c8] at H; have c8b0 : decide (x19_1 < (t259.length : Int)) = false := decide_eq_false c8; clear c8; simp only [Option.some.injEq, Prod.mk.injEq] at H; obtain ⟨rfl, rfl⟩ := H; go_wp2
     go_ret2
     exact ⟨by first | rfl | (simp [errW_none, errW_some] <;> rfl) | (simp [*, errW_none, errW_some] <;> rfl), by repeat (first | (with_reducible first | exact HB.out | apply below_alloc | apply pw_below_drewN | apply below_drew1 | refine below_set ?_ GE258.out) | exact HB.out)⟩
 ·rw [if_neg c3] at H; have c3b0 : (t262 == 0) = false := beq_eq_false_iff_ne.mpr c3; have c3b1 : (t262 != 0) = true := bne_iff_ne.mpr c3; simp only [Option.some.injEq, Prod.mk.injEq] at H; obtain ⟨rfl, rfl⟩ := H; go_enter Try.func19, Try.ntmps19; go_wp2_with (first | ((with_reducible refine gate_dst (N := 1) rfl ?_); refine box_event ?hg (N := 1) ?hd (cs := #[.slice A0_0 l0_0.length c0_0, .int .i64 a0_1, .int .i64 a0_2, .int .i64 a0_3, .slice A0_4 l0_4.length c0_4]) (t := 25) ?hr ?_; (case hd => rfl); (case hg => rfl); (case hr => first | (go_simp; done) | (go_simp; rfl)); intro gb258 hg w20 hbox hb; have n0_ := Aside0.mk (below_step (by repeat (first | (with_reducible first | exact HB.out | apply below_alloc | apply pw_below_drewN | apply below_drew1) | exact HB.out)) hb); have n1_ := Aside0.mk (hbox); have n2_ := Aside0.mk ((by rw [hg]; exact (below_size (by repeat (first | (with_reducible first | exact HB.out | apply below_alloc | apply pw_below_drewN | apply below_drew1) | exact HB.out))) : w.heap.size ≤ gb258)); have n3_ := Aside0.mk ((by rw [hg]; exact (below_size (by repeat (first | (with_reducible first | exact HB.out | apply below_alloc | apply pw_below_drewN | apply below_drew1) | exact HB.out))) : w.heap.size ≤ gb258)); clear HB; have HB := n0_; have BK258 := n1_; have GW258 := n2_; have GE258 := n3_; clear n0_ n1_ n2_ n3_; clear hb hbox hg; have hcz21_0 : w20.cell? ⟨gb258, 0, none⟩ = some (.slice A0_0 l0_0.length c0_0) := (blk_cell BK258.out 0).trans rfl; have hcz21_1 : w20.cell? ⟨gb258, 1, none⟩ = some (.int .i64 a0_1) := (blk_cell BK258.out 1).trans rfl; have hcz21_2 : w20.cell? ⟨gb258, 2, none⟩ = some (.int .i64 a0_2) := (blk_cell BK258.out 2).trans rfl; have hcz21_3 : w20.cell? ⟨gb258, 3, none⟩ = some (.int .i64 a0_3) := (blk_cell BK258.out 3).trans rfl; have hcz21_4 : w20.cell? ⟨gb258, 4, none⟩ = some (.slice A0_4 l0_4.length c0_4) := (blk_cell BK258.out 4).trans rfl; have hfz21_0 := blk_frozen BK258.out 0; have hfz21_1 := blk_frozen BK258.out 1; have hfz21_2 := blk_frozen BK258.out 2; have hfz21_3 := blk_frozen BK258.out 3; have hfz21_4 := blk_frozen BK258.out 4) | ((with_reducible refine gate_callee (f := 24) rfl ?_); refine goesL_ (some 11) rfl rfl Try.func24 (by kernel_rfl) rfl #[.agg #[.slice A0_0 l0_0.length c0_0, .int .i64 a0_1, .int .i64 a0_2, .int .i64 a0_3, .slice A0_4 l0_4.length c0_4]] rfl (by (try simp only [List.map_toArray, List.map_cons, List.map_nil]); first | done | rfl | (simp only [List.length_drop, List.length_take]; rfl)) ?_; (with_reducible refine (sight_Letters.calls k _ _ l0_0 a0_1 a0_2 a0_3 _ _ l0_4 t259 t262 _ ?side1 ?side2 ?side3 ?side4 A2.out).mono ?_); (case side1 => repeat (first | exact (Kd.C_below HR0_0.out HB.out) | (with_reducible refine Kd.C_alloc ?_ _) | (with_reducible refine Kd.C_drewN ?_ _) | (with_reducible refine Kd.C_drew ?_))); (case side2 => exact HC0_0.out); (case side3 => repeat (first | exact (Kd.C_below HR0_4.out HB.out) | (with_reducible refine Kd.C_alloc ?_ _) | (with_reducible refine Kd.C_drewN ?_ _) | (with_reducible refine Kd.C_drew ?_))); (case side4 => exact HC0_4.out); rintro e w22 ⟨v260, rfl, ho0, hb⟩; refine ⟨_, rfl, ?_⟩; have n0_ := Aside0.mk (Kd.R_lower ho0 (below_size (by repeat (first | (with_reducible first | exact HB.out | apply below_alloc | apply pw_below_drewN | apply below_drew1 | refine below_set ?_ GE258.out) | exact HB.out)))); have n1_ := Aside0.mk (blk_below (g := gb258) (o := .cells #[.slice A0_0 l0_0.length c0_0, .int .i64 a0_1, .int .i64 a0_2, .int .i64 a0_3, .slice A0_4 l0_4.length c0_4] 25 (0, 0)) (by (with_reducible repeat (first | refine blk_drewN ?_ _ | refine blk_drew ?_ | refine blk_alloc ?_ _)); exact BK258.out) hb); have n2_ := Aside0.mk (below_step (by repeat (first | (with_reducible first | exact HB.out | apply below_alloc | apply pw_below_drewN | apply below_drew1 | refine below_set ?_ GE258.out) | exact HB.out)) hb); clear BK258; clear HB; have HO261 := n0_; have BK258 := n1_; have HB := n2_; clear n0_ n1_ n2_; (try clear hb); (try clear hb2); (try clear hk); (try clear hi); (try clear ho0)))
  go_ret2
  exact ⟨by first | rfl | (simp [errW_none, errW_some] <;> rfl) | (simp [*, errW_none, errW_some] <;> rfl), by repeat (first | (with_reducible first | exact HB.out | apply below_alloc | apply pw_below_drewN | apply below_drew1 | refine below_set ?_ GE258.out) | exact HB.out)⟩
end Go.Proofs.Ytihedeofkhapiaa.Pr
end
section
namespace Go.Proofs.Ytihedeofkhapiaa.Pr
open Go.RowKit Go.Proofs.YtihedeofkhapiaaW.PrintWords Go.Proofs.YtihedeofkhapiaaW.PrintLast Go.Proofs.YtihedeofkhapiaaW.PrintMore
attribute [local go_sem] max2_int min2_int max_two min_two max_three min_three max_four min_four
set_option linter.unusedVariables false
set_option linter.unusedSimpArgs false
def cippuslaw01_ready.f (k : Nat)  : Option (Bool) := (cippuslaw01_line.f).bind fun bt303 => ((sight_Letters.f k bt303.1 bt303.2.1 bt303.2.2.1 bt303.2.2.2.1 bt303.2.2.2.2).bind fun bt312 => ((cippuslaw01_line.f).bind fun bt316 => ((sight_Print.f k bt316.1 bt316.2.1 bt316.2.2.1 bt316.2.2.2.1 bt316.2.2.2.2).bind fun bt325 => ((cippuslaw01_seen.f 1 (([(⟨15, 15⟩ : S27)] : List (S27)))).bind fun bt330 => ((sight_Marks.f bt330.1 bt330.2.1 bt330.2.2.1 bt330.2.2.2.1 bt330.2.2.2.2).bind fun bt339 => (if bt312.2 = 0 then (if bt325.2 = 0 then (if bt339.2 = 0 then (if bt339.1 = 1 then (if bt325.1.toList = ([65, 123, 65, 76, 125, 84] : List UInt8) then ((cippuskit_SameTexts.f k bt312.1 (([(⟨#[65]⟩ : ByteArray), (⟨#[65, 76]⟩ : ByteArray), (⟨#[84]⟩ : ByteArray)] : List ByteArray))).bind fun t344 => (some t344)) else (some false)) else (some false)) else (some false)) else (some false)) else (some false)))))))
theorem cippuslaw01_ready.mono : ∀ k, LeO (cippuslaw01_ready.f k ) (cippuslaw01_ready.f (k + 1) ) := by
 intro  k; unfold cippuslaw01_ready.f
 repeat' first
  | (with_reducible exact cippuskit_SameTexts.mono _ _ _)
  | (with_reducible exact sight_Letters.mono _ _ _ _ _ _)
  | (with_reducible exact sight_Print.mono _ _ _ _ _ _)
  | (with_reducible exact LeO.refl _)
  | (with_reducible exact LeO.none _)
  | (with_reducible refine LeO.ite ?_ ?_)
  | (with_reducible refine LeO.bind ?_ (fun _ => ?_))
  | exact cippuskit_SameTexts.mono _ _ _
  | exact sight_Letters.mono _ _ _ _ _ _
  | exact sight_Print.mono _ _ _ _ _ _
  | exact LeO.none _
  | refine LeO.ite ?_ ?_
  | refine LeO.bind ?_ (fun _ => ?_)
set_option maxRecDepth 100000 in
theorem ready_60 : cippuslaw01_ready.f 60 = some true := by decide +kernel
theorem ready_true {k : Nat} {r : Bool} (h : cippuslaw01_ready.f k = some r) : r = true := by
 have h1 := at_rounds cippuslaw01_ready.mono (Nat.le_max_left k 60) h; have h2 := at_rounds cippuslaw01_ready.mono (Nat.le_max_right k 60) ready_60; exact Option.some.inj (h1.symm.trans h2)
set_option maxHeartbeats 8000000 in
set_option maxRecDepth 100000 in
theorem cippuslaw01_ready.calls (k : Nat)  (r : Bool) (w : World) (h : cippuslaw01_ready.f k  = some r) :
 Calls Try.prog 14 #[] w fun e w' => e = .returned (.bool r) ∧ Below w.heap.size w w' := by
 have hrT := ready_true h; have hu27 := Try.underlying27; have HB := Aside0.mk (Below.refl w.heap.size w); have H : ((cippuslaw01_line.f).bind fun bt303 => ((sight_Letters.f k bt303.1 bt303.2.1 bt303.2.2.1 bt303.2.2.2.1 bt303.2.2.2.2).bind fun bt312 => ((cippuslaw01_line.f).bind fun bt316 => ((sight_Print.f k bt316.1 bt316.2.1 bt316.2.2.1 bt316.2.2.2.1 bt316.2.2.2.2).bind fun bt325 => ((cippuslaw01_seen.f 1 (([(⟨15, 15⟩ : S27)] : List (S27)))).bind fun bt330 => ((sight_Marks.f bt330.1 bt330.2.1 bt330.2.2.1 bt330.2.2.2.1 bt330.2.2.2.2).bind fun bt339 => (if bt312.2 = 0 then (if bt325.2 = 0 then (if bt339.2 = 0 then (if bt339.1 = 1 then (if bt325.1.toList = ([65, 123, 65, 76, 125, 84] : List UInt8) then ((cippuskit_SameTexts.f k bt312.1 (([(⟨#[65]⟩ : ByteArray), (⟨#[65, 76]⟩ : ByteArray), (⟨#[84]⟩ : ByteArray)] : List ByteArray))).bind fun t344 => (some t344)) else (some false)) else (some false)) else (some false)) else (some false)) else (some false)))))))) = some r := h; clear h; replace H := Option.bind_eq_some_iff.mp H; obtain ⟨⟨t303, t306, t307, t308, t309⟩, A10, H⟩ := H; replace H : ((sight_Letters.f k t303 t306 t307 t308 t309).bind fun bt312 => ((cippuslaw01_line.f).bind fun bt316 => ((sight_Print.f k bt316.1 bt316.2.1 bt316.2.2.1 bt316.2.2.2.1 bt316.2.2.2.2).bind fun bt325 => ((cippuslaw01_seen.f 1 (([(⟨15, 15⟩ : S27)] : List (S27)))).bind fun bt330 => ((sight_Marks.f bt330.1 bt330.2.1 bt330.2.2.1 bt330.2.2.2.1 bt330.2.2.2.2).bind fun bt339 => (if bt312.2 = 0 then (if bt325.2 = 0 then (if bt339.2 = 0 then (if bt339.1 = 1 then (if bt325.1.toList = ([65, 123, 65, 76, 125, 84] : List UInt8) then ((cippuskit_SameTexts.f k bt312.1 (([(⟨#[65]⟩ : ByteArray), (⟨#[65, 76]⟩ : ByteArray), (⟨#[84]⟩ : ByteArray)] : List ByteArray))).bind fun t344 => (some t344)) else (some false)) else (some false)) else (some false)) else (some false)) else (some false))))))) = some r := H; have A1 := Aside0.mk A10; clear A10; replace H := Option.bind_eq_some_iff.mp H; obtain ⟨⟨t312, t315⟩, A20, H⟩ := H; replace H : ((cippuslaw01_line.f).bind fun bt316 => ((sight_Print.f k bt316.1 bt316.2.1 bt316.2.2.1 bt316.2.2.2.1 bt316.2.2.2.2).bind fun bt325 => ((cippuslaw01_seen.f 1 (([(⟨15, 15⟩ : S27)] : List (S27)))).bind fun bt330 => ((sight_Marks.f bt330.1 bt330.2.1 bt330.2.2.1 bt330.2.2.2.1 bt330.2.2.2.2).bind fun bt339 => (if t315 = 0 then (if bt325.2 = 0 then (if bt339.2 = 0 then (if bt339.1 = 1 then (if bt325.1.toList = ([65, 123, 65, 76, 125, 84] : List UInt8) then ((cippuskit_SameTexts.f k t312 (([(⟨#[65]⟩ : ByteArray), (⟨#[65, 76]⟩ : ByteArray), (⟨#[84]⟩ : ByteArray)] : List ByteArray))).bind fun t344 => (some t344)) else (some false)) else (some false)) else (some false)) else (some false)) else (some false)))))) = some r := H; have A2 := Aside0.mk A20; clear A20; replace H := Option.bind_eq_some_iff.mp H; obtain ⟨⟨t316, t319, t320, t321, t322⟩, A30, H⟩ := H; replace H : ((sight_Print.f k t316 t319 t320 t321 t322).bind fun bt325 => ((cippuslaw01_seen.f 1 (([(⟨15, 15⟩ : S27)] : List (S27)))).bind fun bt330 => ((sight_Marks.f bt330.1 bt330.2.1 bt330.2.2.1 bt330.2.2.2.1 bt330.2.2.2.2).bind fun bt339 => (if t315 = 0 then (if bt325.2 = 0 then (if bt339.2 = 0 then (if bt339.1 = 1 then (if bt325.1.toList = ([65, 123, 65, 76, 125, 84] : List UInt8) then ((cippuskit_SameTexts.f k t312 (([(⟨#[65]⟩ : ByteArray), (⟨#[65, 76]⟩ : ByteArray), (⟨#[84]⟩ : ByteArray)] : List ByteArray))).bind fun t344 => (some t344)) else (some false)) else (some false)) else (some false)) else (some false)) else (some false))))) = some r := H; have A3 := Aside0.mk A30; clear A30; replace H := Option.bind_eq_some_iff.mp H; obtain ⟨⟨t325, t326⟩, A40, H⟩ := H; replace H : ((cippuslaw01_seen.f 1 (([(⟨15, 15⟩ : S27)] : List (S27)))).bind fun bt330 => ((sight_Marks.f bt330.1 bt330.2.1 bt330.2.2.1 bt330.2.2.2.1 bt330.2.2.2.2).bind fun bt339 => (if t315 = 0 then (if t326 = 0 then (if bt339.2 = 0 then (if bt339.1 = 1 then (if t325.toList = ([65, 123, 65, 76, 125, 84] : List UInt8) then ((cippuskit_SameTexts.f k t312 (([(⟨#[65]⟩ : ByteArray), (⟨#[65, 76]⟩ : ByteArray), (⟨#[84]⟩ : ByteArray)] : List ByteArray))).bind fun t344 => (some t344)) else (some false)) else (some false)) else (some false)) else (some false)) else (some false)))) = some r := H; have A4 := Aside0.mk A40; clear A40; obtain ⟨y327, hy327⟩ : ∃ y_ : List (S27), y_ = (([(⟨15, 15⟩ : S27)] : List (S27))) := ⟨_, rfl⟩; (replace H : ((cippuslaw01_seen.f 1 y327).bind fun bt330 => ((sight_Marks.f bt330.1 bt330.2.1 bt330.2.2.1 bt330.2.2.2.1 bt330.2.2.2.2).bind fun bt339 => (if t315 = 0 then (if t326 = 0 then (if bt339.2 = 0 then (if bt339.1 = 1 then (if t325.toList = ([65, 123, 65, 76, 125, 84] : List UInt8) then ((cippuskit_SameTexts.f k t312 (([(⟨#[65]⟩ : ByteArray), (⟨#[65, 76]⟩ : ByteArray), (⟨#[84]⟩ : ByteArray)] : List ByteArray))).bind fun t344 => (some t344)) else (some false)) else (some false)) else (some false)) else (some false)) else (some false)))) = some r := by first | (rw [hy327]; with_reducible exact H) | (have H2_ := (Option.bind_some _ _).symm.trans H; rw [hy327]; with_reducible exact H2_) | (have H2_ := (Option.bind_some _ _).symm.trans H; with_reducible exact H2_) | with_reducible exact H | (rw [hy327]; exact H) | exact H); have Ny327 := Aside0.mk hy327; clear hy327; replace H := Option.bind_eq_some_iff.mp H; obtain ⟨⟨t330, t333, t334, t335, t336⟩, A50, H⟩ := H; replace H : ((sight_Marks.f t330 t333 t334 t335 t336).bind fun bt339 => (if t315 = 0 then (if t326 = 0 then (if bt339.2 = 0 then (if bt339.1 = 1 then (if t325.toList = ([65, 123, 65, 76, 125, 84] : List UInt8) then ((cippuskit_SameTexts.f k t312 (([(⟨#[65]⟩ : ByteArray), (⟨#[65, 76]⟩ : ByteArray), (⟨#[84]⟩ : ByteArray)] : List ByteArray))).bind fun t344 => (some t344)) else (some false)) else (some false)) else (some false)) else (some false)) else (some false))) = some r := H; have A5 := Aside0.mk A50; clear A50; replace H := Option.bind_eq_some_iff.mp H; obtain ⟨⟨t339, t340⟩, A60, H⟩ := H; replace H : (if t315 = 0 then (if t326 = 0 then (if t340 = 0 then (if t339 = 1 then (if t325.toList = ([65, 123, 65, 76, 125, 84] : List UInt8) then ((cippuskit_SameTexts.f k t312 (([(⟨#[65]⟩ : ByteArray), (⟨#[65, 76]⟩ : ByteArray), (⟨#[84]⟩ : ByteArray)] : List ByteArray))).bind fun t344 => (some t344)) else (some false)) else (some false)) else (some false)) else (some false)) else (some false)) = some r := H; have A6 := Aside0.mk A60; clear A60; by_cases c7 : t315 = 0
 ·rw [if_pos c7] at H; have c7b0 : (t315 == 0) = true := beq_iff_eq.mpr c7; have c7b1 : (t315 != 0) = false := bne_eq_false_iff_eq.mpr c7; clear c7; by_cases c8 : t326 = 0
  ·rw [if_pos c8] at H; have c8b0 : (t326 == 0) = true := beq_iff_eq.mpr c8; have c8b1 : (t326 != 0) = false := bne_eq_false_iff_eq.mpr c8; clear c8; by_cases c9 : t340 = 0
   ·rw [if_pos c9] at H; have c9b0 : (t340 == 0) = true := beq_iff_eq.mpr c9; have c9b1 : (t340 != 0) = false := bne_eq_false_iff_eq.mpr c9; clear c9; by_cases c10 : t339 = 1
    ·rw [if_pos c10] at H; have c10b0 : (t339 == 1) = true := beq_iff_eq.mpr c10; have c10b1 : (t339 != 1) = false := bne_eq_false_iff_eq.mpr c10; clear c10; by_cases c11 : t325.toList = ([65, 123, 65, 76, 125, 84] : List UInt8)
     ·rw [if_pos c11] at H; have c11b0 : (t325.toList == ([65, 123, 65, 76, 125, 84] : List UInt8)) = true := beq_iff_eq.mpr c11; have c11b1 : (t325.toList != ([65, 123, 65, 76, 125, 84] : List UInt8)) = false := bne_eq_false_iff_eq.mpr c11; clear c11; obtain ⟨y341, hy341⟩ : ∃ y_ : List ByteArray, y_ = (([(⟨#[65]⟩ : ByteArray), (⟨#[65, 76]⟩ : ByteArray), (⟨#[84]⟩ : ByteArray)] : List ByteArray)) := ⟨_, rfl⟩; (replace H : ((cippuskit_SameTexts.f k t312 y341).bind fun t344 => (some t344)) = some r := by first | (rw [hy341]; with_reducible exact H) | (have H2_ := (Option.bind_some _ _).symm.trans H; rw [hy341]; with_reducible exact H2_) | (have H2_ := (Option.bind_some _ _).symm.trans H; with_reducible exact H2_) | with_reducible exact H | (rw [hy341]; exact H) | exact H); have Ny341 := Aside0.mk hy341; clear hy341; replace H := Option.bind_eq_some_iff.mp H; obtain ⟨t344, A120, H⟩ := H; replace H : (some t344) = some r := H; have A12 := Aside0.mk A120; clear A120; obtain rfl := Option.some.inj H; go_enter Try.func14, Try.ntmps14; go_wp2_with (first | ((with_reducible refine gate_callee (f := 48) rfl ?_); refine goesL_ (some 8) rfl rfl Try.func48 (by kernel_rfl) rfl #[] rfl (by (try simp only [List.map_toArray, List.map_cons, List.map_nil]); first | done | rfl | (simp only [List.length_drop, List.length_take]; rfl)) ?_; (with_reducible refine (cippuslaw01_line.calls  t303 t306 t307 t308 t309 _ A1.out).mono ?_); rintro e w13 ⟨v304, v310, rfl, ho0, ho1, hb⟩; refine ⟨_, rfl, ?_⟩; have n0_ := Aside0.mk (Kd.N_lower (Kd.N_mono (ok' := fun k_ => some k_ ≠ (v310 : Value).ownBlock) ho0 (fun k_ hk_ => hk_.2)) (below_size (by repeat (first | (with_reducible first | exact HB.out | apply below_alloc | apply pw_below_drewN | apply below_drew1) | exact HB.out)))); have n1_ := Aside0.mk (Kd.N_lower (Kd.N_mono (ok' := fun k_ => some k_ ≠ (v304 : Value).ownBlock) ho1 (fun k_ hk_ => hk_.2)) (below_size (by repeat (first | (with_reducible first | exact HB.out | apply below_alloc | apply pw_below_drewN | apply below_drew1) | exact HB.out)))); have n2_ := Aside0.mk (below_step (by repeat (first | (with_reducible first | exact HB.out | apply below_alloc | apply pw_below_drewN | apply below_drew1) | exact HB.out)) hb); clear HB; have HO305 := n0_; have HO311 := n1_; have HB := n2_; clear n0_ n1_ n2_; (try clear hb); (try clear hb2); (try clear hk); (try clear hi); (try clear ho0); (try clear ho1); obtain ⟨Ao14, co14, eo14⟩ := Kd.N_slice HO305.out; subst eo14; obtain ⟨Ao15, co15, eo15⟩ := Kd.N_slice HO311.out; subst eo15) | ((with_reducible refine gate_callee (f := 24) rfl ?_); refine goesL_ (some 9) rfl rfl Try.func24 (by kernel_rfl) rfl #[.agg #[.slice Ao14 t303.length co14, .int .i64 t306, .int .i64 t307, .int .i64 t308, .slice Ao15 t309.length co15]] rfl (by (try simp only [List.map_toArray, List.map_cons, List.map_nil]); first | done | rfl | (simp only [List.length_drop, List.length_take]; rfl)) ?_; (with_reducible refine (sight_Letters.calls k _ _ t303 t306 t307 t308 _ _ t309 t312 t315 _ ?side1 ?side2 ?side3 ?side4 A2.out).mono ?_); (case side1 => repeat (first | exact (Kd.N_reads' HO305.out).2.2 | (with_reducible refine Kd.C_alloc ?_ _) | (with_reducible refine Kd.C_drewN ?_ _) | (with_reducible refine Kd.C_drew ?_))); (case side2 => exact (Kd.N_reads' HO305.out).2.1); (case side3 => repeat (first | exact (Kd.N_reads' HO311.out).2.2 | (with_reducible refine Kd.C_alloc ?_ _) | (with_reducible refine Kd.C_drewN ?_ _) | (with_reducible refine Kd.C_drew ?_))); (case side4 => exact (Kd.N_reads' HO311.out).2.1); rintro e w16 ⟨v313, rfl, ho0, hb⟩; refine ⟨_, rfl, ?_⟩; have n0_ := Aside0.mk (Kd.N_elder' (by (with_reducible repeat (first | apply Kd.N_alloc | apply Kd.N_drewN | apply Kd.N_drew)); exact HO305.out) (Kd.R_base ho0) hb); have n1_ := Aside0.mk (Kd.N_elder' (by (with_reducible repeat (first | apply Kd.N_alloc | apply Kd.N_drewN | apply Kd.N_drew)); exact HO311.out) (Kd.R_base ho0) hb); have n2_ := Aside0.mk (Kd.R_lower ho0 (below_size (by repeat (first | (with_reducible first | exact HB.out | apply below_alloc | apply pw_below_drewN | apply below_drew1) | exact HB.out)))); have n3_ := Aside0.mk (below_step (by repeat (first | (with_reducible first | exact HB.out | apply below_alloc | apply pw_below_drewN | apply below_drew1) | exact HB.out)) hb); clear HO305; clear HO311; clear HB; have HO305 := n0_; have HO311 := n1_; have HO314 := n2_; have HB := n3_; clear n0_ n1_ n2_ n3_; (try clear hb); (try clear hb2); (try clear hk); (try clear hi); (try clear ho0)) | ((with_reducible refine gate_callee (f := 48) rfl ?_); refine goesL_ (some 13) rfl rfl Try.func48 (by kernel_rfl) rfl #[] rfl (by (try simp only [List.map_toArray, List.map_cons, List.map_nil]); first | done | rfl | (simp only [List.length_drop, List.length_take]; rfl)) ?_; (with_reducible refine (cippuslaw01_line.calls  t316 t319 t320 t321 t322 _ A3.out).mono ?_); rintro e w17 ⟨v317, v323, rfl, ho0, ho1, hb⟩; refine ⟨_, rfl, ?_⟩; have n0_ := Aside0.mk (Kd.N_mono (Kd.N_told (Kd.N_told (Kd.N_old (by (with_reducible repeat (first | apply Kd.N_alloc | apply Kd.N_drewN | apply Kd.N_drew)); exact HO305.out) hb) (Kd.N_base ho0)) (Kd.N_base ho1)) (fun _ h_ => h_.1)); have n1_ := Aside0.mk (Kd.N_mono (Kd.N_told (Kd.N_told (Kd.N_old (by (with_reducible repeat (first | apply Kd.N_alloc | apply Kd.N_drewN | apply Kd.N_drew)); exact HO311.out) hb) (Kd.N_base ho0)) (Kd.N_base ho1)) (fun _ h_ => h_.1)); have n2_ := Aside0.mk (Kd.R_below (by (with_reducible repeat (first | apply Kd.R_alloc | apply Kd.R_drewN | apply Kd.R_drew)); exact HO314.out) hb); have n3_ := Aside0.mk (Kd.N_lower (Kd.N_mono (ok' := fun k_ => some k_ ≠ (v323 : Value).ownBlock ∧ some k_ ≠ (.slice Ao14 t303.length co14 : Value).ownBlock ∧ some k_ ≠ (.slice Ao15 t309.length co15 : Value).ownBlock ∧ some k_ ≠ (v313 : Value).ownBlock) ho0 (fun k_ hk_ => ⟨hk_.2, (Kd.fresh' (Kd.N_lt (by (with_reducible repeat (first | apply Kd.N_alloc | apply Kd.N_drewN | apply Kd.N_drew)); exact HO305.out)) k_ hk_.1), (Kd.fresh' (Kd.N_lt (by (with_reducible repeat (first | apply Kd.N_alloc | apply Kd.N_drewN | apply Kd.N_drew)); exact HO311.out)) k_ hk_.1), (Kd.fresh' (Kd.R_lt (by (with_reducible repeat (first | apply Kd.R_alloc | apply Kd.R_drewN | apply Kd.R_drew)); exact HO314.out)) k_ hk_.1)⟩)) (below_size (by repeat (first | (with_reducible first | exact HB.out | apply below_alloc | apply pw_below_drewN | apply below_drew1) | exact HB.out)))); have n4_ := Aside0.mk (Kd.N_lower (Kd.N_mono (ok' := fun k_ => some k_ ≠ (v317 : Value).ownBlock ∧ some k_ ≠ (.slice Ao14 t303.length co14 : Value).ownBlock ∧ some k_ ≠ (.slice Ao15 t309.length co15 : Value).ownBlock ∧ some k_ ≠ (v313 : Value).ownBlock) ho1 (fun k_ hk_ => ⟨hk_.2, (Kd.fresh' (Kd.N_lt (by (with_reducible repeat (first | apply Kd.N_alloc | apply Kd.N_drewN | apply Kd.N_drew)); exact HO305.out)) k_ hk_.1), (Kd.fresh' (Kd.N_lt (by (with_reducible repeat (first | apply Kd.N_alloc | apply Kd.N_drewN | apply Kd.N_drew)); exact HO311.out)) k_ hk_.1), (Kd.fresh' (Kd.R_lt (by (with_reducible repeat (first | apply Kd.R_alloc | apply Kd.R_drewN | apply Kd.R_drew)); exact HO314.out)) k_ hk_.1)⟩)) (below_size (by repeat (first | (with_reducible first | exact HB.out | apply below_alloc | apply pw_below_drewN | apply below_drew1) | exact HB.out)))); have n5_ := Aside0.mk (below_step (by repeat (first | (with_reducible first | exact HB.out | apply below_alloc | apply pw_below_drewN | apply below_drew1) | exact HB.out)) hb); clear HO305; clear HO311; clear HO314; clear HB; have HO305 := n0_; have HO311 := n1_; have HO314 := n2_; have HO318 := n3_; have HO324 := n4_; have HB := n5_; clear n0_ n1_ n2_ n3_ n4_ n5_; (try clear hb); (try clear hb2); (try clear hk); (try clear hi); (try clear ho0); (try clear ho1); obtain ⟨Ao18, co18, eo18⟩ := Kd.N_slice HO318.out; subst eo18; obtain ⟨Ao19, co19, eo19⟩ := Kd.N_slice HO324.out; subst eo19) | ((with_reducible refine gate_callee (f := 19) rfl ?_); refine goesL_ (some 14) rfl rfl Try.func19 (by kernel_rfl) rfl #[.agg #[.slice Ao18 t316.length co18, .int .i64 t319, .int .i64 t320, .int .i64 t321, .slice Ao19 t322.length co19]] rfl (by (try simp only [List.map_toArray, List.map_cons, List.map_nil]); first | done | rfl | (simp only [List.length_drop, List.length_take]; rfl)) ?_; (with_reducible refine (sight_Print.calls k _ _ t316 t319 t320 t321 _ _ t322 t325 t326 _ ?side1 ?side2 ?side3 ?side4 A4.out).mono ?_); (case side1 => repeat (first | exact (Kd.N_reads' HO318.out).2.2 | (with_reducible refine Kd.C_alloc ?_ _) | (with_reducible refine Kd.C_drewN ?_ _) | (with_reducible refine Kd.C_drew ?_))); (case side2 => exact (Kd.N_reads' HO318.out).2.1); (case side3 => repeat (first | exact (Kd.N_reads' HO324.out).2.2 | (with_reducible refine Kd.C_alloc ?_ _) | (with_reducible refine Kd.C_drewN ?_ _) | (with_reducible refine Kd.C_drew ?_))); (case side4 => exact (Kd.N_reads' HO324.out).2.1); rintro e w20 ⟨rfl, hb⟩; refine ⟨_, rfl, ?_⟩; have n0_ := Aside0.mk (Kd.N_below (by (with_reducible repeat (first | apply Kd.N_alloc | apply Kd.N_drewN | apply Kd.N_drew)); exact HO305.out) hb); have n1_ := Aside0.mk (Kd.N_below (by (with_reducible repeat (first | apply Kd.N_alloc | apply Kd.N_drewN | apply Kd.N_drew)); exact HO311.out) hb); have n2_ := Aside0.mk (Kd.R_below (by (with_reducible repeat (first | apply Kd.R_alloc | apply Kd.R_drewN | apply Kd.R_drew)); exact HO314.out) hb); have n3_ := Aside0.mk (Kd.N_below (by (with_reducible repeat (first | apply Kd.N_alloc | apply Kd.N_drewN | apply Kd.N_drew)); exact HO318.out) hb); have n4_ := Aside0.mk (Kd.N_below (by (with_reducible repeat (first | apply Kd.N_alloc | apply Kd.N_drewN | apply Kd.N_drew)); exact HO324.out) hb); have n5_ := Aside0.mk (below_step (by repeat (first | (with_reducible first | exact HB.out | apply below_alloc | apply pw_below_drewN | apply below_drew1) | exact HB.out)) hb); clear HO305; clear HO311; clear HO314; clear HO318; clear HO324; clear HB; have HO305 := n0_; have HO311 := n1_; have HO314 := n2_; have HO318 := n3_; have HO324 := n4_; have HB := n5_; clear n0_ n1_ n2_ n3_ n4_ n5_; (try clear hb); (try clear hb2); (try clear hk); (try clear hi)) | ((with_reducible refine gate_dst (N := 19) rfl ?_); (try (refine gate_guard (by rfl) ?_; dsimp only)); refine Kd.R_lit k27 _ 27 ?hg (N := 19) ?hd (xs := ([(⟨15, 15⟩ : S27)] : List (S27))) (inner := [.int .i64 15, .int .i64 15]) (ok := fun _ => True) (okp := fun _ => True) ?hr ?hp (fun _ hk => hk) trivial (Below.refl _ _) (Nat.le_refl _) (by simp) ?_; (case hd => rfl); (case hg => rfl); (case hr => first | (go_simp; done) | (go_simp; rfl)); (case hp => exact (Reps.c2 (show Kd.M k27 _ _ _ (⟨15, 15⟩ : S27) [.int .i64 15, .int .i64 15] from (k27_mkM _ _ _ (⟨15, 15⟩ : S27) )) (Reps.none _ _))); intro v328 w21 ho22 hb hg_ hnew_; clear hg_ hnew_; (first | rw [← Ny327.out] at ho22 | (simp only [Int.reduceToNat] at ho22; rw [← Ny327.out] at ho22)); have n0_ := Aside0.mk (Kd.N_elder' (by (with_reducible repeat (first | apply Kd.N_alloc | apply Kd.N_drewN | apply Kd.N_drew)); exact HO305.out) (Kd.R_base ho22) hb); have n1_ := Aside0.mk (Kd.N_elder' (by (with_reducible repeat (first | apply Kd.N_alloc | apply Kd.N_drewN | apply Kd.N_drew)); exact HO311.out) (Kd.R_base ho22) hb); have n2_ := Aside0.mk (Kd.R_below (by (with_reducible repeat (first | apply Kd.R_alloc | apply Kd.R_drewN | apply Kd.R_drew)); exact HO314.out) hb); have n3_ := Aside0.mk (Kd.N_elder' (by (with_reducible repeat (first | apply Kd.N_alloc | apply Kd.N_drewN | apply Kd.N_drew)); exact HO318.out) (Kd.R_base ho22) hb); have n4_ := Aside0.mk (Kd.N_elder' (by (with_reducible repeat (first | apply Kd.N_alloc | apply Kd.N_drewN | apply Kd.N_drew)); exact HO324.out) (Kd.R_base ho22) hb); have n5_ := Aside0.mk (Kd.R_lower ho22 (below_size (by repeat (first | (with_reducible first | exact HB.out | apply below_alloc | apply pw_below_drewN | apply below_drew1) | exact HB.out)))); have n6_ := Aside0.mk (below_step (by repeat (first | (with_reducible first | exact HB.out | apply below_alloc | apply pw_below_drewN | apply below_drew1) | exact HB.out)) hb); clear HO305; clear HO311; clear HO314; clear HO318; clear HO324; clear HB; have HO305 := n0_; have HO311 := n1_; have HO314 := n2_; have HO318 := n3_; have HO324 := n4_; have HO329 := n5_; have HB := n6_; clear n0_ n1_ n2_ n3_ n4_ n5_ n6_; clear hb ho22; obtain ⟨Ao23, co23, eo23⟩ := Kd.R_slice HO329.out; subst eo23) | ((with_reducible refine gate_callee (f := 49) rfl ?_); refine goesL_ (some 20) rfl rfl Try.func49 (by kernel_rfl) rfl #[.int .i64 1, .slice Ao23 y327.length co23] rfl (by (try simp only [List.map_toArray, List.map_cons, List.map_nil]); first | done | rfl | (simp only [List.length_drop, List.length_take]; rfl)) ?_; (with_reducible refine (cippuslaw01_seen.calls 1 (fun k_ => some k_ = (.slice Ao23 y327.length co23 : Value).ownBlock) _ _ y327 t330 t333 t334 t335 t336 _ ?side1 A5.out).mono ?_); (case side1 => exact Kd.R_V (Kd.R_tight rfl (Kd.R_apart' (Kd.R_apart' (Kd.R_apart' (Kd.R_apart' (Kd.R_apart' (HO329.out) (Kd.N_typed HO305.out) (by decide)) (Kd.N_typed HO311.out) (by decide)) (Kd.R_typed HO314.out) (by decide)) (Kd.N_typed HO318.out) (by decide)) (Kd.N_typed HO324.out) (by decide)))); rintro e w24 ⟨v331, v337, rfl, ho0, ho1, hb⟩; refine ⟨_, rfl, ?_⟩; have n0_ := Aside0.mk (Kd.N_mono (Kd.N_told (Kd.N_told (Kd.N_old (by (with_reducible repeat (first | apply Kd.N_alloc | apply Kd.N_drewN | apply Kd.N_drew)); exact HO305.out) hb) (Kd.N_base ho0)) (Kd.N_base ho1)) (fun _ h_ => h_.1)); have n1_ := Aside0.mk (Kd.N_mono (Kd.N_told (Kd.N_told (Kd.N_old (by (with_reducible repeat (first | apply Kd.N_alloc | apply Kd.N_drewN | apply Kd.N_drew)); exact HO311.out) hb) (Kd.N_base ho0)) (Kd.N_base ho1)) (fun _ h_ => h_.1)); have n2_ := Aside0.mk (Kd.R_below (by (with_reducible repeat (first | apply Kd.R_alloc | apply Kd.R_drewN | apply Kd.R_drew)); exact HO314.out) hb); have n3_ := Aside0.mk (Kd.N_mono (Kd.N_told (Kd.N_told (Kd.N_old (by (with_reducible repeat (first | apply Kd.N_alloc | apply Kd.N_drewN | apply Kd.N_drew)); exact HO318.out) hb) (Kd.N_base ho0)) (Kd.N_base ho1)) (fun _ h_ => h_.1)); have n4_ := Aside0.mk (Kd.N_mono (Kd.N_told (Kd.N_told (Kd.N_old (by (with_reducible repeat (first | apply Kd.N_alloc | apply Kd.N_drewN | apply Kd.N_drew)); exact HO324.out) hb) (Kd.N_base ho0)) (Kd.N_base ho1)) (fun _ h_ => h_.1)); have n5_ := Aside0.mk (Kd.R_below (by (with_reducible repeat (first | apply Kd.R_alloc | apply Kd.R_drewN | apply Kd.R_drew)); exact HO329.out) hb); have n6_ := Aside0.mk (Kd.N_lower (Kd.N_mono (ok' := fun k_ => some k_ ≠ (v337 : Value).ownBlock ∧ some k_ ≠ (.slice Ao14 t303.length co14 : Value).ownBlock ∧ some k_ ≠ (.slice Ao15 t309.length co15 : Value).ownBlock ∧ some k_ ≠ (v313 : Value).ownBlock ∧ some k_ ≠ (.slice Ao18 t316.length co18 : Value).ownBlock ∧ some k_ ≠ (.slice Ao19 t322.length co19 : Value).ownBlock) ho0 (fun k_ hk_ => ⟨hk_.2, Or.elim hk_.1 (fun hs_ => ((Kd.R_apart' (Kd.R_apart' (Kd.R_apart' (Kd.R_apart' (Kd.R_apart' (HO329.out) (Kd.N_typed HO305.out) (by decide)) (Kd.N_typed HO311.out) (by decide)) (Kd.R_typed HO314.out) (by decide)) (Kd.N_typed HO318.out) (by decide)) (Kd.N_typed HO324.out) (by decide)).1 k_ hs_.symm).1.1.1.1.2) (fun hn_ => (Kd.fresh' (Kd.N_lt (by (with_reducible repeat (first | apply Kd.N_alloc | apply Kd.N_drewN | apply Kd.N_drew)); exact HO305.out)) k_ hn_)), Or.elim hk_.1 (fun hs_ => ((Kd.R_apart' (Kd.R_apart' (Kd.R_apart' (Kd.R_apart' (Kd.R_apart' (HO329.out) (Kd.N_typed HO305.out) (by decide)) (Kd.N_typed HO311.out) (by decide)) (Kd.R_typed HO314.out) (by decide)) (Kd.N_typed HO318.out) (by decide)) (Kd.N_typed HO324.out) (by decide)).1 k_ hs_.symm).1.1.1.2) (fun hn_ => (Kd.fresh' (Kd.N_lt (by (with_reducible repeat (first | apply Kd.N_alloc | apply Kd.N_drewN | apply Kd.N_drew)); exact HO311.out)) k_ hn_)), Or.elim hk_.1 (fun hs_ => ((Kd.R_apart' (Kd.R_apart' (Kd.R_apart' (Kd.R_apart' (Kd.R_apart' (HO329.out) (Kd.N_typed HO305.out) (by decide)) (Kd.N_typed HO311.out) (by decide)) (Kd.R_typed HO314.out) (by decide)) (Kd.N_typed HO318.out) (by decide)) (Kd.N_typed HO324.out) (by decide)).1 k_ hs_.symm).1.1.2) (fun hn_ => (Kd.fresh' (Kd.R_lt (by (with_reducible repeat (first | apply Kd.R_alloc | apply Kd.R_drewN | apply Kd.R_drew)); exact HO314.out)) k_ hn_)), Or.elim hk_.1 (fun hs_ => ((Kd.R_apart' (Kd.R_apart' (Kd.R_apart' (Kd.R_apart' (Kd.R_apart' (HO329.out) (Kd.N_typed HO305.out) (by decide)) (Kd.N_typed HO311.out) (by decide)) (Kd.R_typed HO314.out) (by decide)) (Kd.N_typed HO318.out) (by decide)) (Kd.N_typed HO324.out) (by decide)).1 k_ hs_.symm).1.2) (fun hn_ => (Kd.fresh' (Kd.N_lt (by (with_reducible repeat (first | apply Kd.N_alloc | apply Kd.N_drewN | apply Kd.N_drew)); exact HO318.out)) k_ hn_)), Or.elim hk_.1 (fun hs_ => ((Kd.R_apart' (Kd.R_apart' (Kd.R_apart' (Kd.R_apart' (Kd.R_apart' (HO329.out) (Kd.N_typed HO305.out) (by decide)) (Kd.N_typed HO311.out) (by decide)) (Kd.R_typed HO314.out) (by decide)) (Kd.N_typed HO318.out) (by decide)) (Kd.N_typed HO324.out) (by decide)).1 k_ hs_.symm).2) (fun hn_ => (Kd.fresh' (Kd.N_lt (by (with_reducible repeat (first | apply Kd.N_alloc | apply Kd.N_drewN | apply Kd.N_drew)); exact HO324.out)) k_ hn_))⟩)) (below_size (by repeat (first | (with_reducible first | exact HB.out | apply below_alloc | apply pw_below_drewN | apply below_drew1) | exact HB.out)))); have n7_ := Aside0.mk (Kd.N_lower (Kd.N_mono (ok' := fun k_ => some k_ ≠ (v331 : Value).ownBlock ∧ some k_ ≠ (.slice Ao14 t303.length co14 : Value).ownBlock ∧ some k_ ≠ (.slice Ao15 t309.length co15 : Value).ownBlock ∧ some k_ ≠ (v313 : Value).ownBlock ∧ some k_ ≠ (.slice Ao18 t316.length co18 : Value).ownBlock ∧ some k_ ≠ (.slice Ao19 t322.length co19 : Value).ownBlock) ho1 (fun k_ hk_ => ⟨hk_.2, Or.elim hk_.1 (fun hs_ => ((Kd.R_apart' (Kd.R_apart' (Kd.R_apart' (Kd.R_apart' (Kd.R_apart' (HO329.out) (Kd.N_typed HO305.out) (by decide)) (Kd.N_typed HO311.out) (by decide)) (Kd.R_typed HO314.out) (by decide)) (Kd.N_typed HO318.out) (by decide)) (Kd.N_typed HO324.out) (by decide)).1 k_ hs_.symm).1.1.1.1.2) (fun hn_ => (Kd.fresh' (Kd.N_lt (by (with_reducible repeat (first | apply Kd.N_alloc | apply Kd.N_drewN | apply Kd.N_drew)); exact HO305.out)) k_ hn_)), Or.elim hk_.1 (fun hs_ => ((Kd.R_apart' (Kd.R_apart' (Kd.R_apart' (Kd.R_apart' (Kd.R_apart' (HO329.out) (Kd.N_typed HO305.out) (by decide)) (Kd.N_typed HO311.out) (by decide)) (Kd.R_typed HO314.out) (by decide)) (Kd.N_typed HO318.out) (by decide)) (Kd.N_typed HO324.out) (by decide)).1 k_ hs_.symm).1.1.1.2) (fun hn_ => (Kd.fresh' (Kd.N_lt (by (with_reducible repeat (first | apply Kd.N_alloc | apply Kd.N_drewN | apply Kd.N_drew)); exact HO311.out)) k_ hn_)), Or.elim hk_.1 (fun hs_ => ((Kd.R_apart' (Kd.R_apart' (Kd.R_apart' (Kd.R_apart' (Kd.R_apart' (HO329.out) (Kd.N_typed HO305.out) (by decide)) (Kd.N_typed HO311.out) (by decide)) (Kd.R_typed HO314.out) (by decide)) (Kd.N_typed HO318.out) (by decide)) (Kd.N_typed HO324.out) (by decide)).1 k_ hs_.symm).1.1.2) (fun hn_ => (Kd.fresh' (Kd.R_lt (by (with_reducible repeat (first | apply Kd.R_alloc | apply Kd.R_drewN | apply Kd.R_drew)); exact HO314.out)) k_ hn_)), Or.elim hk_.1 (fun hs_ => ((Kd.R_apart' (Kd.R_apart' (Kd.R_apart' (Kd.R_apart' (Kd.R_apart' (HO329.out) (Kd.N_typed HO305.out) (by decide)) (Kd.N_typed HO311.out) (by decide)) (Kd.R_typed HO314.out) (by decide)) (Kd.N_typed HO318.out) (by decide)) (Kd.N_typed HO324.out) (by decide)).1 k_ hs_.symm).1.2) (fun hn_ => (Kd.fresh' (Kd.N_lt (by (with_reducible repeat (first | apply Kd.N_alloc | apply Kd.N_drewN | apply Kd.N_drew)); exact HO318.out)) k_ hn_)), Or.elim hk_.1 (fun hs_ => ((Kd.R_apart' (Kd.R_apart' (Kd.R_apart' (Kd.R_apart' (Kd.R_apart' (HO329.out) (Kd.N_typed HO305.out) (by decide)) (Kd.N_typed HO311.out) (by decide)) (Kd.R_typed HO314.out) (by decide)) (Kd.N_typed HO318.out) (by decide)) (Kd.N_typed HO324.out) (by decide)).1 k_ hs_.symm).2) (fun hn_ => (Kd.fresh' (Kd.N_lt (by (with_reducible repeat (first | apply Kd.N_alloc | apply Kd.N_drewN | apply Kd.N_drew)); exact HO324.out)) k_ hn_))⟩)) (below_size (by repeat (first | (with_reducible first | exact HB.out | apply below_alloc | apply pw_below_drewN | apply below_drew1) | exact HB.out)))); have n8_ := Aside0.mk (below_step (by repeat (first | (with_reducible first | exact HB.out | apply below_alloc | apply pw_below_drewN | apply below_drew1) | exact HB.out)) hb); clear HO305; clear HO311; clear HO314; clear HO318; clear HO324; clear HO329; clear HB; have HO305 := n0_; have HO311 := n1_; have HO314 := n2_; have HO318 := n3_; have HO324 := n4_; have HO329 := n5_; have HO332 := n6_; have HO338 := n7_; have HB := n8_; clear n0_ n1_ n2_ n3_ n4_ n5_ n6_ n7_ n8_; (try clear hb); (try clear hb2); (try clear hk); (try clear hi); (try clear ho0); (try clear ho1); obtain ⟨Ao25, co25, eo25⟩ := Kd.N_slice HO332.out; subst eo25; obtain ⟨Ao26, co26, eo26⟩ := Kd.N_slice HO338.out; subst eo26) | ((with_reducible refine gate_callee (f := 21) rfl ?_); refine goesL_ (some 21) rfl rfl Try.func21 (by kernel_rfl) rfl #[.agg #[.slice Ao25 t330.length co25, .int .i64 t333, .int .i64 t334, .int .i64 t335, .slice Ao26 t336.length co26]] rfl (by (try simp only [List.map_toArray, List.map_cons, List.map_nil]); first | done | rfl | (simp only [List.length_drop, List.length_take]; rfl)) ?_; (with_reducible refine (sight_Marks.calls _ _ t330 t333 t334 t335 _ _ t336 t339 t340 _ ?side1 ?side2 ?side3 ?side4 A6.out).mono ?_); (case side1 => repeat (first | exact (Kd.N_reads' HO332.out).2.2 | (with_reducible refine Kd.C_alloc ?_ _) | (with_reducible refine Kd.C_drewN ?_ _) | (with_reducible refine Kd.C_drew ?_))); (case side2 => exact (Kd.N_reads' HO332.out).2.1); (case side3 => repeat (first | exact (Kd.N_reads' HO338.out).2.2 | (with_reducible refine Kd.C_alloc ?_ _) | (with_reducible refine Kd.C_drewN ?_ _) | (with_reducible refine Kd.C_drew ?_))); (case side4 => exact (Kd.N_reads' HO338.out).2.1); rintro e w27 ⟨rfl, hb⟩; refine ⟨_, rfl, ?_⟩; have n0_ := Aside0.mk (Kd.N_below (by (with_reducible repeat (first | apply Kd.N_alloc | apply Kd.N_drewN | apply Kd.N_drew)); exact HO305.out) hb); have n1_ := Aside0.mk (Kd.N_below (by (with_reducible repeat (first | apply Kd.N_alloc | apply Kd.N_drewN | apply Kd.N_drew)); exact HO311.out) hb); have n2_ := Aside0.mk (Kd.R_below (by (with_reducible repeat (first | apply Kd.R_alloc | apply Kd.R_drewN | apply Kd.R_drew)); exact HO314.out) hb); have n3_ := Aside0.mk (Kd.N_below (by (with_reducible repeat (first | apply Kd.N_alloc | apply Kd.N_drewN | apply Kd.N_drew)); exact HO318.out) hb); have n4_ := Aside0.mk (Kd.N_below (by (with_reducible repeat (first | apply Kd.N_alloc | apply Kd.N_drewN | apply Kd.N_drew)); exact HO324.out) hb); have n5_ := Aside0.mk (Kd.R_below (by (with_reducible repeat (first | apply Kd.R_alloc | apply Kd.R_drewN | apply Kd.R_drew)); exact HO329.out) hb); have n6_ := Aside0.mk (Kd.N_below (by (with_reducible repeat (first | apply Kd.N_alloc | apply Kd.N_drewN | apply Kd.N_drew)); exact HO332.out) hb); have n7_ := Aside0.mk (Kd.N_below (by (with_reducible repeat (first | apply Kd.N_alloc | apply Kd.N_drewN | apply Kd.N_drew)); exact HO338.out) hb); have n8_ := Aside0.mk (below_step (by repeat (first | (with_reducible first | exact HB.out | apply below_alloc | apply pw_below_drewN | apply below_drew1) | exact HB.out)) hb); clear HO305; clear HO311; clear HO314; clear HO318; clear HO324; clear HO329; clear HO332; clear HO338; clear HB; have HO305 := n0_; have HO311 := n1_; have HO314 := n2_; have HO318 := n3_; have HO324 := n4_; have HO329 := n5_; have HO332 := n6_; have HO338 := n7_; have HB := n8_; clear n0_ n1_ n2_ n3_ n4_ n5_ n6_ n7_ n8_; (try clear hb); (try clear hb2); (try clear hk); (try clear hi)) | ((with_reducible refine gate_dst (N := 44) rfl ?_); (try (refine gate_guard (by rfl) ?_; dsimp only)); refine Kd.R_lit Kd.string _ 9 ?hg (N := 44) ?hd (xs := ([(⟨#[65]⟩ : ByteArray), (⟨#[65, 76]⟩ : ByteArray), (⟨#[84]⟩ : ByteArray)] : List ByteArray)) (inner := [.string (⟨#[65]⟩ : ByteArray), .string (⟨#[65, 76]⟩ : ByteArray), .string (⟨#[84]⟩ : ByteArray)]) (ok := fun _ => True) (okp := fun _ => True) ?hr ?hp (fun _ hk => hk) trivial (Below.refl _ _) (Nat.le_refl _) (by simp) ?_; (case hd => rfl); (case hg => rfl); (case hr => first | (go_simp; done) | (go_simp; rfl)); (case hp => exact (Reps.one (show Kd.M Kd.string _ _ _ (⟨#[65]⟩ : ByteArray) [.string (⟨#[65]⟩ : ByteArray)] from rfl) (Reps.one (show Kd.M Kd.string _ _ _ (⟨#[65, 76]⟩ : ByteArray) [.string (⟨#[65, 76]⟩ : ByteArray)] from rfl) (Reps.one (show Kd.M Kd.string _ _ _ (⟨#[84]⟩ : ByteArray) [.string (⟨#[84]⟩ : ByteArray)] from rfl) (Reps.none _ _))))); intro v342 w28 ho29 hb hg_ hnew_; clear hg_ hnew_; (first | rw [← Ny341.out] at ho29 | (simp only [Int.reduceToNat] at ho29; rw [← Ny341.out] at ho29)); have n0_ := Aside0.mk (Kd.N_elder' (by (with_reducible repeat (first | apply Kd.N_alloc | apply Kd.N_drewN | apply Kd.N_drew)); exact HO305.out) (Kd.R_base ho29) hb); have n1_ := Aside0.mk (Kd.N_elder' (by (with_reducible repeat (first | apply Kd.N_alloc | apply Kd.N_drewN | apply Kd.N_drew)); exact HO311.out) (Kd.R_base ho29) hb); have n2_ := Aside0.mk (Kd.R_elder' (by (with_reducible repeat (first | apply Kd.R_alloc | apply Kd.R_drewN | apply Kd.R_drew)); exact HO314.out) (Kd.R_base ho29) hb); have n3_ := Aside0.mk (Kd.N_elder' (by (with_reducible repeat (first | apply Kd.N_alloc | apply Kd.N_drewN | apply Kd.N_drew)); exact HO318.out) (Kd.R_base ho29) hb); have n4_ := Aside0.mk (Kd.N_elder' (by (with_reducible repeat (first | apply Kd.N_alloc | apply Kd.N_drewN | apply Kd.N_drew)); exact HO324.out) (Kd.R_base ho29) hb); have n5_ := Aside0.mk (Kd.R_below (by (with_reducible repeat (first | apply Kd.R_alloc | apply Kd.R_drewN | apply Kd.R_drew)); exact HO329.out) hb); have n6_ := Aside0.mk (Kd.N_elder' (by (with_reducible repeat (first | apply Kd.N_alloc | apply Kd.N_drewN | apply Kd.N_drew)); exact HO332.out) (Kd.R_base ho29) hb); have n7_ := Aside0.mk (Kd.N_elder' (by (with_reducible repeat (first | apply Kd.N_alloc | apply Kd.N_drewN | apply Kd.N_drew)); exact HO338.out) (Kd.R_base ho29) hb); have n8_ := Aside0.mk (Kd.R_lower (Kd.R_new' ho29 (Kd.R_lt (by (with_reducible repeat (first | apply Kd.R_alloc | apply Kd.R_drewN | apply Kd.R_drew)); exact HO314.out))) (below_size (by repeat (first | (with_reducible first | exact HB.out | apply below_alloc | apply pw_below_drewN | apply below_drew1) | exact HB.out)))); have n9_ := Aside0.mk (below_step (by repeat (first | (with_reducible first | exact HB.out | apply below_alloc | apply pw_below_drewN | apply below_drew1) | exact HB.out)) hb); clear HO305; clear HO311; clear HO314; clear HO318; clear HO324; clear HO329; clear HO332; clear HO338; clear HB; have HO305 := n0_; have HO311 := n1_; have HO314 := n2_; have HO318 := n3_; have HO324 := n4_; have HO329 := n5_; have HO332 := n6_; have HO338 := n7_; have HO343 := n8_; have HB := n9_; clear n0_ n1_ n2_ n3_ n4_ n5_ n6_ n7_ n8_ n9_; clear hb ho29; obtain ⟨Ao30, co30, eo30⟩ := Kd.R_slice HO314.out; subst eo30; obtain ⟨Ao31, co31, eo31⟩ := Kd.R_slice HO343.out; subst eo31) | (go_at_call 42; (with_reducible refine (cippuskit_SameTexts.calls k _ _ t312 _ _ y341 t344 _ ?side1 ?side2 ?side3 ?side4 A12.out).mono ?_); (case side1 => repeat (first | exact (Kd.R_reads' HO314.out).2.2 | (with_reducible refine Kd.C_alloc ?_ _) | (with_reducible refine Kd.C_drewN ?_ _) | (with_reducible refine Kd.C_drew ?_))); (case side2 => exact (Kd.R_reads' HO314.out).2.1); (case side3 => repeat (first | exact (Kd.R_reads' HO343.out).2.2 | (with_reducible refine Kd.C_alloc ?_ _) | (with_reducible refine Kd.C_drewN ?_ _) | (with_reducible refine Kd.C_drew ?_))); (case side4 => exact (Kd.R_reads' HO343.out).2.1); rintro e w' ⟨rfl, ⟨nd, rfl⟩⟩))
      go_ret
      exact ⟨by first | rfl | (simp [errW_none, errW_some] <;> rfl) | (simp [*, errW_none, errW_some] <;> rfl), by repeat (first | (with_reducible first | exact HB.out | apply below_alloc | apply pw_below_drewN | apply below_drew1) | exact HB.out)⟩
     ·rw [if_neg c11] at H; exact absurd ((Option.some.inj H).trans hrT) (by decide)
    ·rw [if_neg c10] at H; exact absurd ((Option.some.inj H).trans hrT) (by decide)
   ·rw [if_neg c9] at H; exact absurd ((Option.some.inj H).trans hrT) (by decide)
  ·rw [if_neg c8] at H; exact absurd ((Option.some.inj H).trans hrT) (by decide)
 ·rw [if_neg c7] at H; exact absurd ((Option.some.inj H).trans hrT) (by decide)
end Go.Proofs.Ytihedeofkhapiaa.Pr
end
section
namespace Go.Proofs.Ytihedeofkhapiaa.Pr
open Go.RowKit Go.Proofs.YtihedeofkhapiaaW.PrintWords Go.Proofs.YtihedeofkhapiaaW.PrintLast Go.Proofs.YtihedeofkhapiaaW.PrintMore
attribute [local go_sem] max2_int min2_int max_two min_two max_three min_three max_four min_four
set_option linter.unusedVariables false
set_option linter.unusedSimpArgs false
mutual
def cippuslaw01_SightEnough.j0 : Nat → List (S66) → Int → Int → Int → List (List (S27)) → Option (Bool)
 | 0, _, _, _, _, _ => none
 | k + 1, x829000, x829001, x829002, x829003, x829004 => (sight_Marks.f x829000 x829001 x829002 x829003 x829004).bind fun bt843 => (cippuslaw01_SightEnough.l0 k bt843.1 bt843.2 0 x829000 x829001 x829002 x829003 x829004)
def cippuslaw01_SightEnough.l0 : Nat → Int → Int → Int → List (S66) → Int → Int → Int → List (List (S27)) → Option (Bool)
 | 0, _, _, _, _, _, _, _, _ => none
 | k + 1, x7, x8, x9, x829000, x829001, x829002, x829003, x829004 => if x9 ≤ 12 then ((sight_Hands.f x829000 x829001 x829002 x9 x829004).bind fun bt847 => (if x8 = 0 then (cippuslaw01_SightEnough.j2 k x7 x8 x9 bt847.1 bt847.2 (decide (x7 ≤ x9)) x829000 x829001 x829002 x9 x829004) else (cippuslaw01_SightEnough.j2 k x7 x8 x9 bt847.1 bt847.2 false x829000 x829001 x829002 x9 x829004))) else (if x8 = 0 then ((cippuslaw01_ready.f k).bind fun t845 => (some t845)) else (if x8 = 9 then ((cippuslaw01_ready.f k).bind fun t846 => (some t846)) else (some false)))
def cippuslaw01_SightEnough.j2 : Nat → Int → Int → Int → List Int → Int → Bool → List (S66) → Int → Int → Int → List (List (S27)) → Option (Bool)
 | 0, _, _, _, _, _, _, _, _, _, _, _ => none
 | k + 1, x7, x8, x9, x10, x11, x56, x829000, x829001, x829002, x829003, x829004 => if x56 = true then (if x11 = 0 then (if (x10.length : Int) = 0 then (some false) else (cippuslaw01_SightEnough.l0 k x7 x8 (wrap64 (x9 + 1)) x829000 x829001 x829002 x829003 x829004)) else (some false)) else (if x11 = 9 then (if (x10.length : Int) > 0 then (some false) else (cippuslaw01_SightEnough.l0 k x7 x8 (wrap64 (x9 + 1)) x829000 x829001 x829002 x829003 x829004)) else (some false))
end
def cippuslaw01_SightEnough.f (k : Nat) (l0 : List Int) : Option (Bool) := (cippuskit_NewUrn.f l0).bind fun bt809 => ((cippuskit_LineOf.f k bt809.1 bt809.2 3 4 5).bind fun bt812 => ((cippuskit_Urn_Odds.f bt812.2.2.2.2.2.2.2.2.1 bt812.2.2.2.2.2.2.2.2.2 1 3).bind fun bt830 => (if bt830.1 = true then ((cippuskit_Urn_Up.f bt830.2.1 bt830.2.2 (bt812.2.2.2.2.1.length : Int)).bind fun bt833 => ((cippuskit_Urn_Up.f bt833.2.1 bt833.2.2 32).bind fun bt836 => (if 0 ≤ bt833.1 then (if bt833.1 < (bt812.2.2.2.2.1.length : Int) then (cippuslaw01_SightEnough.j0 k bt812.1 bt812.2.1 bt812.2.2.1 bt812.2.2.2.1 (bt812.2.2.2.2.1.set (bt833.1 : Int).toNat (([(⟨31, bt836.1⟩ : S27)] : List (S27))))) else (none)) else (none)))) else (cippuslaw01_SightEnough.j0 k bt812.1 bt812.2.1 bt812.2.2.1 bt812.2.2.2.1 bt812.2.2.2.2.1))))
theorem cippuslaw01_SightEnough.mono_l : ∀ k, (∀ y0 y1 y2 y3 y4, LeO (cippuslaw01_SightEnough.j0 k y0 y1 y2 y3 y4) (cippuslaw01_SightEnough.j0 (k + 1) y0 y1 y2 y3 y4)) ∧ (∀ y0 y1 y2 y3 y4 y5 y6 y7, LeO (cippuslaw01_SightEnough.l0 k y0 y1 y2 y3 y4 y5 y6 y7) (cippuslaw01_SightEnough.l0 (k + 1) y0 y1 y2 y3 y4 y5 y6 y7)) ∧ (∀ y0 y1 y2 y3 y4 y5 y6 y7 y8 y9 y10, LeO (cippuslaw01_SightEnough.j2 k y0 y1 y2 y3 y4 y5 y6 y7 y8 y9 y10) (cippuslaw01_SightEnough.j2 (k + 1) y0 y1 y2 y3 y4 y5 y6 y7 y8 y9 y10))
 | 0 => ⟨fun _ _ _ _ _ r h => by simp [cippuslaw01_SightEnough.j0] at h, fun _ _ _ _ _ _ _ _ r h => by simp [cippuslaw01_SightEnough.l0] at h, fun _ _ _ _ _ _ _ _ _ _ _ r h => by simp [cippuslaw01_SightEnough.j2] at h⟩
 | k + 1 => by
  obtain ⟨ih0, ih1, ih2⟩ := cippuslaw01_SightEnough.mono_l k; refine ⟨?_, ?_, ?_⟩
  ·intro y0 y1 y2 y3 y4; unfold cippuslaw01_SightEnough.j0
   repeat' first
   | (with_reducible exact ih0 _ _ _ _ _)
   | (with_reducible exact ih1 _ _ _ _ _ _ _ _)
   | (with_reducible exact ih2 _ _ _ _ _ _ _ _ _ _ _)
   | (with_reducible exact cippuskit_LineOf.mono _ _ _ _ _ _)
   | (with_reducible exact cippuslaw01_ready.mono _)
   | (with_reducible exact LeO.refl _)
   | (with_reducible exact LeO.none _)
   | (with_reducible refine LeO.ite ?_ ?_)
   | (with_reducible refine LeO.bind ?_ (fun _ => ?_))
   | exact ih0 _ _ _ _ _
   | exact ih1 _ _ _ _ _ _ _ _
   | exact ih2 _ _ _ _ _ _ _ _ _ _ _
   | exact cippuskit_LineOf.mono _ _ _ _ _ _
   | exact cippuslaw01_ready.mono _
   | exact LeO.none _
   | refine LeO.ite ?_ ?_
   | refine LeO.bind ?_ (fun _ => ?_)
  ·intro y0 y1 y2 y3 y4 y5 y6 y7; unfold cippuslaw01_SightEnough.l0
   repeat' first
   | (with_reducible exact ih0 _ _ _ _ _)
   | (with_reducible exact ih1 _ _ _ _ _ _ _ _)
   | (with_reducible exact ih2 _ _ _ _ _ _ _ _ _ _ _)
   | (with_reducible exact cippuskit_LineOf.mono _ _ _ _ _ _)
   | (with_reducible exact cippuslaw01_ready.mono _)
   | (with_reducible exact LeO.refl _)
   | (with_reducible exact LeO.none _)
   | (with_reducible refine LeO.ite ?_ ?_)
   | (with_reducible refine LeO.bind ?_ (fun _ => ?_))
   | exact ih0 _ _ _ _ _
   | exact ih1 _ _ _ _ _ _ _ _
   | exact ih2 _ _ _ _ _ _ _ _ _ _ _
   | exact cippuskit_LineOf.mono _ _ _ _ _ _
   | exact cippuslaw01_ready.mono _
   | exact LeO.none _
   | refine LeO.ite ?_ ?_
   | refine LeO.bind ?_ (fun _ => ?_)
  ·intro y0 y1 y2 y3 y4 y5 y6 y7 y8 y9 y10; unfold cippuslaw01_SightEnough.j2
   repeat' first
   | (with_reducible exact ih0 _ _ _ _ _)
   | (with_reducible exact ih1 _ _ _ _ _ _ _ _)
   | (with_reducible exact ih2 _ _ _ _ _ _ _ _ _ _ _)
   | (with_reducible exact cippuskit_LineOf.mono _ _ _ _ _ _)
   | (with_reducible exact cippuslaw01_ready.mono _)
   | (with_reducible exact LeO.refl _)
   | (with_reducible exact LeO.none _)
   | (with_reducible refine LeO.ite ?_ ?_)
   | (with_reducible refine LeO.bind ?_ (fun _ => ?_))
   | exact ih0 _ _ _ _ _
   | exact ih1 _ _ _ _ _ _ _ _
   | exact ih2 _ _ _ _ _ _ _ _ _ _ _
   | exact cippuskit_LineOf.mono _ _ _ _ _ _
   | exact cippuslaw01_ready.mono _
   | exact LeO.none _
   | refine LeO.ite ?_ ?_
   | refine LeO.bind ?_ (fun _ => ?_)
theorem cippuslaw01_SightEnough.mono : ∀ a0 k, LeO (cippuslaw01_SightEnough.f k a0) (cippuslaw01_SightEnough.f (k + 1) a0) := by
 intro a0 k; obtain ⟨ih0, ih1, ih2⟩ := cippuslaw01_SightEnough.mono_l k; unfold cippuslaw01_SightEnough.f
 repeat' first
  | (with_reducible exact ih0 _ _ _ _ _)
  | (with_reducible exact ih1 _ _ _ _ _ _ _ _)
  | (with_reducible exact ih2 _ _ _ _ _ _ _ _ _ _ _)
  | (with_reducible exact cippuskit_LineOf.mono _ _ _ _ _ _)
  | (with_reducible exact cippuslaw01_ready.mono _)
  | (with_reducible exact LeO.refl _)
  | (with_reducible exact LeO.none _)
  | (with_reducible refine LeO.ite ?_ ?_)
  | (with_reducible refine LeO.bind ?_ (fun _ => ?_))
  | exact ih0 _ _ _ _ _
  | exact ih1 _ _ _ _ _ _ _ _
  | exact ih2 _ _ _ _ _ _ _ _ _ _ _
  | exact cippuskit_LineOf.mono _ _ _ _ _ _
  | exact cippuslaw01_ready.mono _
  | exact LeO.none _
  | refine LeO.ite ?_ ?_
  | refine LeO.bind ?_ (fun _ => ?_)
def cippuslaw01_SightEnough.T5 : Bool × List (List Nat × List Nat) := (true, [([], []), ([0], [0]), ([], []), ([], []), ([3], [3]), ([4], [4]), ([5], [5]), ([1, 2, 0, 1, 2, 3, 4, 5, 6], [1, 2]), ([7, 6, 4, 0, 1, 2, 3, 4, 5, 6], [6, 7])])
def cippuslaw01_SightEnough.B5 : List Nat := [0, 1, 0, 0, 8, 24, 56, 127, 255]
theorem cippuslaw01_SightEnough.tab5 : rtab .any (opsOf Try.f7 5) = cippuslaw01_SightEnough.T5 := by kernel_rfl
theorem cippuslaw01_SightEnough.bits5 : waitsOk cippuslaw01_SightEnough.T5.2 cippuslaw01_SightEnough.B5 = true := by kernel_rfl
set_option maxHeartbeats 8000000 in
set_option maxRecDepth 100000 in
theorem cippuslaw01_SightEnough.calls (k : Nat) (A0 : Option Addr) (c0 : Nat) (l0 : List Int) (r : Bool) (w : World) (hr0 : Kd.C (Kd.int .i64) w A0 l0.length l0) (hc0 : l0.length ≤ c0) (h : cippuslaw01_SightEnough.f k l0 = some r) :
 Calls Try.prog 7 #[.slice A0 l0.length c0] w fun e w' => e = .returned (.bool r) ∧ Below w.heap.size w w' := by
 have hu25 := Try.underlying25; have hu32 := Try.underlying32; have hu27 := Try.underlying27; have HR0 := Aside0.mk hr0; have HC0 := Aside0.mk hc0; clear hr0 hc0; have HB := Aside0.mk (Below.refl w.heap.size w); have H : ((cippuskit_NewUrn.f l0).bind fun bt809 => ((cippuskit_LineOf.f k bt809.1 bt809.2 3 4 5).bind fun bt812 => ((cippuskit_Urn_Odds.f bt812.2.2.2.2.2.2.2.2.1 bt812.2.2.2.2.2.2.2.2.2 1 3).bind fun bt830 => (if bt830.1 = true then ((cippuskit_Urn_Up.f bt830.2.1 bt830.2.2 (bt812.2.2.2.2.1.length : Int)).bind fun bt833 => ((cippuskit_Urn_Up.f bt833.2.1 bt833.2.2 32).bind fun bt836 => (if 0 ≤ bt833.1 then (if bt833.1 < (bt812.2.2.2.2.1.length : Int) then (cippuslaw01_SightEnough.j0 k bt812.1 bt812.2.1 bt812.2.2.1 bt812.2.2.2.1 (bt812.2.2.2.2.1.set (bt833.1 : Int).toNat (([(⟨31, bt836.1⟩ : S27)] : List (S27))))) else (none)) else (none)))) else (cippuslaw01_SightEnough.j0 k bt812.1 bt812.2.1 bt812.2.2.1 bt812.2.2.2.1 bt812.2.2.2.2.1))))) = some r := h; clear h; replace H := Option.bind_eq_some_iff.mp H; obtain ⟨⟨t809, t810⟩, A20, H⟩ := H; replace H : ((cippuskit_LineOf.f k t809 t810 3 4 5).bind fun bt812 => ((cippuskit_Urn_Odds.f bt812.2.2.2.2.2.2.2.2.1 bt812.2.2.2.2.2.2.2.2.2 1 3).bind fun bt830 => (if bt830.1 = true then ((cippuskit_Urn_Up.f bt830.2.1 bt830.2.2 (bt812.2.2.2.2.1.length : Int)).bind fun bt833 => ((cippuskit_Urn_Up.f bt833.2.1 bt833.2.2 32).bind fun bt836 => (if 0 ≤ bt833.1 then (if bt833.1 < (bt812.2.2.2.2.1.length : Int) then (cippuslaw01_SightEnough.j0 k bt812.1 bt812.2.1 bt812.2.2.1 bt812.2.2.2.1 (bt812.2.2.2.2.1.set (bt833.1 : Int).toNat (([(⟨31, bt836.1⟩ : S27)] : List (S27))))) else (none)) else (none)))) else (cippuslaw01_SightEnough.j0 k bt812.1 bt812.2.1 bt812.2.2.1 bt812.2.2.2.1 bt812.2.2.2.2.1)))) = some r := H; have A2 := Aside0.mk A20; clear A20; replace H := Option.bind_eq_some_iff.mp H; obtain ⟨⟨t812, t815, t816, t817, t818, t821, t822, t823, t826, t827⟩, A30, H⟩ := H; replace H : ((cippuskit_Urn_Odds.f t826 t827 1 3).bind fun bt830 => (if bt830.1 = true then ((cippuskit_Urn_Up.f bt830.2.1 bt830.2.2 (t818.length : Int)).bind fun bt833 => ((cippuskit_Urn_Up.f bt833.2.1 bt833.2.2 32).bind fun bt836 => (if 0 ≤ bt833.1 then (if bt833.1 < (t818.length : Int) then (cippuslaw01_SightEnough.j0 k t812 t815 t816 t817 (t818.set (bt833.1 : Int).toNat (([(⟨31, bt836.1⟩ : S27)] : List (S27))))) else (none)) else (none)))) else (cippuslaw01_SightEnough.j0 k t812 t815 t816 t817 t818))) = some r := H; have A3 := Aside0.mk A30; clear A30; replace H := Option.bind_eq_some_iff.mp H; obtain ⟨⟨t830, t831, t832⟩, A40, H⟩ := H; replace H : (if t830 = true then ((cippuskit_Urn_Up.f t831 t832 (t818.length : Int)).bind fun bt833 => ((cippuskit_Urn_Up.f bt833.2.1 bt833.2.2 32).bind fun bt836 => (if 0 ≤ bt833.1 then (if bt833.1 < (t818.length : Int) then (cippuslaw01_SightEnough.j0 k t812 t815 t816 t817 (t818.set (bt833.1 : Int).toNat (([(⟨31, bt836.1⟩ : S27)] : List (S27))))) else (none)) else (none)))) else (cippuslaw01_SightEnough.j0 k t812 t815 t816 t817 t818)) = some r := H; have A4 := Aside0.mk A40; clear A40; have HC5 := Aside0.mk H; clear H; go_enter Try.func7, Try.ntmps7; (go_upto_if 20 with (first | ((with_reducible refine gate_callee (f := 16) rfl ?_); refine goesL_ (some 13) rfl rfl Try.func16 (by kernel_rfl) rfl #[.slice A0 l0.length c0] rfl (by (try simp only [List.map_toArray, List.map_cons, List.map_nil]); first | done | rfl | (simp only [List.length_drop, List.length_take]; rfl)) ?_; (with_reducible refine (cippuskit_NewUrn.calls _ _ l0 t809 t810 w _ ?side1 ?side2 ?side3 A2.out).mono ?_); (case side1 => repeat (first | (with_reducible first | exact HB.out | apply below_alloc | apply pw_below_drewN | apply below_drew1) | exact HB.out)); (case side2 => exact HR0.out); (case side3 => exact HC0.out); rintro e w6 ⟨g811, rfl, hi, hb, hb2⟩; refine ⟨_, rfl, ?_⟩; have n0_ := Aside0.mk (hb); have n1_ := Aside0.mk (hi); clear HB; have HB := n0_; have HI811 := n1_; clear n0_ n1_; (try clear hb); (try clear hb2); (try clear hk); (try clear hi)) | ((with_reducible refine gate_callee (f := 15) rfl ?_); refine goesL_ (some 16) rfl rfl Try.func15 (by kernel_rfl) rfl #[.pointer (some ⟨g811, 0, none⟩), .int .i64 3, .int .i64 4, .int .i64 5] rfl (by (try simp only [List.map_toArray, List.map_cons, List.map_nil]); first | done | rfl | (simp only [List.length_drop, List.length_take]; rfl)) ?_; (with_reducible refine (cippuskit_LineOf.calls k g811 t809 t810 3 4 5 t812 t815 t816 t817 t818 t821 t822 t823 t826 t827 w _ ?side1 ?side2 A3.out).mono ?_); (case side1 => repeat (first | (with_reducible first | exact HI811.out | apply IsS91.alloc | apply IsS91.drewN | apply IsS91.drew | apply IsS91.set_0 | apply IsS91.set_1) | exact HI811.out)); (case side2 => repeat (first | (with_reducible first | exact HB.out | apply below_alloc | apply pw_below_drewN | apply below_drew1 | refine below_set ?_ (IsS91.ge HI811.out)) | exact HB.out)); rintro e w7 ⟨v813, v819, v824, rfl, ho0, ho1, ho2, hi, hb, hk⟩; refine ⟨_, rfl, ?_⟩; have n0_ := Aside0.mk (Kd.N_lower (Kd.N_mono (ok' := fun k_ => some k_ ≠ (v819 : Value).ownBlock ∧ some k_ ≠ (v824 : Value).ownBlock ∧ k_ ≠ g811) ho0 (fun k_ hk_ => ⟨hk_.2.1, hk_.2.2, (IsS91.fresh (by repeat (first | (with_reducible first | exact HI811.out | apply IsS91.alloc | apply IsS91.drewN | apply IsS91.drew | apply IsS91.set_0 | apply IsS91.set_1) | exact HI811.out)) k_ hk_.1)⟩)) (below_size (by repeat (first | (with_reducible first | exact HB.out | apply below_alloc | apply pw_below_drewN | apply below_drew1 | refine below_set ?_ (IsS91.ge HI811.out)) | exact HB.out)))); have n1_ := Aside0.mk (Kd.N_lower (Kd.N_mono (ok' := fun k_ => some k_ ≠ (v813 : Value).ownBlock ∧ some k_ ≠ (v824 : Value).ownBlock ∧ k_ ≠ g811) ho1 (fun k_ hk_ => ⟨hk_.2.1, hk_.2.2, (IsS91.fresh (by repeat (first | (with_reducible first | exact HI811.out | apply IsS91.alloc | apply IsS91.drewN | apply IsS91.drew | apply IsS91.set_0 | apply IsS91.set_1) | exact HI811.out)) k_ hk_.1)⟩)) (below_size (by repeat (first | (with_reducible first | exact HB.out | apply below_alloc | apply pw_below_drewN | apply below_drew1 | refine below_set ?_ (IsS91.ge HI811.out)) | exact HB.out)))); have n2_ := Aside0.mk (Kd.R_lower (Kd.R_mono (ok' := fun k_ => True) ho2 (fun _ hk_ => trivial)) (below_size (by repeat (first | (with_reducible first | exact HB.out | apply below_alloc | apply pw_below_drewN | apply below_drew1 | refine below_set ?_ (IsS91.ge HI811.out)) | exact HB.out)))); have n3_ := Aside0.mk (hb); have n4_ := Aside0.mk (hi); clear HB HI811; have HO814 := n0_; have HO820 := n1_; have HO825 := n2_; have HB := n3_; have HI811 := n4_; clear n0_ n1_ n2_ n3_ n4_; (try clear hb); (try clear hb2); (try clear hk); (try clear hi); (try clear ho0); (try clear ho1); (try clear ho2)) | ((with_reducible refine gate_dst (N := 4) rfl ?_); (try (refine gate_guard (by rfl) ?_; dsimp only)); refine box_event ?hg (N := 4) ?hd (cs := #[.slice none 0 0, .int .i64 0, .int .i64 0, .int .i64 0, .slice none 0 0]) (t := 25) ?hr ?_; (case hd => rfl); (case hg => rfl); (case hr => first | (go_simp; done) | (go_simp; rfl)); intro gb828 hg w8 hbox hb; have n0_ := Aside0.mk (Kd.N_below (Kd.N_elderB (nU HO814.out) gb828 (Nat.le_of_eq hg.symm)) hb); have n1_ := Aside0.mk (Kd.N_below (Kd.N_elderB (nU HO820.out) gb828 (Nat.le_of_eq hg.symm)) hb); have n2_ := Aside0.mk (Kd.R_below (rU HO825.out) hb); have n3_ := Aside0.mk (IsS91.below (by repeat (first | (with_reducible first | exact HI811.out | apply IsS91.alloc | apply IsS91.drewN | apply IsS91.drew | apply IsS91.set_0 | apply IsS91.set_1) | exact HI811.out)) hb); have n4_ := Aside0.mk (below_step (by repeat (first | (with_reducible first | exact HB.out | apply below_alloc | apply pw_below_drewN | apply below_drew1 | refine below_set ?_ (IsS91.ge HI811.out)) | exact HB.out)) hb); have n5_ := Aside0.mk (hbox); have n6_ := Aside0.mk ((by rw [hg]; exact (below_size (by repeat (first | (with_reducible first | exact HB.out | apply below_alloc | apply pw_below_drewN | apply below_drew1 | refine below_set ?_ (IsS91.ge HI811.out)) | exact HB.out))) : w.heap.size ≤ gb828)); have n7_ := Aside0.mk ((by rw [hg]; exact (below_size (by repeat (first | (with_reducible first | exact HB.out | apply below_alloc | apply pw_below_drewN | apply below_drew1 | refine below_set ?_ (IsS91.ge HI811.out)) | exact HB.out))) : w.heap.size ≤ gb828)); have n8_ := Aside0.mk ((by rw [hg]; exact Nat.ne_of_lt (IsS91.lt (show IsS91 w _ g811 t826 t827 from by repeat (first | (with_reducible first | exact HI811.out | apply IsS91.alloc | apply IsS91.drewN | apply IsS91.drew | apply IsS91.set_0 | apply IsS91.set_1) | exact HI811.out))) : g811 ≠ gb828)); have n9_ := Aside0.mk ((by rw [hg]; exact Nat.ne_of_gt (IsS91.lt (show IsS91 w _ g811 t826 t827 from by repeat (first | (with_reducible first | exact HI811.out | apply IsS91.alloc | apply IsS91.drewN | apply IsS91.drew | apply IsS91.set_0 | apply IsS91.set_1) | exact HI811.out))) : gb828 ≠ g811)); clear HO814 HO820 HO825 HI811 HB; have HO814 := n0_; have HO820 := n1_; have HO825 := n2_; have HI811 := n3_; have HB := n4_; have BK828 := n5_; have GW828 := n6_; have GE828 := n7_; have NB811_828 := n8_; have NB828_811 := n9_; clear n0_ n1_ n2_ n3_ n4_ n5_ n6_ n7_ n8_ n9_ hb hbox hg) | ((with_reducible refine gate_dst (N := 5) rfl ?_); (try (refine gate_guard (by rfl) ?_; dsimp only)); refine box_event ?hg (N := 5) ?hd (cs := #[.int .i64 0, .string (⟨#[]⟩ : ByteArray), .slice none 0 0]) (t := 32) ?hr ?_; (case hd => rfl); (case hg => rfl); (case hr => first | (go_simp; done) | (go_simp; rfl)); intro gb829 hg w9 hbox hb; have n0_ := Aside0.mk (Kd.N_below (Kd.N_elderB (nU HO814.out) gb829 (Nat.le_of_eq hg.symm)) hb); have n1_ := Aside0.mk (Kd.N_below (Kd.N_elderB (nU HO820.out) gb829 (Nat.le_of_eq hg.symm)) hb); have n2_ := Aside0.mk (Kd.R_below (rU HO825.out) hb); have n3_ := Aside0.mk (IsS91.below (by repeat (first | (with_reducible first | exact HI811.out | apply IsS91.alloc | apply IsS91.drewN | apply IsS91.drew | apply IsS91.set_0 | apply IsS91.set_1 | refine IsS91.far ?_ NB811_828.out _) | exact HI811.out)) hb); have n4_ := Aside0.mk (blk_below (bU BK828.out) hb); have n5_ := Aside0.mk (below_step (by repeat (first | (with_reducible first | exact HB.out | apply below_alloc | apply pw_below_drewN | apply below_drew1 | refine below_set ?_ (IsS91.ge HI811.out) | refine below_set ?_ GE828.out) | exact HB.out)) hb); have n6_ := Aside0.mk (hbox); have n7_ := Aside0.mk ((by rw [hg]; exact (below_size (by repeat (first | (with_reducible first | exact HB.out | apply below_alloc | apply pw_below_drewN | apply below_drew1 | refine below_set ?_ (IsS91.ge HI811.out) | refine below_set ?_ GE828.out) | exact HB.out))) : w.heap.size ≤ gb829)); have n8_ := Aside0.mk ((by rw [hg]; exact (below_size (by repeat (first | (with_reducible first | exact HB.out | apply below_alloc | apply pw_below_drewN | apply below_drew1 | refine below_set ?_ (IsS91.ge HI811.out) | refine below_set ?_ GE828.out) | exact HB.out))) : w.heap.size ≤ gb829)); have n9_ := Aside0.mk ((by rw [hg]; exact Nat.ne_of_lt (blk_lt (g := gb828) (o := .cells #[.slice none 0 0, .int .i64 0, .int .i64 0, .int .i64 0, .slice none 0 0] 25 (0, 0)) (bU BK828.out)) : gb828 ≠ gb829)); have n10_ := Aside0.mk ((by rw [hg]; exact Nat.ne_of_gt (blk_lt (g := gb828) (o := .cells #[.slice none 0 0, .int .i64 0, .int .i64 0, .int .i64 0, .slice none 0 0] 25 (0, 0)) (bU BK828.out)) : gb829 ≠ gb828)); have n11_ := Aside0.mk ((by rw [hg]; exact Nat.ne_of_lt (IsS91.lt (show IsS91 w _ g811 t826 t827 from by repeat (first | (with_reducible first | exact HI811.out | apply IsS91.alloc | apply IsS91.drewN | apply IsS91.drew | apply IsS91.set_0 | apply IsS91.set_1 | refine IsS91.far ?_ NB811_828.out _) | exact HI811.out))) : g811 ≠ gb829)); have n12_ := Aside0.mk ((by rw [hg]; exact Nat.ne_of_gt (IsS91.lt (show IsS91 w _ g811 t826 t827 from by repeat (first | (with_reducible first | exact HI811.out | apply IsS91.alloc | apply IsS91.drewN | apply IsS91.drew | apply IsS91.set_0 | apply IsS91.set_1 | refine IsS91.far ?_ NB811_828.out _) | exact HI811.out))) : gb829 ≠ g811)); clear HO814 HO820 HO825 HI811 BK828 HB; have HO814 := n0_; have HO820 := n1_; have HO825 := n2_; have HI811 := n3_; have BK828 := n4_; have HB := n5_; have BK829 := n6_; have GW829 := n7_; have GE829 := n8_; have NB828_829 := n9_; have NB829_828 := n10_; have NB811_829 := n11_; have NB829_811 := n12_; clear n0_ n1_ n2_ n3_ n4_ n5_ n6_ n7_ n8_ n9_ n10_ n11_ n12_ hb hbox hg; obtain ⟨Ao10, co10, eo10⟩ := Kd.N_slice HO814.out; subst eo10; have hnb11 := NB828_829.out; have hnc11 := NB829_828.out; have hnb12 := NB828_811.out; have hnc12 := NB811_828.out; have hcz13_0 : w9.cell? ⟨gb828, 0, none⟩ = some (.slice none 0 0) := (blk_cell BK828.out 0).trans rfl; have hcz13_1 : w9.cell? ⟨gb828, 1, none⟩ = some (.int .i64 0) := (blk_cell BK828.out 1).trans rfl; have hcz13_2 : w9.cell? ⟨gb828, 2, none⟩ = some (.int .i64 0) := (blk_cell BK828.out 2).trans rfl; have hcz13_3 : w9.cell? ⟨gb828, 3, none⟩ = some (.int .i64 0) := (blk_cell BK828.out 3).trans rfl; have hcz13_4 : w9.cell? ⟨gb828, 4, none⟩ = some (.slice none 0 0) := (blk_cell BK828.out 4).trans rfl; have hfz13_0 := blk_frozen BK828.out 0; have hfz13_1 := blk_frozen BK828.out 1; have hfz13_2 := blk_frozen BK828.out 2; have hfz13_3 := blk_frozen BK828.out 3; have hfz13_4 := blk_frozen BK828.out 4; obtain ⟨Ao14, co14, eo14⟩ := Kd.N_slice HO820.out; subst eo14; have hnb15 := NB829_811.out; have hnc15 := NB811_829.out; have hcz16_0 : w9.cell? ⟨gb829, 0, none⟩ = some (.int .i64 0) := (blk_cell BK829.out 0).trans rfl; have hcz16_1 : w9.cell? ⟨gb829, 1, none⟩ = some (.string (⟨#[]⟩ : ByteArray)) := (blk_cell BK829.out 1).trans rfl; have hcz16_2 : w9.cell? ⟨gb829, 2, none⟩ = some (.slice none 0 0) := (blk_cell BK829.out 2).trans rfl; have hfz16_0 := blk_frozen BK829.out 0; have hfz16_1 := blk_frozen BK829.out 1; have hfz16_2 := blk_frozen BK829.out 2; obtain ⟨Ao17, co17, eo17⟩ := Kd.R_slice HO825.out; subst eo17) | ((with_reducible refine gate_callee (f := 32) rfl ?_); refine goesL_ (some 20) rfl rfl Try.func32 (by kernel_rfl) rfl #[.pointer (some ⟨g811, 0, none⟩), .int .i64 1, .int .i64 3] rfl (by (try simp only [List.map_toArray, List.map_cons, List.map_nil]); first | done | rfl | (simp only [List.length_drop, List.length_take]; rfl)) ?_; (with_reducible refine (cippuskit_Urn_Odds.calls g811 t826 t827 1 3 t830 t831 t832 w _ ?side1 ?side2 A4.out).mono ?_); (case side1 => repeat (first | (with_reducible first | exact HI811.out | apply IsS91.alloc | apply IsS91.drewN | apply IsS91.drew | apply IsS91.set_0 | apply IsS91.set_1 | refine IsS91.far ?_ NB811_828.out _ | refine IsS91.far ?_ NB811_829.out _) | exact HI811.out)); (case side2 => repeat (first | (with_reducible first | exact HB.out | apply below_alloc | apply pw_below_drewN | apply below_drew1 | refine below_set ?_ (IsS91.ge HI811.out) | refine below_set ?_ GE828.out | refine below_set ?_ GE829.out) | exact HB.out)); rintro e w18 ⟨rfl, hi, hb, hk⟩; refine ⟨_, rfl, ?_⟩; have n0_ := Aside0.mk (Kd.N_mono (Kd.N_keep (Kd.N_mono (ok := fun k_ => (((some k_ ≠ (.slice Ao14 t818.length co14 : Value).ownBlock ∧ (some k_ ≠ (.slice Ao17 t823.length co17 : Value).ownBlock ∧ k_ ≠ g811)) ∧ k_ ≠ gb828) ∧ k_ ≠ gb829)) (nU ((Kd.N_mono (Kd.N_mono (Kd.N_far (p := ⟨gb829, 2, none⟩) (Kd.N_far (p := ⟨gb829, 1, none⟩) (Kd.N_far (p := ⟨gb829, 0, none⟩) (Kd.N_far (p := ⟨gb828, 4, none⟩) (Kd.N_far (p := ⟨gb828, 3, none⟩) (Kd.N_far (p := ⟨gb828, 2, none⟩) (Kd.N_far (p := ⟨gb828, 1, none⟩) (Kd.N_far (p := ⟨gb828, 0, none⟩) (Kd.N_mono (Kd.N_mono HO814.out (fun k_ hk => (⟨hk, hk.1.2⟩ : _ ∧ k_ ≠ gb828))) (fun k_ hk => (⟨hk, hk.1.2⟩ : _ ∧ k_ ≠ gb829))) (fun _ hk => hk.1.2) (.slice Ao10 t812.length co10)) (fun _ hk => hk.1.2) (.int .i64 t815)) (fun _ hk => hk.1.2) (.int .i64 t816)) (fun _ hk => hk.1.2) (.int .i64 t817)) (fun _ hk => hk.1.2) (.slice Ao14 t818.length co14)) (fun _ hk => hk.2) (.int .i64 t821)) (fun _ hk => hk.2) (.string t822)) (fun _ hk => hk.2) (.slice Ao17 t823.length co17)) (fun _ h_ => h_.1)) (fun _ h_ => h_.1)))) (fun k_ hk_ => (⟨hk_, hk_.1.1.2.2⟩ : _ ∧ k_ ≠ g811))) hk (fun _ h => h.2)) (fun _ h => h.1)); have n1_ := Aside0.mk (Kd.N_mono (Kd.N_keep (Kd.N_mono (ok := fun k_ => (((some k_ ≠ (.slice Ao10 t812.length co10 : Value).ownBlock ∧ (some k_ ≠ (.slice Ao17 t823.length co17 : Value).ownBlock ∧ k_ ≠ g811)) ∧ k_ ≠ gb828) ∧ k_ ≠ gb829)) (nU ((Kd.N_mono (Kd.N_mono (Kd.N_far (p := ⟨gb829, 2, none⟩) (Kd.N_far (p := ⟨gb829, 1, none⟩) (Kd.N_far (p := ⟨gb829, 0, none⟩) (Kd.N_far (p := ⟨gb828, 4, none⟩) (Kd.N_far (p := ⟨gb828, 3, none⟩) (Kd.N_far (p := ⟨gb828, 2, none⟩) (Kd.N_far (p := ⟨gb828, 1, none⟩) (Kd.N_far (p := ⟨gb828, 0, none⟩) (Kd.N_mono (Kd.N_mono HO820.out (fun k_ hk => (⟨hk, hk.1.2⟩ : _ ∧ k_ ≠ gb828))) (fun k_ hk => (⟨hk, hk.1.2⟩ : _ ∧ k_ ≠ gb829))) (fun _ hk => hk.1.2) (.slice Ao10 t812.length co10)) (fun _ hk => hk.1.2) (.int .i64 t815)) (fun _ hk => hk.1.2) (.int .i64 t816)) (fun _ hk => hk.1.2) (.int .i64 t817)) (fun _ hk => hk.1.2) (.slice Ao14 t818.length co14)) (fun _ hk => hk.2) (.int .i64 t821)) (fun _ hk => hk.2) (.string t822)) (fun _ hk => hk.2) (.slice Ao17 t823.length co17)) (fun _ h_ => h_.1)) (fun _ h_ => h_.1)))) (fun k_ hk_ => (⟨hk_, hk_.1.1.2.2⟩ : _ ∧ k_ ≠ g811))) hk (fun _ h => h.2)) (fun _ h => h.1)); have n2_ := Aside0.mk (Kd.R_mono (Kd.R_keep (IsS91.apart (show IsS91 w _ g811 t826 t827 from by repeat (first | (with_reducible first | exact HI811.out | apply IsS91.alloc | apply IsS91.drewN | apply IsS91.drew | apply IsS91.set_0 | apply IsS91.set_1 | refine IsS91.far ?_ NB811_828.out _ | refine IsS91.far ?_ NB811_829.out _) | exact HI811.out)) (rU ((Kd.R_mono (Kd.R_mono (Kd.R_far (p := ⟨gb829, 2, none⟩) (Kd.R_far (p := ⟨gb829, 1, none⟩) (Kd.R_far (p := ⟨gb829, 0, none⟩) (Kd.R_far (p := ⟨gb828, 4, none⟩) (Kd.R_far (p := ⟨gb828, 3, none⟩) (Kd.R_far (p := ⟨gb828, 2, none⟩) (Kd.R_far (p := ⟨gb828, 1, none⟩) (Kd.R_far (p := ⟨gb828, 0, none⟩) (Kd.R_types (Kd.R_types HO825.out BK828.out (by decide)) BK829.out (by decide)) (fun _ hk => hk.1.2) (.slice Ao10 t812.length co10)) (fun _ hk => hk.1.2) (.int .i64 t815)) (fun _ hk => hk.1.2) (.int .i64 t816)) (fun _ hk => hk.1.2) (.int .i64 t817)) (fun _ hk => hk.1.2) (.slice Ao14 t818.length co14)) (fun _ hk => hk.2) (.int .i64 t821)) (fun _ hk => hk.2) (.string t822)) (fun _ hk => hk.2) (.slice Ao17 t823.length co17)) (fun _ h_ => h_.1)) (fun _ h_ => h_.1)))) (by decide)) hk (fun _ h => h.2)) (fun _ h => h.1)); have n3_ := Aside0.mk (KeepBut.blk hk (g' := gb828) (o := .cells #[.slice Ao10 t812.length co10, .int .i64 t815, .int .i64 t816, .int .i64 t817, .slice Ao14 t818.length co14] 25 (0, 0)) (by (with_reducible repeat (first | refine blk_drewN ?_ _ | refine blk_drew ?_ | refine blk_alloc ?_ _)); refine blk_far ?_ NB828_829.out _; (with_reducible repeat (first | refine blk_drewN ?_ _ | refine blk_drew ?_ | refine blk_alloc ?_ _)); refine blk_far ?_ NB828_829.out _; (with_reducible repeat (first | refine blk_drewN ?_ _ | refine blk_drew ?_ | refine blk_alloc ?_ _)); refine blk_far ?_ NB828_829.out _; (with_reducible repeat (first | refine blk_drewN ?_ _ | refine blk_drew ?_ | refine blk_alloc ?_ _)); refine blk_put (cs := #[.slice Ao10 t812.length co10, .int .i64 t815, .int .i64 t816, .int .i64 t817, .slice none 0 0]) ?_ 4 _ rfl; (with_reducible repeat (first | refine blk_drewN ?_ _ | refine blk_drew ?_ | refine blk_alloc ?_ _)); refine blk_put (cs := #[.slice Ao10 t812.length co10, .int .i64 t815, .int .i64 t816, .int .i64 0, .slice none 0 0]) ?_ 3 _ rfl; (with_reducible repeat (first | refine blk_drewN ?_ _ | refine blk_drew ?_ | refine blk_alloc ?_ _)); refine blk_put (cs := #[.slice Ao10 t812.length co10, .int .i64 t815, .int .i64 0, .int .i64 0, .slice none 0 0]) ?_ 2 _ rfl; (with_reducible repeat (first | refine blk_drewN ?_ _ | refine blk_drew ?_ | refine blk_alloc ?_ _)); refine blk_put (cs := #[.slice Ao10 t812.length co10, .int .i64 0, .int .i64 0, .int .i64 0, .slice none 0 0]) ?_ 1 _ rfl; (with_reducible repeat (first | refine blk_drewN ?_ _ | refine blk_drew ?_ | refine blk_alloc ?_ _)); refine blk_put (cs := #[.slice none 0 0, .int .i64 0, .int .i64 0, .int .i64 0, .slice none 0 0]) ?_ 0 _ rfl; (with_reducible repeat (first | refine blk_drewN ?_ _ | refine blk_drew ?_ | refine blk_alloc ?_ _)); exact BK828.out) NB828_811.out (by simp)); have n4_ := Aside0.mk (KeepBut.blk hk (g' := gb829) (o := .cells #[.int .i64 t821, .string t822, .slice Ao17 t823.length co17] 32 (0, 0)) (by (with_reducible repeat (first | refine blk_drewN ?_ _ | refine blk_drew ?_ | refine blk_alloc ?_ _)); refine blk_put (cs := #[.int .i64 t821, .string t822, .slice none 0 0]) ?_ 2 _ rfl; (with_reducible repeat (first | refine blk_drewN ?_ _ | refine blk_drew ?_ | refine blk_alloc ?_ _)); refine blk_put (cs := #[.int .i64 t821, .string (⟨#[]⟩ : ByteArray), .slice none 0 0]) ?_ 1 _ rfl; (with_reducible repeat (first | refine blk_drewN ?_ _ | refine blk_drew ?_ | refine blk_alloc ?_ _)); refine blk_put (cs := #[.int .i64 0, .string (⟨#[]⟩ : ByteArray), .slice none 0 0]) ?_ 0 _ rfl; (with_reducible repeat (first | refine blk_drewN ?_ _ | refine blk_drew ?_ | refine blk_alloc ?_ _)); refine blk_far ?_ NB829_828.out _; (with_reducible repeat (first | refine blk_drewN ?_ _ | refine blk_drew ?_ | refine blk_alloc ?_ _)); refine blk_far ?_ NB829_828.out _; (with_reducible repeat (first | refine blk_drewN ?_ _ | refine blk_drew ?_ | refine blk_alloc ?_ _)); refine blk_far ?_ NB829_828.out _; (with_reducible repeat (first | refine blk_drewN ?_ _ | refine blk_drew ?_ | refine blk_alloc ?_ _)); refine blk_far ?_ NB829_828.out _; (with_reducible repeat (first | refine blk_drewN ?_ _ | refine blk_drew ?_ | refine blk_alloc ?_ _)); refine blk_far ?_ NB829_828.out _; (with_reducible repeat (first | refine blk_drewN ?_ _ | refine blk_drew ?_ | refine blk_alloc ?_ _)); exact BK829.out) NB829_811.out (by simp)); have n5_ := Aside0.mk (hb); have n6_ := Aside0.mk (hi); clear HO814 HO820 HO825 BK828 BK829 HB HI811; have HO814 := n0_; have HO820 := n1_; have HO825 := n2_; have BK828 := n3_; have BK829 := n4_; have HB := n5_; have HI811 := n6_; clear n0_ n1_ n2_ n3_ n4_ n5_ n6_; (try clear hb); (try clear hb2); (try clear hk); (try clear hi)))); (try simp only [Act.put, List.setIfInBounds_toArray, List.set_cons_zero, List.set_cons_succ]); go_cut [] (fun wc => ∃ (kq : Nat) (x829004_4 : List (List (S27))) (u829004 : Value), Aside0 (cippuslaw01_SightEnough.j0 kq t812 t815 t816 t817 x829004_4 = some r) ∧ Aside0 (kq ≤ k) ∧ Aside0 (Kd.N k66 66 wc w.heap.size (fun k_ => some k_ ≠ (u829004 : Value).ownBlock ∧ some k_ ≠ ((.slice Ao17 t823.length co17) : Value).ownBlock ∧ k_ ≠ gb828 ∧ k_ ≠ gb829) (.slice Ao10 t812.length co10) t812) ∧ Aside0 (Kd.N (Kd.slice 27 k27) 39 wc w.heap.size (fun k_ => some k_ ≠ ((.slice Ao10 t812.length co10) : Value).ownBlock ∧ some k_ ≠ ((.slice Ao17 t823.length co17) : Value).ownBlock ∧ k_ ≠ gb828 ∧ k_ ≠ gb829) u829004 x829004_4) ∧ Aside0 (Kd.R (Kd.int .i64) 3 wc w.heap.size (fun _ => True) (.slice Ao17 t823.length co17) t823) ∧ Aside0 (wc.heap[gb828]? = some (.cells #[(.slice Ao10 t812.length co10), .int .i64 t815, .int .i64 t816, .int .i64 t817, u829004] 25 (0, 0))) ∧ Aside0 (wc.heap[gb829]? = some (.cells #[.int .i64 t821, .string t822, (.slice Ao17 t823.length co17)] 32 (0, 0))) ∧ Aside0 (Below w.heap.size w wc))
 case first =>
  have H := HC5.out; clear HC5; by_cases c19 : t830 = true
  ·subst c19; (have H1 : ((cippuskit_Urn_Up.f t831 t832 (t818.length : Int)).bind fun bt833 => ((cippuskit_Urn_Up.f bt833.2.1 bt833.2.2 32).bind fun bt836 => (if 0 ≤ bt833.1 then (if bt833.1 < (t818.length : Int) then (cippuslaw01_SightEnough.j0 k t812 t815 t816 t817 (t818.set (bt833.1 : Int).toNat (([(⟨31, bt836.1⟩ : S27)] : List (S27))))) else (none)) else (none)))) = some r := by rw [if_pos rfl] at H; exact H); clear H; have H := H1; clear H1; replace H := Option.bind_eq_some_iff.mp H; obtain ⟨⟨t833, t834, t835⟩, A200, H⟩ := H; replace H : ((cippuskit_Urn_Up.f t834 t835 32).bind fun bt836 => (if 0 ≤ t833 then (if t833 < (t818.length : Int) then (cippuslaw01_SightEnough.j0 k t812 t815 t816 t817 (t818.set (t833 : Int).toNat (([(⟨31, bt836.1⟩ : S27)] : List (S27))))) else (none)) else (none))) = some r := H; have A20 := Aside0.mk A200; clear A200; replace H := Option.bind_eq_some_iff.mp H; obtain ⟨⟨t836, t837, t838⟩, A210, H⟩ := H; replace H : (if 0 ≤ t833 then (if t833 < (t818.length : Int) then (cippuslaw01_SightEnough.j0 k t812 t815 t816 t817 (t818.set (t833 : Int).toNat (([(⟨31, t836⟩ : S27)] : List (S27))))) else (none)) else (none)) = some r := H; have A21 := Aside0.mk A210; clear A210; obtain ⟨y839, hy839⟩ : ∃ y_ : List (S27), y_ = (([(⟨31, t836⟩ : S27)] : List (S27))) := ⟨_, rfl⟩; (replace H : (if 0 ≤ t833 then (if t833 < (t818.length : Int) then (cippuslaw01_SightEnough.j0 k t812 t815 t816 t817 (t818.set (t833 : Int).toNat y839)) else (none)) else (none)) = some r := by first | (rw [hy839]; with_reducible exact H) | (have H2_ := (Option.bind_some _ _).symm.trans H; rw [hy839]; with_reducible exact H2_) | (have H2_ := (Option.bind_some _ _).symm.trans H; with_reducible exact H2_) | with_reducible exact H | (rw [hy839]; exact H) | exact H); have Ny839 := Aside0.mk hy839; clear hy839; by_cases c22 : 0 ≤ t833
   ·rw [if_pos c22] at H; have c22b0 : decide (0 ≤ t833) = true := decide_eq_true c22; clear c22; (first | rw [c22b0] | (simp only [i64_w, i32_w]; rw [c22b0]) | skip); by_cases c23 : t833 < (t818.length : Int)
    ·rw [if_pos c23] at H; have c23b0 : decide (t833 < (t818.length : Int)) = true := decide_eq_true c23; clear c23; obtain ⟨y842, hy842⟩ : ∃ y_ : List (List (S27)), y_ = (t818.set (t833 : Int).toNat y839) := ⟨_, rfl⟩; (replace H : (cippuslaw01_SightEnough.j0 k t812 t815 t816 t817 y842) = some r := by first | (rw [hy842]; with_reducible exact H) | (have H2_ := (Option.bind_some _ _).symm.trans H; rw [hy842]; with_reducible exact H2_) | (have H2_ := (Option.bind_some _ _).symm.trans H; with_reducible exact H2_) | with_reducible exact H | (rw [hy842]; exact H) | exact H); have Ny842 := Aside0.mk hy842; clear hy842; have H' := Aside0.mk H; clear H; have hnb25 := NB828_829.out; have hnc25 := NB829_828.out; have hnb26 := NB828_811.out; have hnc26 := NB811_828.out; have hcz27_0 : w18.cell? ⟨gb828, 0, none⟩ = some (.slice Ao10 t812.length co10) := (blk_cell BK828.out 0).trans rfl; have hcz27_1 : w18.cell? ⟨gb828, 1, none⟩ = some (.int .i64 t815) := (blk_cell BK828.out 1).trans rfl; have hcz27_2 : w18.cell? ⟨gb828, 2, none⟩ = some (.int .i64 t816) := (blk_cell BK828.out 2).trans rfl; have hcz27_3 : w18.cell? ⟨gb828, 3, none⟩ = some (.int .i64 t817) := (blk_cell BK828.out 3).trans rfl; have hcz27_4 : w18.cell? ⟨gb828, 4, none⟩ = some (.slice Ao14 t818.length co14) := (blk_cell BK828.out 4).trans rfl; have hfz27_0 := blk_frozen BK828.out 0; have hfz27_1 := blk_frozen BK828.out 1; have hfz27_2 := blk_frozen BK828.out 2; have hfz27_3 := blk_frozen BK828.out 3; have hfz27_4 := blk_frozen BK828.out 4; (try go_wp2_with (first | ((with_reducible refine gate_callee (f := 33) rfl ?_); refine goesL_ (some 25) rfl rfl Try.func33 (by kernel_rfl) rfl #[.pointer (some ⟨g811, 0, none⟩), .int .i64 (t818.length : Int)] rfl (by (try simp only [List.map_toArray, List.map_cons, List.map_nil]); first | done | rfl | (simp only [List.length_drop, List.length_take]; rfl)) ?_; (with_reducible refine (cippuskit_Urn_Up.calls g811 t831 t832 (t818.length : Int) t833 t834 t835 w _ ?side1 ?side2 A20.out).mono ?_); (case side1 => repeat (first | (with_reducible first | exact HI811.out | apply IsS91.alloc | apply IsS91.drewN | apply IsS91.drew | apply IsS91.set_0 | apply IsS91.set_1 | refine IsS91.far ?_ NB811_828.out _ | refine IsS91.far ?_ NB811_829.out _) | exact HI811.out)); (case side2 => repeat (first | (with_reducible first | exact HB.out | apply below_alloc | apply pw_below_drewN | apply below_drew1 | refine below_set ?_ (IsS91.ge HI811.out) | refine below_set ?_ GE828.out | refine below_set ?_ GE829.out) | exact HB.out)); rintro e w28 ⟨rfl, hi, hb, hk⟩; refine ⟨_, rfl, ?_⟩; have n0_ := Aside0.mk (Kd.N_mono (Kd.N_keep (Kd.N_mono (ok := fun k_ => (((some k_ ≠ (.slice Ao14 t818.length co14 : Value).ownBlock ∧ (some k_ ≠ (.slice Ao17 t823.length co17 : Value).ownBlock ∧ k_ ≠ g811)) ∧ k_ ≠ gb828) ∧ k_ ≠ gb829)) (nU HO814.out) (fun k_ hk_ => (⟨hk_, hk_.1.1.2.2⟩ : _ ∧ k_ ≠ g811))) hk (fun _ h => h.2)) (fun _ h => h.1)); have n1_ := Aside0.mk (Kd.N_mono (Kd.N_keep (Kd.N_mono (ok := fun k_ => (((some k_ ≠ (.slice Ao10 t812.length co10 : Value).ownBlock ∧ (some k_ ≠ (.slice Ao17 t823.length co17 : Value).ownBlock ∧ k_ ≠ g811)) ∧ k_ ≠ gb828) ∧ k_ ≠ gb829)) (nU HO820.out) (fun k_ hk_ => (⟨hk_, hk_.1.1.2.2⟩ : _ ∧ k_ ≠ g811))) hk (fun _ h => h.2)) (fun _ h => h.1)); have n2_ := Aside0.mk (Kd.R_mono (Kd.R_keep (IsS91.apart (show IsS91 w _ g811 t831 t832 from by repeat (first | (with_reducible first | exact HI811.out | apply IsS91.alloc | apply IsS91.drewN | apply IsS91.drew | apply IsS91.set_0 | apply IsS91.set_1 | refine IsS91.far ?_ NB811_828.out _ | refine IsS91.far ?_ NB811_829.out _) | exact HI811.out)) (rU HO825.out) (by decide)) hk (fun _ h => h.2)) (fun _ h => h.1)); have n3_ := Aside0.mk (KeepBut.blk hk (bU BK828.out) NB828_811.out (by simp)); have n4_ := Aside0.mk (KeepBut.blk hk (bU BK829.out) NB829_811.out (by simp)); have n5_ := Aside0.mk (hb); have n6_ := Aside0.mk (hi); clear HO814 HO820 HO825 BK828 BK829 HB HI811; have HO814 := n0_; have HO820 := n1_; have HO825 := n2_; have BK828 := n3_; have BK829 := n4_; have HB := n5_; have HI811 := n6_; clear n0_ n1_ n2_ n3_ n4_ n5_ n6_; (try clear hb); (try clear hb2); (try clear hk); (try clear hi)))); have n0_ := Aside0.mk (Kd.N_drew HO814.out); have n1_ := Aside0.mk (Kd.N_drew HO820.out); have n2_ := Aside0.mk (Kd.R_drew HO825.out); have n3_ := Aside0.mk (blk_drew BK828.out); have n4_ := Aside0.mk (blk_drew BK829.out); have n5_ := Aside0.mk (IsS91.drew HI811.out); have n6_ := Aside0.mk (below_drew1 HB.out); clear HO814 HO820 HO825 BK828 BK829 HI811 HB; have HO814 := n0_; have HO820 := n1_; have HO825 := n2_; have BK828 := n3_; have BK829 := n4_; have HI811 := n5_; have HB := n6_; clear n0_ n1_ n2_ n3_ n4_ n5_ n6_; refine start_ (n := 9) (S := fun w' => w'.cell? ⟨gb828, 0, none⟩ = some (.slice Ao10 t812.length co10) ∧ w'.cell? ⟨gb828, 1, none⟩ = some (.int .i64 t815) ∧ w'.cell? ⟨gb828, 2, none⟩ = some (.int .i64 t816) ∧ w'.cell? ⟨gb828, 3, none⟩ = some (.int .i64 t817) ∧ w'.cell? ⟨gb828, 4, none⟩ = some (.slice Ao14 t818.length co14)) (ds := [8]) #[false, false, false, false, false, false, false, false, false] (by kernel_rfl) rfl rfl ⟨(blk_cell BK828.out 0).trans rfl, (blk_cell BK828.out 1).trans rfl, (blk_cell BK828.out 2).trans rfl, (blk_cell BK828.out 3).trans rfl, (blk_cell BK828.out 4).trans rfl⟩ (fun hHeld => ?_); refine with_tabW cippuslaw01_SightEnough.tab5 cippuslaw01_SightEnough.bits5 (fun HT_ HW_ => ?_); generalize w28.drew = w29 at HO814 HO820 HO825 BK828 BK829 HI811 HB hHeld ⊢; refine pure_ (i := 0) (N := some 26) (v := ?_) (a' := ?_) #[true, false, false, false, false, false, false, false, false] rfl rfl (any_of HT_.out (by kernel_rfl)) (fun _ _ _ h => h) (Or.inl ⟨by rfl, ?_⟩) ?_ ?_; rotate_left
     ·intro w'; go_simp; with_reducible rfl
     rotate_left
     ·simp only [Act.put, List.setIfInBounds_toArray, List.set_cons_zero, List.set_cons_succ, i64_w, i32_w]; rfl
     refine pure_ (i := 2) (N := some 28) (v := ?_) (a' := ?_) #[true, false, true, false, false, false, false, false, false] rfl rfl (any_of HT_.out (by kernel_rfl)) (fun _ _ _ h => h) (Or.inl ⟨by rfl, ?_⟩) ?_ ?_; rotate_left
     ·intro w'; go_simp; with_reducible rfl
     rotate_left
     ·simp only [Act.put, List.setIfInBounds_toArray, List.set_cons_zero, List.set_cons_succ, i64_w, i32_w]; rfl
     refine pure_ (i := 3) (N := some 29) (v := ?_) (a' := ?_) #[true, false, true, true, false, false, false, false, false] rfl rfl (any_of HT_.out (by kernel_rfl)) (fun _ _ _ h => h) (Or.inl ⟨by rfl, ?_⟩) ?_ ?_; rotate_left
     ·intro w'; go_simp; with_reducible rfl
     rotate_left
     ·simp only [Act.put, List.setIfInBounds_toArray, List.set_cons_zero, List.set_cons_succ, i64_w, i32_w]; rfl
     refine take_ (i := 1) (N := some 27) (v := ?_) (a' := ?_) #[true, true, true, true, false, false, false, false, false] rfl rfl (take_ofW HT_.out HW_.out (by kernel_rfl)) (fun _ _ _ h => h) (Or.inl ⟨by rfl, ?_⟩) hHeld ?_ ?_; rotate_left
     ·rintro w' ⟨s0, s1, s2, s3, s4⟩; go_simp; with_reducible rfl
     rotate_left
     ·simp only [Act.put, List.setIfInBounds_toArray, List.set_cons_zero, List.set_cons_succ, i64_w, i32_w]; rfl
     refine one_ (i := 4) (N := some 30) #[true, true, true, true, true, false, false, false, false] rfl rfl (one_of HT_.out (by kernel_rfl)) (by decide) (fun K hK => ?_); refine goes_ Try.func33 (by kernel_rfl) rfl #[.pointer (some ⟨g811, 0, none⟩), .int .i64 32] (by rfl) rfl rfl (by (try simp only [List.map_toArray, List.map_cons, List.map_nil]); first | done | rfl | (simp only [List.length_drop, List.length_take]; rfl)) ?_; (with_reducible refine (cippuskit_Urn_Up.calls g811 t834 t835 32 t836 t837 t838 w _ ?side1 ?side2 A21.out).mono ?_); (case side1 => repeat (first | (with_reducible first | exact HI811.out | apply IsS91.alloc | apply IsS91.drewN | apply IsS91.drew | apply IsS91.set_0 | apply IsS91.set_1 | refine IsS91.far ?_ NB811_828.out _ | refine IsS91.far ?_ NB811_829.out _) | exact HI811.out)); (case side2 => repeat (first | (with_reducible first | exact HB.out | apply below_alloc | apply pw_below_drewN | apply below_drew1 | refine below_set ?_ (IsS91.ge HI811.out) | refine below_set ?_ GE828.out | refine below_set ?_ GE829.out) | exact HB.out)); rintro e w30 ⟨rfl, hi, hb, hk⟩; refine ⟨_, rfl, ?_⟩; have n0_ := Aside0.mk (Kd.N_mono (Kd.N_keep (Kd.N_mono (ok := fun k_ => (((some k_ ≠ (.slice Ao14 t818.length co14 : Value).ownBlock ∧ (some k_ ≠ (.slice Ao17 t823.length co17 : Value).ownBlock ∧ k_ ≠ g811)) ∧ k_ ≠ gb828) ∧ k_ ≠ gb829)) (nU HO814.out) (fun k_ hk_ => (⟨hk_, hk_.1.1.2.2⟩ : _ ∧ k_ ≠ g811))) hk (fun _ h => h.2)) (fun _ h => h.1)); have n1_ := Aside0.mk (Kd.N_mono (Kd.N_keep (Kd.N_mono (ok := fun k_ => (((some k_ ≠ (.slice Ao10 t812.length co10 : Value).ownBlock ∧ (some k_ ≠ (.slice Ao17 t823.length co17 : Value).ownBlock ∧ k_ ≠ g811)) ∧ k_ ≠ gb828) ∧ k_ ≠ gb829)) (nU HO820.out) (fun k_ hk_ => (⟨hk_, hk_.1.1.2.2⟩ : _ ∧ k_ ≠ g811))) hk (fun _ h => h.2)) (fun _ h => h.1)); have n2_ := Aside0.mk (Kd.R_mono (Kd.R_keep (IsS91.apart (show IsS91 w _ g811 t834 t835 from by repeat (first | (with_reducible first | exact HI811.out | apply IsS91.alloc | apply IsS91.drewN | apply IsS91.drew | apply IsS91.set_0 | apply IsS91.set_1 | refine IsS91.far ?_ NB811_828.out _ | refine IsS91.far ?_ NB811_829.out _) | exact HI811.out)) (rU HO825.out) (by decide)) hk (fun _ h => h.2)) (fun _ h => h.1)); have n3_ := Aside0.mk (KeepBut.blk hk (bU BK828.out) NB828_811.out (by simp)); have n4_ := Aside0.mk (KeepBut.blk hk (bU BK829.out) NB829_811.out (by simp)); have n5_ := Aside0.mk (hb); have n6_ := Aside0.mk (hi); clear HO814 HO820 HO825 BK828 BK829 HB HI811; have HO814 := n0_; have HO820 := n1_; have HO825 := n2_; have BK828 := n3_; have BK829 := n4_; have HB := n5_; have HI811 := n6_; clear n0_ n1_ n2_ n3_ n4_ n5_ n6_; (try clear hb); (try clear hb2); (try clear hk); (try clear hi); refine hK.out _ _ ⟨(blk_cell BK828.out 0).trans rfl, (blk_cell BK828.out 1).trans rfl, (blk_cell BK828.out 2).trans rfl, (blk_cell BK828.out 3).trans rfl, (blk_cell BK828.out 4).trans rfl⟩ (fun hHeld => ?_); clear hK K; refine norm_ (a' := ?_) ?_ ?_; rotate_left
     ·show Act.put _ (some 30) _ = _; simp only [Act.put, List.setIfInBounds_toArray, List.set_cons_zero, List.set_cons_succ, i64_w, i32_w]; rfl
     refine pure_ (i := 5) (N := some 31) (v := ?_) (a' := ?_) #[true, true, true, true, true, true, false, false, false] rfl rfl (any_of HT_.out (by kernel_rfl)) (fun _ _ _ h => h) (Or.inl ⟨by rfl, ?_⟩) ?_ ?_; rotate_left
     ·intro w'; go_simp; with_reducible rfl
     rotate_left
     ·simp only [Act.put, List.setIfInBounds_toArray, List.set_cons_zero, List.set_cons_succ, i64_w, i32_w]; rfl
     refine one_ (i := 6) (N := some 32) #[true, true, true, true, true, true, true, false, false] rfl rfl (one_of HT_.out (by kernel_rfl)) (by decide) (fun K hK => ?_); refine Kd.R_lit_step k27 _ 27 ?hg (N := 32) ?hd (xs := ([(⟨31, t836⟩ : S27)] : List (S27))) (inner := [.int .i64 31, .int .i64 t836]) (ok := fun _ => True) (okp := fun _ => True) ?hr ?hp (fun _ hk => hk) trivial (Below.refl _ _) (Nat.le_refl _) (by simp) ?_; (case hd => rfl); (case hg => rfl); (case hr => first | (go_simp; done) | (go_simp; rfl)); (case hp => exact (Reps.c2 (show Kd.M k27 _ _ _ (⟨31, t836⟩ : S27) [.int .i64 31, .int .i64 t836] from (k27_mkM _ _ _ (⟨31, t836⟩ : S27) )) (Reps.none _ _))); intro v840 w31 ho32 hb hg_ hnew_; clear hg_ hnew_; (first | rw [← Ny839.out] at ho32 | (simp only [Int.reduceToNat] at ho32; rw [← Ny839.out] at ho32)); have n0_ := Aside0.mk (Kd.N_elder' (nU HO814.out) (Kd.R_base ho32) hb); have n1_ := Aside0.mk (Kd.N_elder' (nU HO820.out) (Kd.R_base ho32) hb); have n2_ := Aside0.mk (Kd.R_below (rU HO825.out) hb); have n3_ := Aside0.mk (Kd.R_lower ho32 (below_size (by repeat (first | (with_reducible first | exact HB.out | apply below_alloc | apply pw_below_drewN | apply below_drew1 | refine below_set ?_ (IsS91.ge HI811.out) | refine below_set ?_ GE828.out | refine below_set ?_ GE829.out) | exact HB.out)))); have n4_ := Aside0.mk (IsS91.below (by repeat (first | (with_reducible first | exact HI811.out | apply IsS91.alloc | apply IsS91.drewN | apply IsS91.drew | apply IsS91.set_0 | apply IsS91.set_1 | refine IsS91.far ?_ NB811_828.out _ | refine IsS91.far ?_ NB811_829.out _) | exact HI811.out)) hb); have n5_ := Aside0.mk (blk_below (bU BK828.out) hb); have n6_ := Aside0.mk (blk_below (bU BK829.out) hb); have n7_ := Aside0.mk (below_step (by repeat (first | (with_reducible first | exact HB.out | apply below_alloc | apply pw_below_drewN | apply below_drew1 | refine below_set ?_ (IsS91.ge HI811.out) | refine below_set ?_ GE828.out | refine below_set ?_ GE829.out) | exact HB.out)) hb); clear HO814 HO820 HO825 HI811 BK828 BK829 HB; have HO814 := n0_; have HO820 := n1_; have HO825 := n2_; have HO841 := n3_; have HI811 := n4_; have BK828 := n5_; have BK829 := n6_; have HB := n7_; clear n0_ n1_ n2_ n3_ n4_ n5_ n6_ n7_; obtain ⟨Ao841, co841, eo841⟩ := Kd.R_slice HO841.out; subst eo841; clear hb ho32; have p24 : 0 ≤ (t833 : Int) := of_decide_eq_true (by first | (with_reducible assumption) | assumption); have q24 : (t833 : Int) < ((t818.length : Int) : Int) := of_decide_eq_true (by first | (with_reducible assumption) | assumption); obtain ⟨go24, co24, eo24, gb24, gl24, cl24, HG24⟩ := Kd.N_form HO820.out (by omega); (first | cases eo24 | (injection eo24 with ea_ en_ ec_; (first | subst ea_ | (injection ea_ with ea_; subst ea_)); subst ec_; clear en_)); have GB24 := Aside0.mk gb24; have GG24 := Aside0.mk HG24; clear gb24 gl24 HG24; obtain ⟨ce24, hcl24, hM24, hcc24, hfr24⟩ := Kd.N_elem HO820.out [] (t833 : Int) p24 q24; obtain ⟨ua24_0, uc24_0, rfl, ul24_0, ge24_0⟩ := Kd.FK_slice_open hM24; have hx24_0 := hcc24 0 _ rfl; have hf24_0 := hfr24 0; (try simp only [show ((Kd.slice 27 k27)).sz = 1 from rfl, Nat.mul_one, Nat.add_zero] at hx24_0); (try simp only [show ((Kd.slice 27 k27)).sz = 1 from rfl, Nat.mul_one, Nat.add_zero] at hf24_0); clear hcl24 hcc24 hfr24 hM24; replace p24 := eq_true p24; replace q24 := eq_true q24; have HN811_go24 := Aside0.mk (show g811 ≠ go24 from by have h_ := IsS91.own_neN HI811.out HO820.out (by decide); intro e_; exact h_ (by rw [e_]; rfl)); have HX33 := Aside0.mk (show Kd.N (Kd.slice 27 k27) 39 _ w.heap.size (fun k_ => some k_ ≠ (.slice Ao10 t812.length co10 : Value).ownBlock ∧ some k_ ≠ (.slice Ao17 t823.length co17 : Value).ownBlock ∧ some k_ ≠ ((.slice Ao841 y839.length co841) : Value).ownBlock ∧ k_ ≠ gb828 ∧ k_ ≠ gb829 ∧ k_ ≠ g811) (.slice (some ⟨go24, 0, none⟩) t818.length co14) t818 from (Kd.N_mono (HO820.out) (fun k_ hk => ⟨hk.1.1.1.1, ⟨hk.1.1.1.2.1, ⟨hk.2, ⟨hk.1.1.2, ⟨hk.1.2, hk.1.1.1.2.2⟩⟩⟩⟩⟩))); replace HX33 := Aside0.mk (show Kd.N (Kd.slice 27 k27) 39 _ w.heap.size (fun k_ => some k_ ≠ (.slice Ao10 t812.length co10 : Value).ownBlock ∧ some k_ ≠ (.slice Ao17 t823.length co17 : Value).ownBlock ∧ k_ ≠ gb828 ∧ k_ ≠ gb829 ∧ k_ ≠ g811) (.slice (some ⟨go24, 0, none⟩) t818.length co14) t818 from Kd.N_mono HX33.out (fun k_ hk => ⟨hk.1, ⟨hk.2.1, ⟨hk.2.2.2.1, ⟨hk.2.2.2.2.1, hk.2.2.2.2.2⟩⟩⟩⟩)); obtain ⟨ce33, hcl33, hM33, hcc33, hfr33⟩ := Kd.N_elem HX33.out [] (t833 : Int) (of_decide_eq_true (by first | (with_reducible assumption) | assumption)) (by have h_ : (t833 : Int) < ((t818.length : Int) : Int) := of_decide_eq_true (by first | (with_reducible assumption) | assumption); first | exact h_ | (have e_ := (Kd.N_reads' HO820.out).1; omega) | simpa using h_); obtain ⟨ua33_0, uc33_0, rfl, ul33_0, ge33_0⟩ := Kd.FK_slice_open hM33; have HP33 := (Kd.N_seg HX33.out (t833 : Int) (of_decide_eq_true (by first | (with_reducible assumption) | assumption)) (by have h_ : (t833 : Int) < ((t818.length : Int) : Int) := of_decide_eq_true (by first | (with_reducible assumption) | assumption); first | exact h_ | (have e_ := (Kd.N_reads' HO820.out).1; omega) | simpa using h_) (seg := [(.slice Ao841 y839.length co841)]) (j := 0) hcl33 hcc33 (show 1 ≤ 1 from by decide) (x' := y839) (Kd.FK_slice_mk (Kd.R_reads' (Kd.R_mono (ok' := (fun k_ => ((fun k_ => some k_ ≠ (.slice Ao10 t812.length co10 : Value).ownBlock ∧ some k_ ≠ (.slice Ao17 t823.length co17 : Value).ownBlock ∧ k_ ≠ gb828 ∧ k_ ≠ gb829 ∧ k_ ≠ g811)) k_ ∧ k_ ≠ go24)) (IsS91.apart HI811.out (Kd.R_types (Kd.R_types (Kd.R_apart' (Kd.R_apart' (Kd.R_apart' (HO841.out) (Kd.N_typed HO814.out) (by decide)) (Kd.R_typed HO825.out) (by decide)) (Kd.N_typed HO820.out) (by decide)) BK828.out (by decide)) BK829.out (by decide)) (by decide)) (fun k_ hk => ⟨⟨hk.1.1.1.1.1.2, ⟨hk.1.1.1.1.2, ⟨hk.1.1.2, ⟨hk.1.2, hk.2⟩⟩⟩⟩, fun e_ => (hk.1.1.1.2) (by rw [e_]; rfl)⟩))).2.1 (Kd.R_F (Kd.R_mono (ok' := (fun k_ => ((fun k_ => some k_ ≠ (.slice Ao10 t812.length co10 : Value).ownBlock ∧ some k_ ≠ (.slice Ao17 t823.length co17 : Value).ownBlock ∧ k_ ≠ gb828 ∧ k_ ≠ gb829 ∧ k_ ≠ g811)) k_ ∧ k_ ≠ go24)) (IsS91.apart HI811.out (Kd.R_types (Kd.R_types (Kd.R_apart' (Kd.R_apart' (Kd.R_apart' (HO841.out) (Kd.N_typed HO814.out) (by decide)) (Kd.R_typed HO825.out) (by decide)) (Kd.N_typed HO820.out) (by decide)) BK828.out (by decide)) BK829.out (by decide)) (by decide)) (fun k_ hk => ⟨⟨hk.1.1.1.1.1.2, ⟨hk.1.1.1.1.2, ⟨hk.1.1.2, ⟨hk.1.2, hk.2⟩⟩⟩⟩, fun e_ => (hk.1.1.1.2) (by rw [e_]; rfl)⟩)))) (fun _ hk => hk)).1; (try simp only [show ((Kd.slice 27 k27)).sz = 1 from rfl, Nat.mul_one, Nat.add_zero] at HP33); rw [← Ny842.out] at HP33; have HQ33 := Aside0.mk HP33; clear hcl33 hcc33 hfr33 hM33 HP33; refine hK.out _ _ ⟨(blk_cell BK828.out 0).trans rfl, (blk_cell BK828.out 1).trans rfl, (blk_cell BK828.out 2).trans rfl, (blk_cell BK828.out 3).trans rfl, (blk_cell BK828.out 4).trans rfl⟩ (fun hHeld => ?_); clear hK K; refine norm_ (a' := ?_) ?_ ?_; rotate_left
     ·show Act.put _ (some 32) _ = _; simp only [Act.put, List.setIfInBounds_toArray, List.set_cons_zero, List.set_cons_succ, i64_w, i32_w]; rfl
     refine pure_ (i := 7) (N := some 33) (v := ?_) (a' := ?_) #[true, true, true, true, true, true, true, true, false] rfl rfl (any_of HT_.out (by kernel_rfl)) (fun _ _ _ h => h) (Or.inl ⟨by rfl, ?_⟩) ?_ ?_; rotate_left
     ·intro w'; go_simp; with_reducible rfl
     rotate_left
     ·simp only [Act.put, List.setIfInBounds_toArray, List.set_cons_zero, List.set_cons_succ, i64_w, i32_w]; rfl
     refine last_ (i := 8) (N := none) #[true, true, true, true, true, true, true, true, true] rfl rfl (one_of HT_.out (by kernel_rfl)) (by decide) (fun K hK => ?_); refine skip_ (w1 := ?_) (by rfl) rfl ?_ ?_; rotate_left
     ·go_simp; rfl
     refine hK.out _ _ ?_; clear hK K; refine done_ (done_of HT_.out (by kernel_rfl)) ?_; (try go_wp2); go_meet; case rel => exact ⟨_, (y842), (.slice (some ⟨go24, 0, none⟩) t818.length co14), H', ⟨by first | omega | exact Nat.le_refl _⟩, ⟨by (with_reducible repeat (first | apply Kd.N_alloc | apply Kd.N_drewN | apply Kd.N_drew)); exact Kd.N_mono (Kd.N_far (p := ⟨go24, (t833 : Int).toNat, none⟩) (Kd.N_mono HO814.out (fun k_ hk => (⟨hk, fun e_ => hk.1.1.1.1 (by rw [e_]; rfl)⟩ : _ ∧ k_ ≠ go24))) (fun _ hk => hk.2) ((.slice Ao841 y839.length co841))) (fun _ hk => ⟨hk.1.1.1.1.1, ⟨hk.1.1.1.1.2.1, ⟨hk.1.1.1.2, hk.1.1.2⟩⟩⟩)⟩, ⟨by (with_reducible repeat (first | apply Kd.N_alloc | apply Kd.N_drewN | apply Kd.N_drew)); exact Kd.N_mono HQ33.out (fun _ hk => ⟨hk.1, ⟨hk.2.1, ⟨hk.2.2.1, hk.2.2.2.1⟩⟩⟩)⟩, ⟨by (with_reducible repeat (first | apply Kd.R_alloc | apply Kd.R_drewN | apply Kd.R_drew)); exact Kd.R_mono (Kd.R_far (p := ⟨go24, (t833 : Int).toNat, none⟩) (Kd.R_types HO825.out GG24.out (by decide)) (fun _ hk => hk.2) ((.slice Ao841 y839.length co841))) (fun _ hk => trivial)⟩, ⟨by (with_reducible repeat (first | refine blk_drewN ?_ _ | refine blk_drew ?_ | refine blk_alloc ?_ _)); refine blk_far ?_ (by have h_ := Kd.N_away HO820.out (fun _ hk => hk.1.1.2); intro e_; exact h_ (by rw [e_]; rfl)) _; (with_reducible repeat (first | refine blk_drewN ?_ _ | refine blk_drew ?_ | refine blk_alloc ?_ _)); exact BK828.out⟩, ⟨by (with_reducible repeat (first | refine blk_drewN ?_ _ | refine blk_drew ?_ | refine blk_alloc ?_ _)); refine blk_far ?_ (by have h_ := Kd.N_away HO820.out (fun _ hk => hk.1.2); intro e_; exact h_ (by rw [e_]; rfl)) _; (with_reducible repeat (first | refine blk_drewN ?_ _ | refine blk_drew ?_ | refine blk_alloc ?_ _)); exact BK829.out⟩, ⟨by repeat (first | (with_reducible first | exact HB.out | apply below_alloc | apply pw_below_drewN | apply below_drew1 | refine below_set ?_ GB24.out | refine below_set ?_ (IsS91.ge HI811.out) | refine below_set ?_ GE828.out | refine below_set ?_ GE829.out) | exact HB.out)⟩⟩
    ·rw [if_neg c23] at H; exact absurd H (by simp)
   ·rw [if_neg c22] at H; exact absurd H (by simp)
  ·replace c19 := Bool.eq_false_iff.mpr c19; subst c19; (have H1 : (cippuslaw01_SightEnough.j0 k t812 t815 t816 t817 t818) = some r := by rw [if_neg (show ¬ (false = true) by decide)] at H; exact H); clear H; have H := H1; clear H1; have H' := Aside0.mk H; clear H; go_wp2; go_meet; case rel => exact ⟨_, (t818), (.slice Ao14 t818.length co14), H', ⟨by first | omega | exact Nat.le_refl _⟩, ⟨by (with_reducible repeat (first | apply Kd.N_alloc | apply Kd.N_drewN | apply Kd.N_drew)); exact Kd.N_mono HO814.out (fun _ hk => ⟨hk.1.1.1, ⟨hk.1.1.2.1, ⟨hk.1.2, hk.2⟩⟩⟩)⟩, ⟨by (with_reducible repeat (first | apply Kd.N_alloc | apply Kd.N_drewN | apply Kd.N_drew)); exact Kd.N_mono HO820.out (fun _ hk => ⟨hk.1.1.1, ⟨hk.1.1.2.1, ⟨hk.1.2, hk.2⟩⟩⟩)⟩, ⟨by (with_reducible repeat (first | apply Kd.R_alloc | apply Kd.R_drewN | apply Kd.R_drew)); exact HO825.out⟩, ⟨by (with_reducible repeat (first | refine blk_drewN ?_ _ | refine blk_drew ?_ | refine blk_alloc ?_ _)); exact BK828.out⟩, ⟨by (with_reducible repeat (first | refine blk_drewN ?_ _ | refine blk_drew ?_ | refine blk_alloc ?_ _)); exact BK829.out⟩, ⟨by repeat (first | (with_reducible first | exact HB.out | apply below_alloc | apply pw_below_drewN | apply below_drew1 | refine below_set ?_ (IsS91.ge HI811.out) | refine below_set ?_ GE828.out | refine below_set ?_ GE829.out) | exact HB.out)⟩⟩
 case rest =>
  clear HC5; (try clear c1); (try clear c2); (try clear p2); (try clear q2); (try clear hx2); (try clear hf2); (try clear c3); (try clear c7); (try clear c11); (try clear c12); (try clear c15); (try clear c16); (try clear c19); (try clear c22); (try clear c22b0); (try clear c23); (try clear c23b0); (try clear c24); (try clear p24); (try clear q24); (try clear hx24); (try clear hf24); (try clear c25); (try clear c26); (try clear c32); (try clear c33); (try clear hcz13_0); (try clear hcz13_1); (try clear hcz13_2); (try clear hcz13_3); (try clear hcz13_4); (try clear hcz16_0); (try clear hcz16_1); (try clear hcz16_2); (try clear hcz27_0); (try clear hcz27_1); (try clear hcz27_2); (try clear hcz27_3); (try clear hcz27_4); (try clear hfz13_0); (try clear hfz13_1); (try clear hfz13_2); (try clear hfz13_3); (try clear hfz13_4); (try clear hfz16_0); (try clear hfz16_1); (try clear hfz16_2); (try clear hfz27_0); (try clear hfz27_1); (try clear hfz27_2); (try clear hfz27_3); (try clear hfz27_4); (try clear hx24_0); (try clear p24); (try clear q24); obtain ⟨kq, x829004_4, u829004, HA, HJ4, HO_829000, HO_829004, HO_830002, BK828, BK829, HB⟩ := hcut
  cases kq with
  | zero => exact absurd HA.out (by simp [cippuslaw01_SightEnough.j0])
  | succ kj4 =>
   have H := HA.out; clear HA; simp only [cippuslaw01_SightEnough.j0] at H; replace H := Option.bind_eq_some_iff.mp H; obtain ⟨⟨t843, t844⟩, A340, H⟩ := H; replace H : (cippuslaw01_SightEnough.l0 kj4 t843 t844 0 t812 t815 t816 t817 x829004_4) = some r := H; have A34 := Aside0.mk A340; clear A340; have H' := Aside0.mk H; clear H; have hnb35 := NB828_829.out; have hnc35 := NB829_828.out; have hcz36_0 : wc.cell? ⟨gb828, 0, none⟩ = some (.slice Ao10 t812.length co10) := (blk_cell BK828.out 0).trans rfl; have hcz36_1 : wc.cell? ⟨gb828, 1, none⟩ = some (.int .i64 t815) := (blk_cell BK828.out 1).trans rfl; have hcz36_2 : wc.cell? ⟨gb828, 2, none⟩ = some (.int .i64 t816) := (blk_cell BK828.out 2).trans rfl; have hcz36_3 : wc.cell? ⟨gb828, 3, none⟩ = some (.int .i64 t817) := (blk_cell BK828.out 3).trans rfl; have hcz36_4 : wc.cell? ⟨gb828, 4, none⟩ = some (u829004) := (blk_cell BK828.out 4).trans rfl; have hfz36_0 := blk_frozen BK828.out 0; have hfz36_1 := blk_frozen BK828.out 1; have hfz36_2 := blk_frozen BK828.out 2; have hfz36_3 := blk_frozen BK828.out 3; have hfz36_4 := blk_frozen BK828.out 4; obtain ⟨Ao37, co37, eo37⟩ := Kd.N_slice HO_829004.out; subst eo37; (go_wp2_with (first | ((with_reducible refine gate_callee (f := 21) rfl ?_); refine goesL_ (some 36) rfl rfl Try.func21 (by kernel_rfl) rfl #[.agg #[.slice Ao10 t812.length co10, .int .i64 t815, .int .i64 t816, .int .i64 t817, .slice Ao37 x829004_4.length co37]] rfl (by (try simp only [List.map_toArray, List.map_cons, List.map_nil]); first | done | rfl | (simp only [List.length_drop, List.length_take]; rfl)) ?_; (with_reducible refine (sight_Marks.calls _ _ t812 t815 t816 t817 _ _ x829004_4 t843 t844 _ ?side1 ?side2 ?side3 ?side4 A34.out).mono ?_); (case side1 => repeat (first | exact (Kd.N_reads' HO_829000.out).2.2 | (with_reducible refine Kd.C_alloc ?_ _) | (with_reducible refine Kd.C_drewN ?_ _) | (with_reducible refine Kd.C_drew ?_))); (case side2 => exact (Kd.N_reads' HO_829000.out).2.1); (case side3 => repeat (first | exact (Kd.N_reads' HO_829004.out).2.2 | (with_reducible refine Kd.C_alloc ?_ _) | (with_reducible refine Kd.C_drewN ?_ _) | (with_reducible refine Kd.C_drew ?_))); (case side4 => exact (Kd.N_reads' HO_829004.out).2.1); rintro e w38 ⟨rfl, hb⟩; refine ⟨_, rfl, ?_⟩; have n0_ := Aside0.mk (Kd.N_below (nU HO_829000.out) hb); have n1_ := Aside0.mk (Kd.N_below (nU HO_829004.out) hb); have n2_ := Aside0.mk (Kd.R_below (rU HO_830002.out) hb); have n3_ := Aside0.mk (blk_below (bU BK828.out) hb); have n4_ := Aside0.mk (blk_below (bU BK829.out) hb); have n5_ := Aside0.mk (below_step (by repeat (first | (with_reducible first | exact HB.out | apply below_alloc | apply pw_below_drewN | apply below_drew1 | refine below_set ?_ GE828.out | refine below_set ?_ GE829.out) | exact HB.out)) hb); clear HO_829000 HO_829004 HO_830002 BK828 BK829 HB; have HO_829000 := n0_; have HO_829004 := n1_; have HO_830002 := n2_; have BK828 := n3_; have BK829 := n4_; have HB := n5_; clear n0_ n1_ n2_ n3_ n4_ n5_; (try clear hb); (try clear hb2); (try clear hk); (try clear hi)))); (go_loopg [9] kj4 (fun kq v9 w' => ∃ (x9_2 : Int) (x829003_2 : Int), v9 = .int .i64 x9_2 ∧ Aside0 (cippuslaw01_SightEnough.l0 kq t843 t844 x9_2 t812 t815 t816 x829003_2 x829004_4 = some r) ∧ Aside0 (kq ≤ kj4) ∧ Aside0 (Kd.N k66 66 w' w.heap.size (fun k_ => some k_ ≠ ((.slice Ao37 x829004_4.length co37) : Value).ownBlock ∧ some k_ ≠ ((.slice Ao17 t823.length co17) : Value).ownBlock ∧ k_ ≠ gb828 ∧ k_ ≠ gb829) (.slice Ao10 t812.length co10) t812) ∧ Aside0 (Kd.N (Kd.slice 27 k27) 39 w' w.heap.size (fun k_ => some k_ ≠ ((.slice Ao10 t812.length co10) : Value).ownBlock ∧ some k_ ≠ ((.slice Ao17 t823.length co17) : Value).ownBlock ∧ k_ ≠ gb828 ∧ k_ ≠ gb829) (.slice Ao37 x829004_4.length co37) x829004_4) ∧ Aside0 (Kd.R (Kd.int .i64) 3 w' w.heap.size (fun _ => True) (.slice Ao17 t823.length co17) t823) ∧ Aside0 (w'.heap[gb828]? = some (.cells #[(.slice Ao10 t812.length co10), .int .i64 t815, .int .i64 t816, .int .i64 x829003_2, (.slice Ao37 x829004_4.length co37)] 25 (0, 0))) ∧ Aside0 (w'.heap[gb829]? = some (.cells #[.int .i64 t821, .string t822, (.slice Ao17 t823.length co17)] 32 (0, 0))) ∧ Aside0 (Below w.heap.size w w'))); case atStart => exact ⟨(0), (t817), (by first | rfl | (simp; done) | (simp [*]; done)), H', ⟨Nat.le_refl _⟩, ⟨by (with_reducible repeat (first | apply Kd.N_alloc | apply Kd.N_drewN | apply Kd.N_drew)); exact HO_829000.out⟩, ⟨by (with_reducible repeat (first | apply Kd.N_alloc | apply Kd.N_drewN | apply Kd.N_drew)); exact HO_829004.out⟩, ⟨by (with_reducible repeat (first | apply Kd.R_alloc | apply Kd.R_drewN | apply Kd.R_drew)); exact HO_830002.out⟩, ⟨by (with_reducible repeat (first | refine blk_drewN ?_ _ | refine blk_drew ?_ | refine blk_alloc ?_ _)); exact BK828.out⟩, ⟨by (with_reducible repeat (first | refine blk_drewN ?_ _ | refine blk_drew ?_ | refine blk_alloc ?_ _)); exact BK829.out⟩, ⟨by repeat (first | (with_reducible first | exact HB.out | apply below_alloc | apply pw_below_drewN | apply below_drew1 | refine below_set ?_ GE828.out | refine below_set ?_ GE829.out) | exact HB.out)⟩⟩
   case round =>
    clear H'; (try clear c1); (try clear c2); (try clear p2); (try clear q2); (try clear hx2); (try clear hf2); (try clear c3); (try clear c7); (try clear c11); (try clear c12); (try clear c15); (try clear c16); (try clear c19); (try clear c21); (try clear c22); (try clear c22b0); (try clear c23); (try clear c23b0); (try clear c24); (try clear p24); (try clear q24); (try clear hx24); (try clear hf24); (try clear c25); (try clear c26); (try clear c32); (try clear c33); (try clear c35); (try clear hcz13_0); (try clear hcz13_1); (try clear hcz13_2); (try clear hcz13_3); (try clear hcz13_4); (try clear hcz16_0); (try clear hcz16_1); (try clear hcz16_2); (try clear hcz27_0); (try clear hcz27_1); (try clear hcz27_2); (try clear hcz27_3); (try clear hcz27_4); (try clear hcz36_0); (try clear hcz36_1); (try clear hcz36_2); (try clear hcz36_3); (try clear hcz36_4); (try clear hfz13_0); (try clear hfz13_1); (try clear hfz13_2); (try clear hfz13_3); (try clear hfz13_4); (try clear hfz16_0); (try clear hfz16_1); (try clear hfz16_2); (try clear hfz27_0); (try clear hfz27_1); (try clear hfz27_2); (try clear hfz27_3); (try clear hfz27_4); (try clear hfz36_0); (try clear hfz36_1); (try clear hfz36_2); (try clear hfz36_3); (try clear hfz36_4); (try clear hx24_0); (try clear p2); (try clear p24); (try clear q2); (try clear q24); obtain ⟨x9_2, x829003_2, rfl, HA, HK2, HO_829000, HO_829004, HO_830002, BK828, BK829, HB⟩ := hrel
    cases gk with
    | zero => exact absurd HA.out (by simp [cippuslaw01_SightEnough.l0])
    | succ k2 =>
     have H := HA.out; clear HA; simp only [cippuslaw01_SightEnough.l0] at H; by_cases c39 : x9_2 ≤ 12
     ·rw [if_pos c39] at H; have c39b0 : decide (x9_2 ≤ 12) = true := decide_eq_true c39; clear c39; replace H := Option.bind_eq_some_iff.mp H; obtain ⟨⟨t847, t850⟩, A400, H⟩ := H; replace H : (if t844 = 0 then (cippuslaw01_SightEnough.j2 k2 t843 t844 x9_2 t847 t850 (decide (t843 ≤ x9_2)) t812 t815 t816 x9_2 x829004_4) else (cippuslaw01_SightEnough.j2 k2 t843 t844 x9_2 t847 t850 false t812 t815 t816 x9_2 x829004_4)) = some r := H; have A40 := Aside0.mk A400; clear A400; have HC41 := Aside0.mk H; clear H; have hnb42 := NB828_829.out; have hnc42 := NB829_828.out; have hcz43_0 : wr.cell? ⟨gb828, 0, none⟩ = some (.slice Ao10 t812.length co10) := (blk_cell BK828.out 0).trans rfl; have hcz43_1 : wr.cell? ⟨gb828, 1, none⟩ = some (.int .i64 t815) := (blk_cell BK828.out 1).trans rfl; have hcz43_2 : wr.cell? ⟨gb828, 2, none⟩ = some (.int .i64 t816) := (blk_cell BK828.out 2).trans rfl; have hcz43_3 : wr.cell? ⟨gb828, 3, none⟩ = some (.int .i64 x829003_2) := (blk_cell BK828.out 3).trans rfl; have hcz43_4 : wr.cell? ⟨gb828, 4, none⟩ = some (.slice Ao37 x829004_4.length co37) := (blk_cell BK828.out 4).trans rfl; have hfz43_0 := blk_frozen BK828.out 0; have hfz43_1 := blk_frozen BK828.out 1; have hfz43_2 := blk_frozen BK828.out 2; have hfz43_3 := blk_frozen BK828.out 3; have hfz43_4 := blk_frozen BK828.out 4; (go_upto_region 12 with (first | ((with_reducible refine gate_callee (f := 27) rfl ?_); refine goesL_ (some 47) rfl rfl Try.func27 (by kernel_rfl) rfl #[.agg #[.slice Ao10 t812.length co10, .int .i64 t815, .int .i64 t816, .int .i64 x9_2, .slice Ao37 x829004_4.length co37]] rfl (by (try simp only [List.map_toArray, List.map_cons, List.map_nil]); first | done | rfl | (simp only [List.length_drop, List.length_take]; rfl)) ?_; (with_reducible refine (sight_Hands.calls _ _ t812 t815 t816 x9_2 _ _ x829004_4 t847 t850 _ ?side1 ?side2 ?side3 ?side4 A40.out).mono ?_); (case side1 => refine (Kd.N_reads' (e := 66) (base := w.heap.size) (ok := fun k_ => (some k_ ≠ (.slice Ao37 x829004_4.length co37 : Value).ownBlock ∧ (some k_ ≠ (.slice Ao17 t823.length co17 : Value).ownBlock ∧ (k_ ≠ gb828 ∧ k_ ≠ gb829)))) (n := t812.length) (c := co10) ?_).2.2; exact (nU ((Kd.N_mono (Kd.N_far (p := ⟨gb828, 3, none⟩) (Kd.N_mono HO_829000.out (fun k_ hk => (⟨hk, hk.2.2.1⟩ : _ ∧ k_ ≠ gb828))) (fun _ hk => hk.2) (.int .i64 x9_2)) (fun _ h_ => h_.1))))); (case side2 => exact (Kd.N_reads' HO_829000.out).2.1); (case side3 => refine (Kd.N_reads' (e := 39) (base := w.heap.size) (ok := fun k_ => (some k_ ≠ (.slice Ao10 t812.length co10 : Value).ownBlock ∧ (some k_ ≠ (.slice Ao17 t823.length co17 : Value).ownBlock ∧ (k_ ≠ gb828 ∧ k_ ≠ gb829)))) (n := x829004_4.length) (c := co37) ?_).2.2; exact (nU ((Kd.N_mono (Kd.N_far (p := ⟨gb828, 3, none⟩) (Kd.N_mono HO_829004.out (fun k_ hk => (⟨hk, hk.2.2.1⟩ : _ ∧ k_ ≠ gb828))) (fun _ hk => hk.2) (.int .i64 x9_2)) (fun _ h_ => h_.1))))); (case side4 => exact (Kd.N_reads' HO_829004.out).2.1); rintro e w44 ⟨v848, rfl, ho0, hb⟩; refine ⟨_, rfl, ?_⟩; have n0_ := Aside0.mk (Kd.N_elder' (nU ((Kd.N_mono (Kd.N_far (p := ⟨gb828, 3, none⟩) (Kd.N_mono HO_829000.out (fun k_ hk => (⟨hk, hk.2.2.1⟩ : _ ∧ k_ ≠ gb828))) (fun _ hk => hk.2) (.int .i64 x9_2)) (fun _ h_ => h_.1)))) (Kd.R_base ho0) hb); have n1_ := Aside0.mk (Kd.N_elder' (nU ((Kd.N_mono (Kd.N_far (p := ⟨gb828, 3, none⟩) (Kd.N_mono HO_829004.out (fun k_ hk => (⟨hk, hk.2.2.1⟩ : _ ∧ k_ ≠ gb828))) (fun _ hk => hk.2) (.int .i64 x9_2)) (fun _ h_ => h_.1)))) (Kd.R_base ho0) hb); have n2_ := Aside0.mk (Kd.R_elder' (rU ((Kd.R_mono (Kd.R_far (p := ⟨gb828, 3, none⟩) (Kd.R_types HO_830002.out BK828.out (by decide)) (fun _ hk => hk.2) (.int .i64 x9_2)) (fun _ h_ => h_.1)))) (Kd.R_base ho0) hb); have n3_ := Aside0.mk (Kd.R_lower (Kd.R_new' ho0 (Kd.R_lt (rU ((Kd.R_mono (Kd.R_far (p := ⟨gb828, 3, none⟩) (Kd.R_types HO_830002.out BK828.out (by decide)) (fun _ hk => hk.2) (.int .i64 x9_2)) (fun _ h_ => h_.1)))))) (below_size (by repeat (first | (with_reducible first | exact HB.out | apply below_alloc | apply pw_below_drewN | apply below_drew1 | refine below_set ?_ GE828.out | refine below_set ?_ GE829.out) | exact HB.out)))); have n4_ := Aside0.mk (blk_below (g := gb828) (o := .cells #[.slice Ao10 t812.length co10, .int .i64 t815, .int .i64 t816, .int .i64 x9_2, .slice Ao37 x829004_4.length co37] 25 (0, 0)) (by (with_reducible repeat (first | refine blk_drewN ?_ _ | refine blk_drew ?_ | refine blk_alloc ?_ _)); refine blk_put (cs := #[.slice Ao10 t812.length co10, .int .i64 t815, .int .i64 t816, .int .i64 x829003_2, .slice Ao37 x829004_4.length co37]) ?_ 3 _ rfl; (with_reducible repeat (first | refine blk_drewN ?_ _ | refine blk_drew ?_ | refine blk_alloc ?_ _)); exact BK828.out) hb); have n5_ := Aside0.mk (blk_below (g := gb829) (o := .cells #[.int .i64 t821, .string t822, .slice Ao17 t823.length co17] 32 (0, 0)) (by (with_reducible repeat (first | refine blk_drewN ?_ _ | refine blk_drew ?_ | refine blk_alloc ?_ _)); refine blk_far ?_ NB829_828.out _; (with_reducible repeat (first | refine blk_drewN ?_ _ | refine blk_drew ?_ | refine blk_alloc ?_ _)); exact BK829.out) hb); have n6_ := Aside0.mk (below_step (by repeat (first | (with_reducible first | exact HB.out | apply below_alloc | apply pw_below_drewN | apply below_drew1 | refine below_set ?_ GE828.out | refine below_set ?_ GE829.out) | exact HB.out)) hb); clear HO_829000 HO_829004 HO_830002 BK828 BK829 HB; have HO_829000 := n0_; have HO_829004 := n1_; have HO_830002 := n2_; have HO849 := n3_; have BK828 := n4_; have BK829 := n5_; have HB := n6_; clear n0_ n1_ n2_ n3_ n4_ n5_ n6_; (try clear hb); (try clear hb2); (try clear hk); (try clear hi); (try clear ho0)))); (try simp only [Act.put, List.setIfInBounds_toArray, List.set_cons_zero, List.set_cons_succ]); go_cut [56] (fun v56 wc => ∃ (kq : Nat) (x56_40 : Bool), v56 = .bool x56_40 ∧ Aside0 (cippuslaw01_SightEnough.j2 kq t843 t844 x9_2 t847 t850 x56_40 t812 t815 t816 x9_2 x829004_4 = some r) ∧ Aside0 (kq ≤ k2) ∧ Aside0 (Kd.R (Kd.int .i64) 3 wc w.heap.size (fun k_ => some k_ ≠ ((.slice Ao17 t823.length co17) : Value).ownBlock) v848 t847) ∧ Aside0 (Kd.N k66 66 wc w.heap.size (fun k_ => some k_ ≠ (v848 : Value).ownBlock ∧ some k_ ≠ ((.slice Ao37 x829004_4.length co37) : Value).ownBlock ∧ some k_ ≠ ((.slice Ao17 t823.length co17) : Value).ownBlock ∧ k_ ≠ gb828 ∧ k_ ≠ gb829) (.slice Ao10 t812.length co10) t812) ∧ Aside0 (Kd.N (Kd.slice 27 k27) 39 wc w.heap.size (fun k_ => some k_ ≠ (v848 : Value).ownBlock ∧ some k_ ≠ ((.slice Ao10 t812.length co10) : Value).ownBlock ∧ some k_ ≠ ((.slice Ao17 t823.length co17) : Value).ownBlock ∧ k_ ≠ gb828 ∧ k_ ≠ gb829) (.slice Ao37 x829004_4.length co37) x829004_4) ∧ Aside0 (Kd.R (Kd.int .i64) 3 wc w.heap.size (fun k_ => some k_ ≠ (v848 : Value).ownBlock) (.slice Ao17 t823.length co17) t823) ∧ Aside0 (wc.heap[gb828]? = some (.cells #[(.slice Ao10 t812.length co10), .int .i64 t815, .int .i64 t816, .int .i64 x9_2, (.slice Ao37 x829004_4.length co37)] 25 (0, 0))) ∧ Aside0 (wc.heap[gb829]? = some (.cells #[.int .i64 t821, .string t822, (.slice Ao17 t823.length co17)] 32 (0, 0))) ∧ Aside0 (Below w.heap.size w wc))
      case first =>
       have H := HC41.out; clear HC41; by_cases c45 : t844 = 0
       ·rw [if_pos c45] at H; have c45b0 : (t844 == 0) = true := beq_iff_eq.mpr c45; have c45b1 : (t844 != 0) = false := bne_eq_false_iff_eq.mpr c45; clear c45; (first | rw [c45b0] | (simp only [i64_w, i32_w]; rw [c45b0]) | skip); have H' := Aside0.mk H; clear H; go_wp2; go_meet; case rel => exact ⟨_, (decide (t843 ≤ x9_2)), (by first | rfl | (simp; done) | (simp [*]; done)), H', ⟨by have := HJ4.out; have := HK2.out; first | omega | exact Nat.le_refl _⟩, ⟨by (with_reducible repeat (first | apply Kd.R_alloc | apply Kd.R_drewN | apply Kd.R_drew)); exact Kd.R_mono HO849.out (fun _ hk => hk.2)⟩, ⟨by (with_reducible repeat (first | apply Kd.N_alloc | apply Kd.N_drewN | apply Kd.N_drew)); exact Kd.N_mono HO_829000.out (fun _ hk => ⟨hk.2, ⟨hk.1.1, ⟨hk.1.2.1, ⟨hk.1.2.2.1, hk.1.2.2.2⟩⟩⟩⟩)⟩, ⟨by (with_reducible repeat (first | apply Kd.N_alloc | apply Kd.N_drewN | apply Kd.N_drew)); exact Kd.N_mono HO_829004.out (fun _ hk => ⟨hk.2, ⟨hk.1.1, ⟨hk.1.2.1, ⟨hk.1.2.2.1, hk.1.2.2.2⟩⟩⟩⟩)⟩, ⟨by (with_reducible repeat (first | apply Kd.R_alloc | apply Kd.R_drewN | apply Kd.R_drew)); exact Kd.R_mono HO_830002.out (fun _ hk => hk.2)⟩, ⟨by (with_reducible repeat (first | refine blk_drewN ?_ _ | refine blk_drew ?_ | refine blk_alloc ?_ _)); exact BK828.out⟩, ⟨by (with_reducible repeat (first | refine blk_drewN ?_ _ | refine blk_drew ?_ | refine blk_alloc ?_ _)); exact BK829.out⟩, ⟨by repeat (first | (with_reducible first | exact HB.out | apply below_alloc | apply pw_below_drewN | apply below_drew1 | refine below_set ?_ GE828.out | refine below_set ?_ GE829.out) | exact HB.out)⟩⟩
       ·rw [if_neg c45] at H; have c45b0 : (t844 == 0) = false := beq_eq_false_iff_ne.mpr c45; have c45b1 : (t844 != 0) = true := bne_iff_ne.mpr c45; (first | rw [c45b0] | (simp only [i64_w, i32_w]; rw [c45b0]) | skip); have H' := Aside0.mk H; clear H; go_wp2; go_meet; case rel => exact ⟨_, (false), (by first | rfl | (simp; done) | (simp [*]; done)), H', ⟨by have := HJ4.out; have := HK2.out; first | omega | exact Nat.le_refl _⟩, ⟨by (with_reducible repeat (first | apply Kd.R_alloc | apply Kd.R_drewN | apply Kd.R_drew)); exact Kd.R_mono HO849.out (fun _ hk => hk.2)⟩, ⟨by (with_reducible repeat (first | apply Kd.N_alloc | apply Kd.N_drewN | apply Kd.N_drew)); exact Kd.N_mono HO_829000.out (fun _ hk => ⟨hk.2, ⟨hk.1.1, ⟨hk.1.2.1, ⟨hk.1.2.2.1, hk.1.2.2.2⟩⟩⟩⟩)⟩, ⟨by (with_reducible repeat (first | apply Kd.N_alloc | apply Kd.N_drewN | apply Kd.N_drew)); exact Kd.N_mono HO_829004.out (fun _ hk => ⟨hk.2, ⟨hk.1.1, ⟨hk.1.2.1, ⟨hk.1.2.2.1, hk.1.2.2.2⟩⟩⟩⟩)⟩, ⟨by (with_reducible repeat (first | apply Kd.R_alloc | apply Kd.R_drewN | apply Kd.R_drew)); exact Kd.R_mono HO_830002.out (fun _ hk => hk.2)⟩, ⟨by (with_reducible repeat (first | refine blk_drewN ?_ _ | refine blk_drew ?_ | refine blk_alloc ?_ _)); exact BK828.out⟩, ⟨by (with_reducible repeat (first | refine blk_drewN ?_ _ | refine blk_drew ?_ | refine blk_alloc ?_ _)); exact BK829.out⟩, ⟨by repeat (first | (with_reducible first | exact HB.out | apply below_alloc | apply pw_below_drewN | apply below_drew1 | refine below_set ?_ GE828.out | refine below_set ?_ GE829.out) | exact HB.out)⟩⟩
      case rest =>
       clear HC41; (try clear c1); (try clear c2); (try clear p2); (try clear q2); (try clear hx2); (try clear hf2); (try clear c3); (try clear c4); (try clear c7); (try clear c11); (try clear c12); (try clear c15); (try clear c16); (try clear c19); (try clear c21); (try clear c22); (try clear c22b0); (try clear c23); (try clear c23b0); (try clear c24); (try clear p24); (try clear q24); (try clear hx24); (try clear hf24); (try clear c25); (try clear c26); (try clear c27); (try clear c32); (try clear c33); (try clear c35); (try clear c39); (try clear c39b0); (try clear c42); (try clear c45); (try clear c45b0); (try clear c45b1); (try clear hcz13_0); (try clear hcz13_1); (try clear hcz13_2); (try clear hcz13_3); (try clear hcz13_4); (try clear hcz16_0); (try clear hcz16_1); (try clear hcz16_2); (try clear hcz27_0); (try clear hcz27_1); (try clear hcz27_2); (try clear hcz27_3); (try clear hcz27_4); (try clear hcz36_0); (try clear hcz36_1); (try clear hcz36_2); (try clear hcz36_3); (try clear hcz36_4); (try clear hcz43_0); (try clear hcz43_1); (try clear hcz43_2); (try clear hcz43_3); (try clear hcz43_4); (try clear hfz13_0); (try clear hfz13_1); (try clear hfz13_2); (try clear hfz13_3); (try clear hfz13_4); (try clear hfz16_0); (try clear hfz16_1); (try clear hfz16_2); (try clear hfz27_0); (try clear hfz27_1); (try clear hfz27_2); (try clear hfz27_3); (try clear hfz27_4); (try clear hfz36_0); (try clear hfz36_1); (try clear hfz36_2); (try clear hfz36_3); (try clear hfz36_4); (try clear hfz43_0); (try clear hfz43_1); (try clear hfz43_2); (try clear hfz43_3); (try clear hfz43_4); (try clear hx24_0); (try clear p2); (try clear p24); (try clear q2); (try clear q24); obtain ⟨kq, x56_40, rfl, HA, HJ40, HO_10, HO_829000, HO_829004, HO_830002, BK828, BK829, HB⟩ := hcut
       cases kq with
       | zero => exact absurd HA.out (by simp [cippuslaw01_SightEnough.j2])
       | succ kj40 =>
        have H := HA.out; clear HA; simp only [cippuslaw01_SightEnough.j2] at H; by_cases c46 : x56_40 = true
        ·subst c46; (have H1 : (if t850 = 0 then (if (t847.length : Int) = 0 then (some false) else (cippuslaw01_SightEnough.l0 kj40 t843 t844 (wrap64 (x9_2 + 1)) t812 t815 t816 x9_2 x829004_4)) else (some false)) = some r := by rw [if_pos rfl] at H; exact H); clear H; have H := H1; clear H1; by_cases c47 : t850 = 0
         ·rw [if_pos c47] at H; have c47b0 : (t850 == 0) = true := beq_iff_eq.mpr c47; have c47b1 : (t850 != 0) = false := bne_eq_false_iff_eq.mpr c47; clear c47; by_cases c48 : (t847.length : Int) = 0
          ·rw [if_pos c48] at H; have c48b0 : ((t847.length : Int) == 0) = true := beq_iff_eq.mpr c48; have c48b1 : ((t847.length : Int) != 0) = false := bne_eq_false_iff_eq.mpr c48; clear c48; obtain rfl := Option.some.inj H; obtain ⟨Ao49, co49, eo49⟩ := Kd.R_slice HO_10.out; subst eo49; go_wp2
           go_ret
           exact ⟨by first | rfl | (simp [errW_none, errW_some] <;> rfl) | (simp [*, errW_none, errW_some] <;> rfl), by repeat (first | (with_reducible first | exact HB.out | apply below_alloc | apply pw_below_drewN | apply below_drew1 | refine below_set ?_ GE828.out | refine below_set ?_ GE829.out) | exact HB.out)⟩
          ·rw [if_neg c48] at H; have c48b0 : ((t847.length : Int) == 0) = false := beq_eq_false_iff_ne.mpr c48; have c48b1 : ((t847.length : Int) != 0) = true := bne_iff_ne.mpr c48; (have c48b2 : ¬ (t847 = []) := fun h_ => c48 (by rw [h_]; rfl)); have H' := Aside0.mk H; clear H; obtain ⟨Ao50, co50, eo50⟩ := Kd.R_slice HO_10.out; subst eo50; go_wp2; go_roundg kj40; (case measure => have := HJ4.out; have := HK2.out; have := HJ40.out; omega); case rel => exact ⟨(wrap64 (x9_2 + 1)), (x9_2), (by first | rfl | (simp; done) | (simp [*]; done)), H', ⟨by have := HJ4.out; have := HK2.out; have := HJ40.out; omega⟩, ⟨by (with_reducible repeat (first | apply Kd.N_alloc | apply Kd.N_drewN | apply Kd.N_drew)); exact Kd.N_mono HO_829000.out (fun _ hk => ⟨hk.2.1, ⟨hk.2.2.1, ⟨hk.2.2.2.1, hk.2.2.2.2⟩⟩⟩)⟩, ⟨by (with_reducible repeat (first | apply Kd.N_alloc | apply Kd.N_drewN | apply Kd.N_drew)); exact Kd.N_mono HO_829004.out (fun _ hk => ⟨hk.2.1, ⟨hk.2.2.1, ⟨hk.2.2.2.1, hk.2.2.2.2⟩⟩⟩)⟩, ⟨by (with_reducible repeat (first | apply Kd.R_alloc | apply Kd.R_drewN | apply Kd.R_drew)); exact Kd.R_mono HO_830002.out (fun _ hk => trivial)⟩, ⟨by (with_reducible repeat (first | refine blk_drewN ?_ _ | refine blk_drew ?_ | refine blk_alloc ?_ _)); exact BK828.out⟩, ⟨by (with_reducible repeat (first | refine blk_drewN ?_ _ | refine blk_drew ?_ | refine blk_alloc ?_ _)); exact BK829.out⟩, ⟨by repeat (first | (with_reducible first | exact HB.out | apply below_alloc | apply pw_below_drewN | apply below_drew1 | refine below_set ?_ GE828.out | refine below_set ?_ GE829.out) | exact HB.out)⟩⟩
         ·rw [if_neg c47] at H; have c47b0 : (t850 == 0) = false := beq_eq_false_iff_ne.mpr c47; have c47b1 : (t850 != 0) = true := bne_iff_ne.mpr c47; obtain rfl := Option.some.inj H; go_wp2
          go_ret
          exact ⟨by first | rfl | (simp [errW_none, errW_some] <;> rfl) | (simp [*, errW_none, errW_some] <;> rfl), by repeat (first | (with_reducible first | exact HB.out | apply below_alloc | apply pw_below_drewN | apply below_drew1 | refine below_set ?_ GE828.out | refine below_set ?_ GE829.out) | exact HB.out)⟩
        ·replace c46 := Bool.eq_false_iff.mpr c46; subst c46; (have H1 : (if t850 = 9 then (if (t847.length : Int) > 0 then (some false) else (cippuslaw01_SightEnough.l0 kj40 t843 t844 (wrap64 (x9_2 + 1)) t812 t815 t816 x9_2 x829004_4)) else (some false)) = some r := by rw [if_neg (show ¬ (false = true) by decide)] at H; exact H); clear H; have H := H1; clear H1; by_cases c51 : t850 = 9
         ·rw [if_pos c51] at H; have c51b0 : (t850 == 9) = true := beq_iff_eq.mpr c51; have c51b1 : (t850 != 9) = false := bne_eq_false_iff_eq.mpr c51; clear c51; by_cases c52 : (t847.length : Int) > 0
          ·rw [if_pos c52] at H; have c52b0 : decide (0 < (t847.length : Int)) = true := decide_eq_true c52; have c52b1 : decide (0 < t847.length) = true := decide_eq_true (by omega); clear c52; obtain rfl := Option.some.inj H; obtain ⟨Ao53, co53, eo53⟩ := Kd.R_slice HO_10.out; subst eo53; go_wp2
           go_ret
           exact ⟨by first | rfl | (simp [errW_none, errW_some] <;> rfl) | (simp [*, errW_none, errW_some] <;> rfl), by repeat (first | (with_reducible first | exact HB.out | apply below_alloc | apply pw_below_drewN | apply below_drew1 | refine below_set ?_ GE828.out | refine below_set ?_ GE829.out) | exact HB.out)⟩
          ·rw [if_neg c52] at H; have c52b0 : decide (0 < (t847.length : Int)) = false := decide_eq_false c52; have c52b1 : decide (0 < t847.length) = false := decide_eq_false (by omega); clear c52; have H' := Aside0.mk H; clear H; obtain ⟨Ao54, co54, eo54⟩ := Kd.R_slice HO_10.out; subst eo54; go_wp2; go_roundg kj40; (case measure => have := HJ4.out; have := HK2.out; have := HJ40.out; omega); case rel => exact ⟨(wrap64 (x9_2 + 1)), (x9_2), (by first | rfl | (simp; done) | (simp [*]; done)), H', ⟨by have := HJ4.out; have := HK2.out; have := HJ40.out; omega⟩, ⟨by (with_reducible repeat (first | apply Kd.N_alloc | apply Kd.N_drewN | apply Kd.N_drew)); exact Kd.N_mono HO_829000.out (fun _ hk => ⟨hk.2.1, ⟨hk.2.2.1, ⟨hk.2.2.2.1, hk.2.2.2.2⟩⟩⟩)⟩, ⟨by (with_reducible repeat (first | apply Kd.N_alloc | apply Kd.N_drewN | apply Kd.N_drew)); exact Kd.N_mono HO_829004.out (fun _ hk => ⟨hk.2.1, ⟨hk.2.2.1, ⟨hk.2.2.2.1, hk.2.2.2.2⟩⟩⟩)⟩, ⟨by (with_reducible repeat (first | apply Kd.R_alloc | apply Kd.R_drewN | apply Kd.R_drew)); exact Kd.R_mono HO_830002.out (fun _ hk => trivial)⟩, ⟨by (with_reducible repeat (first | refine blk_drewN ?_ _ | refine blk_drew ?_ | refine blk_alloc ?_ _)); exact BK828.out⟩, ⟨by (with_reducible repeat (first | refine blk_drewN ?_ _ | refine blk_drew ?_ | refine blk_alloc ?_ _)); exact BK829.out⟩, ⟨by repeat (first | (with_reducible first | exact HB.out | apply below_alloc | apply pw_below_drewN | apply below_drew1 | refine below_set ?_ GE828.out | refine below_set ?_ GE829.out) | exact HB.out)⟩⟩
         ·rw [if_neg c51] at H; have c51b0 : (t850 == 9) = false := beq_eq_false_iff_ne.mpr c51; have c51b1 : (t850 != 9) = true := bne_iff_ne.mpr c51; obtain rfl := Option.some.inj H; go_wp2
          go_ret
          exact ⟨by first | rfl | (simp [errW_none, errW_some] <;> rfl) | (simp [*, errW_none, errW_some] <;> rfl), by repeat (first | (with_reducible first | exact HB.out | apply below_alloc | apply pw_below_drewN | apply below_drew1 | refine below_set ?_ GE828.out | refine below_set ?_ GE829.out) | exact HB.out)⟩
     ·rw [if_neg c39] at H; have c39b0 : decide (x9_2 ≤ 12) = false := decide_eq_false c39; clear c39; by_cases c55 : t844 = 0
      ·rw [if_pos c55] at H; have c55b0 : (t844 == 0) = true := beq_iff_eq.mpr c55; have c55b1 : (t844 != 0) = false := bne_eq_false_iff_eq.mpr c55; clear c55; replace H := Option.bind_eq_some_iff.mp H; obtain ⟨t845, A560, H⟩ := H; replace H : (some t845) = some r := H; have A56 := Aside0.mk A560; clear A560; obtain rfl := Option.some.inj H; go_wp2_with (first | (go_at_call 14; (with_reducible refine (cippuslaw01_ready.calls k2  t845 _ A56.out).mono ?_); rintro e w57 ⟨rfl, hb⟩; have n0_ := Aside0.mk (Kd.N_below (nU HO_829000.out) hb); have n1_ := Aside0.mk (Kd.N_below (nU HO_829004.out) hb); have n2_ := Aside0.mk (Kd.R_below (rU HO_830002.out) hb); have n3_ := Aside0.mk (blk_below (bU BK828.out) hb); have n4_ := Aside0.mk (blk_below (bU BK829.out) hb); have n5_ := Aside0.mk (below_step (by repeat (first | (with_reducible first | exact HB.out | apply below_alloc | apply pw_below_drewN | apply below_drew1 | refine below_set ?_ GE828.out | refine below_set ?_ GE829.out) | exact HB.out)) hb); clear HO_829000 HO_829004 HO_830002 BK828 BK829 HB; have HO_829000 := n0_; have HO_829004 := n1_; have HO_830002 := n2_; have BK828 := n3_; have BK829 := n4_; have HB := n5_; clear n0_ n1_ n2_ n3_ n4_ n5_; (try clear hb); (try clear hb2); (try clear hk); (try clear hi)))
       go_ret
       exact ⟨by first | rfl | (simp [errW_none, errW_some] <;> rfl) | (simp [*, errW_none, errW_some] <;> rfl), by repeat (first | (with_reducible first | exact HB.out | apply below_alloc | apply pw_below_drewN | apply below_drew1 | refine below_set ?_ GE828.out | refine below_set ?_ GE829.out) | exact HB.out)⟩
      ·rw [if_neg c55] at H; have c55b0 : (t844 == 0) = false := beq_eq_false_iff_ne.mpr c55; have c55b1 : (t844 != 0) = true := bne_iff_ne.mpr c55; by_cases c58 : t844 = 9
       ·rw [if_pos c58] at H; have c58b0 : (t844 == 9) = true := beq_iff_eq.mpr c58; have c58b1 : (t844 != 9) = false := bne_eq_false_iff_eq.mpr c58; clear c58; replace H := Option.bind_eq_some_iff.mp H; obtain ⟨t846, A590, H⟩ := H; replace H : (some t846) = some r := H; have A59 := Aside0.mk A590; clear A590; obtain rfl := Option.some.inj H; go_wp2_with (first | (go_at_call 14; (with_reducible refine (cippuslaw01_ready.calls k2  t846 _ A59.out).mono ?_); rintro e w60 ⟨rfl, hb⟩; have n0_ := Aside0.mk (Kd.N_below (nU HO_829000.out) hb); have n1_ := Aside0.mk (Kd.N_below (nU HO_829004.out) hb); have n2_ := Aside0.mk (Kd.R_below (rU HO_830002.out) hb); have n3_ := Aside0.mk (blk_below (bU BK828.out) hb); have n4_ := Aside0.mk (blk_below (bU BK829.out) hb); have n5_ := Aside0.mk (below_step (by repeat (first | (with_reducible first | exact HB.out | apply below_alloc | apply pw_below_drewN | apply below_drew1 | refine below_set ?_ GE828.out | refine below_set ?_ GE829.out) | exact HB.out)) hb); clear HO_829000 HO_829004 HO_830002 BK828 BK829 HB; have HO_829000 := n0_; have HO_829004 := n1_; have HO_830002 := n2_; have BK828 := n3_; have BK829 := n4_; have HB := n5_; clear n0_ n1_ n2_ n3_ n4_ n5_; (try clear hb); (try clear hb2); (try clear hk); (try clear hi)))
        go_ret
        exact ⟨by first | rfl | (simp [errW_none, errW_some] <;> rfl) | (simp [*, errW_none, errW_some] <;> rfl), by repeat (first | (with_reducible first | exact HB.out | apply below_alloc | apply pw_below_drewN | apply below_drew1 | refine below_set ?_ GE828.out | refine below_set ?_ GE829.out) | exact HB.out)⟩
       ·rw [if_neg c58] at H; have c58b0 : (t844 == 9) = false := beq_eq_false_iff_ne.mpr c58; have c58b1 : (t844 != 9) = true := bne_iff_ne.mpr c58; obtain rfl := Option.some.inj H; go_wp2
        go_ret
        exact ⟨by first | rfl | (simp [errW_none, errW_some] <;> rfl) | (simp [*, errW_none, errW_some] <;> rfl), by repeat (first | (with_reducible first | exact HB.out | apply below_alloc | apply pw_below_drewN | apply below_drew1 | refine below_set ?_ GE828.out | refine below_set ?_ GE829.out) | exact HB.out)⟩
def cippuslaw01_SightEnough.Pure : Prop := ∀ (l0 : List Int), l0.length ≤ maxLen → l0.length * 8 ≤ 140737488351232 → (∀ x ∈ l0, (Lit.int .i64 x).wf = true) → ∃ k, cippuslaw01_SightEnough.f k l0 = some true
theorem cippuslaw01_SightEnough.walk (P : cippuslaw01_SightEnough.Pure) (a0 : Option Addr) (len0 cap0 : Nat) (z0 : List Int) (w : World) (w0 : (a0 = none ∧ len0 = 0 ∧ cap0 = 0 ∧ z0 = []) ∨ ∃ x, a0 = some x ∧ len0 ≤ cap0 ∧ cap0 ≤ maxLen ∧ z0.length = cap0 ∧ (∀ i, i < z0.length → w.cell? (x.add i) = some (.int .i64 (z0.getD i 0))) ∧ ∀ n ∈ z0, (Lit.int .i64 n).wf = true) (y0 : len0 * 8 ≤ 140737488351232) :
 Calls Try.prog 7 #[.slice a0 len0 cap0] w fun e w' => e = .returned (.bool true) ∧ Below w.heap.size w w' := by
 obtain ⟨l0, rfl, hr0, hm0, hw0, hc0⟩ := ReadsInt.ofRowC w0; obtain ⟨k, h⟩ := P l0 hm0 y0 hw0; refine (cippuslaw01_SightEnough.calls k _ _ l0 true w (Kd.C_of_reads (d := (0 : Int)) (h1 := fun _ => rfl) hr0) hc0 h).mono ?_; rintro e w' ⟨rfl, hd⟩; exact ⟨rfl, hd⟩
end Go.Proofs.Ytihedeofkhapiaa.Pr
end
section
namespace Go.Proofs.Ytihedeofkhapiaa.Pr
open Go.RowKit Go.Proofs.YtihedeofkhapiaaW.PrintWords Go.Proofs.YtihedeofkhapiaaW.PrintLast Go.Proofs.YtihedeofkhapiaaW.PrintMore
set_option linter.unusedVariables false
set_option linter.unusedSimpArgs false
set_option maxRecDepth 100000
theorem full_light (v : Int) (h0 : 0 ≤ v) (h1 : v ≤ 31) : LightOk ⟨31, v⟩ := by
 obtain ⟨n, rfl⟩ := Int.eq_ofNat_of_zero_le h0; (have h : ∀ i : Fin 32, LightOk ⟨31, ((i.1 : Nat) : Int)⟩ := by unfold LightOk; decide +kernel); exact h ⟨n, by omega⟩
theorem foldl_mn_le {α : Type} (t : α → Int) (T : Int) : ∀ (l : List α) (b : Int), l.foldl (fun b x => mn b (t x)) b ≤ T ↔ b ≤ T ∨ ∃ x ∈ l, t x ≤ T
 | [], b => by simp
 | x :: r, b => by
  rw [List.foldl_cons, foldl_mn_le t T r]; (have hm : mn b (t x) ≤ T ↔ b ≤ T ∨ t x ≤ T := by unfold mn; split <;> omega); rw [hm]; simp only [List.mem_cons, exists_eq_or_imp, or_assoc]
theorem best_le (l0 : List S66) (a1 a2 : Int) (l4 : List (List S27)) (T : Int) (hT : T < 1048576) : bestUp l0 a1 a2 l4 (List.finRange l0.length) ≤ T ↔ fitUp l0 a1 a2 T l4 (List.finRange l0.length) ≠ [] := by
 rw [bestUp, foldl_mn_le, fitUp, Ne, List.map_eq_nil_iff, List.filter_eq_nil_iff]; simp only [neverP, decide_eq_true_eq]; constructor
 ·rintro (h | ⟨x, hx, h⟩)
  ·omega
  ·exact fun hn => hn x hx h
 ·intro h; by_cases hc : ∃ x ∈ List.finRange l0.length, totalP l0 a1 a2 l4 x.1 ≤ T
  ·exact .inr hc
  ·exact absurd (fun x hx ht => hc ⟨x, hx, ht⟩) h
theorem ready_ev : Ev (fun k => cippuslaw01_ready.f k) true := Ev.of cippuslaw01_ready.mono (k := 60) (by decide +kernel)
theorem enough_l0 (hs : List S66) (w c : Int) (sq : List (List S27)) (t : Int) (n e : Int) (hm : (n, e) = marksP hs w c t sq)
 (hc : ∀ T, 0 ≤ T → T ≤ 40 → checkP hs w c T sq = 0) (ht : 0 ≤ t ∧ t ≤ 40) :
 ∀ (d : Nat) (T u : Int), 0 ≤ T → T + d = 13 → Ev (fun k => cippuslaw01_SightEnough.l0 k n e T hs w c u sq) true := by
 rw [marksP, if_pos (hc t ht.1 ht.2)] at hm
 have he : (e = 0 ∧ n = bestUp hs w c sq (List.finRange hs.length)) ∨ (e = 9 ∧ 1048576 ≤ bestUp hs w c sq (List.finRange hs.length)) := by
  by_cases hb : bestUp hs w c sq (List.finRange hs.length) ≥ 1048576
  ·rw [if_pos hb] at hm; cases hm; exact .inr ⟨rfl, hb⟩
  ·rw [if_neg hb] at hm; cases hm; exact .inl ⟨rfl, rfl⟩
 intro d
 induction d with
 | zero =>
  intro T u h0 h1; refine Ev.step (f := fun k => cippuslaw01_ready.f k) (fun k => ?_) ready_ev; rw [cippuslaw01_SightEnough.l0, if_neg (by omega)]; (have e2 : ∀ o : Option Bool, (o.bind fun t => some t) = o := fun o => by cases o <;> rfl); rcases he with ⟨rfl, _⟩ | ⟨rfl, _⟩
  ·rw [if_pos rfl, e2]
  ·rw [if_neg (by omega), if_pos rfl, e2]
 | succ d ih =>
  intro T u h0 h1; have hw : wrap64 (T + 1) = T + 1 := w64_of (by omega) (by omega); have next := ih (T + 1) T (by omega) (by omega); have hb := best_le hs w c sq T (by omega); by_cases hf : fitUp hs w c T sq (List.finRange hs.length) = []
  ·have hh : sight_Hands.f hs w c T sq = some ([], 9) := by
    simp only [sight_Hands.f, sight_fitting.f, fittingP, if_pos (hc T h0 (by omega)), if_pos hf, Option.bind_some]
   (have hno : ¬ bestUp hs w c sq (List.finRange hs.length) ≤ T := fun hh => (hb.1 hh) hf); refine Ev.step (f := fun k => cippuslaw01_SightEnough.j2 k n e T [] 9 false hs w c T sq) (fun k => ?_) (Ev.step (fun k => ?_) next)
   ·rw [cippuslaw01_SightEnough.l0, if_pos (by omega), hh, Option.bind_some]; rcases he with ⟨rfl, rfl⟩ | ⟨rfl, _⟩
    ·rw [if_pos rfl, decide_eq_false hno]
    ·rw [if_neg (by omega)]
   ·rw [cippuslaw01_SightEnough.j2, if_neg (by simp), if_pos rfl, if_neg (by simp), hw]
  ·have hh : sight_Hands.f hs w c T sq = some (fitUp hs w c T sq (List.finRange hs.length), 0) := by
    simp only [sight_Hands.f, sight_fitting.f, fittingP, if_pos (hc T h0 (by omega)), if_neg hf, Option.bind_some]
   have hyes := hb.2 hf; have hl : 0 < (fitUp hs w c T sq (List.finRange hs.length)).length := List.length_pos_iff.2 hf; rcases he with ⟨rfl, rfl⟩ | ⟨rfl, hge⟩
   ·refine Ev.step (f := fun k => cippuslaw01_SightEnough.j2 k (bestUp hs w c sq (List.finRange hs.length)) 0 T (fitUp hs w c T sq (List.finRange hs.length)) 0 true hs w c T sq) (fun k => ?_) (Ev.step (fun k => ?_) next)
    ·rw [cippuslaw01_SightEnough.l0, if_pos (by omega), hh, Option.bind_some, if_pos rfl, decide_eq_true hyes]
    ·rw [cippuslaw01_SightEnough.j2, if_pos rfl, if_pos rfl, if_neg (by omega), hw]
   ·omega
theorem enough_j0 (hs : List S66) (w c : Int) (sq : List (List S27)) (t : Int) (hc : ∀ T, 0 ≤ T → T ≤ 40 → checkP hs w c T sq = 0) (ht : 0 ≤ t ∧ t ≤ 40) :
 Ev (fun k => cippuslaw01_SightEnough.j0 k hs w c t sq) true := by
 refine Ev.step (f := fun k => cippuslaw01_SightEnough.l0 k (marksP hs w c t sq).1 (marksP hs w c t sq).2 0 hs w c t sq) (fun k => ?_) (enough_l0 hs w c sq t _ _ rfl hc ht 13 0 t (by omega) (by omega)); rw [cippuslaw01_SightEnough.j0, sight_Marks.f, Option.bind_some]
theorem enough_pure : cippuslaw01_SightEnough.Pure := by
 intro l0 hl1 hl2 hwf; refine Ev.rounds ?_; obtain ⟨r, hr, hg⟩ := line_ev (urnOf l0).1 (urnOf l0).2 3 4 5 (by omega) (by omega) (by omega) (by omega) (by omega) (by omega); obtain ⟨hs, w, c, t, sq, cut, txt, vis, a, b⟩ := r; have g0 := hg; obtain ⟨⟨g1, g2, g3⟩, g4, g5, g6, g7, g8, g9⟩ := g0; simp only [] at g1 g2 g3 g4 g5 g6 g7 g8 g9
 refine Ev.congr (f := fun k => (cippuskit_LineOf.f k (urnOf l0).1 (urnOf l0).2 3 4 5).bind fun bt812 => ((cippuskit_Urn_Odds.f bt812.2.2.2.2.2.2.2.2.1 bt812.2.2.2.2.2.2.2.2.2 1 3).bind fun bt830 => (if bt830.1 = true then ((cippuskit_Urn_Up.f bt830.2.1 bt830.2.2 (bt812.2.2.2.2.1.length : Int)).bind fun bt833 => ((cippuskit_Urn_Up.f bt833.2.1 bt833.2.2 32).bind fun bt836 => (if 0 ≤ bt833.1 then (if bt833.1 < (bt812.2.2.2.2.1.length : Int) then (cippuslaw01_SightEnough.j0 k bt812.1 bt812.2.1 bt812.2.2.1 bt812.2.2.2.1 (bt812.2.2.2.2.1.set (bt833.1 : Int).toNat (([(⟨31, bt836.1⟩ : S27)] : List (S27))))) else (none)) else (none)))) else (cippuslaw01_SightEnough.j0 k bt812.1 bt812.2.1 bt812.2.2.1 bt812.2.2.2.1 bt812.2.2.2.2.1))))
  (fun k => by rw [cippuslaw01_SightEnough.f, cippuskit_NewUrn.f, Option.bind_some]) ?_
 refine Ev.bind hr ?_; obtain ⟨o, a1, b1, ho⟩ := odds_f a b 1 3 (by omega) (by omega)
 cases o with
 | false =>
  refine Ev.congr (f := fun k => cippuslaw01_SightEnough.j0 k hs w c t sq) (fun k => ?_) (enough_j0 hs w c sq t (fun T h0 h1 => hg.check (by omega) (by omega) (by omega) h0 h1 rfl g9) g6); simp only []; rw [ho, Option.bind_some, if_neg (by simp)]
 | true =>
  obtain ⟨i, a2, b2, hi, hi0, hi1⟩ := up_f a1 b1 (sq.length : Int) (by omega) (by omega); obtain ⟨v, a3, b3, hv, hv0, hv1⟩ := up_f a2 b2 32 (by omega) (by omega); refine Ev.congr (f := fun k => cippuslaw01_SightEnough.j0 k hs w c t (sq.set i.toNat [⟨31, v⟩])) (fun k => ?_) (enough_j0 hs w c _ t (fun T h0 h1 => hg.check (by omega) (by omega) (by omega) h0 h1 (by simp) (fun q hq => ?_)) g6)
  ·simp only []; rw [ho, Option.bind_some, if_pos rfl]; simp only []; rw [hi, Option.bind_some]; simp only []; rw [hv, Option.bind_some]; simp only []; rw [if_pos hi0, if_pos hi1]
  ·rcases List.mem_or_eq_of_mem_set hq with hq | rfl
   ·exact g9 q hq
   ·refine ⟨by simp, fun x hx => ?_⟩; rw [List.mem_singleton] at hx; subst hx; exact full_light v hv0 (by omega)
end Go.Proofs.Ytihedeofkhapiaa.Pr
namespace Go.Proofs.Ytihedeofkhapiaa.Pure
theorem SightEnough : Pr.cippuslaw01_SightEnough.Pure := Pr.enough_pure
end Go.Proofs.Ytihedeofkhapiaa.Pure
end
