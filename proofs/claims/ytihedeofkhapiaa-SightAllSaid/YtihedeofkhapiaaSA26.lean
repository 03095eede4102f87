/- Part 26 of 34 of the proof of: SightAll: for every slice of numbers, the law returns true: of a slim line made of them, the letters and hands that the program tells are just those of the truths found by going through all choices, and its marks are the fewest of any truth; no condition beyond the statement's own. -/
import Derived.RegionTactic
import Derived.Deep.LoopGhost
import Derived.Deep.Cut
import Derived.Test.YtihedeofkhapiaaSA21
import Derived.Test.YtihedeofkhapiaaSA22
set_option linter.unusedVariables false
set_option linter.unusedSimpArgs false
section
namespace Go.Proofs.Ytihedeofkhapiaa.Pr
open Go.RowKit Go.Proofs.YtihedeofkhapiaaW.PrintWords Go.Proofs.YtihedeofkhapiaaW.PrintLast Go.Proofs.YtihedeofkhapiaaW.PrintMore
def fV : Int := 1048576
def cellP (W S : Int) (q : Int × Int × Bool) (s : S86) : Int :=
 if q.2.2 = true ∧ jD (dM (Go.bits .and .i64 s.f1 q.1) q.2.1) ≤ W ∧ jD (dM q.2.1 s.f1) ≤ S
 then wrap64 (jD (dM (Go.bits .and .i64 s.f1 q.1) q.2.1) + jD (dM q.2.1 s.f1)) else fV
def oV (W S : Int) (q : Int × Int × Bool) (sh : List S86) (i : Nat) (m : List Int) : Nat → List Int
 | 0 => m
 | k + 1 => (oV W S q sh i m k).set (i * 8 + k) (cellP W S q (bn sh (k : Int)))
def dY (W S : Int) (l4 : List (List S27)) (sh : List S86) : Nat → List Int
 | 0 => List.replicate 64 0
 | i + 1 => oV W S (eX (dz l4 (i : Int))) sh i (dY W S l4 sh i) sh.length
theorem oJ (W S : Int) (q : Int × Int × Bool) (sh : List S86) (i : Nat) (m : List Int) : ∀ k, (oV W S q sh i m k).length = m.length
 | 0 => rfl
 | k + 1 => by rw [oV, List.length_set, oJ W S q sh i m k]
theorem fD (W S : Int) (l4 : List (List S27)) (sh : List S86) : ∀ i, (dY W S l4 sh i).length = 64
 | 0 => by simp [dY]
 | i + 1 => by rw [dY, oJ, fD W S l4 sh i]
def kC (w : World) (g : Nat) (m : List Int) : Prop := m.length = 64 ∧ w.heap[g]? = some (.cells (nums .i64 m).toArray 97 (0, 0))
theorem kC.below {w w1 : World} {g : Nat} {m : List Int} (h : kC w g m) (hb : Below w.heap.size w w1) : kC w1 g m := ⟨h.1, (hb.block g (bf h.2)).trans h.2⟩
theorem kC.set {w : World} {g : Nat} {m : List Int} (h : kC w g m) (j : Nat) (v : Int) : kC (w.setCell ⟨g, j, none⟩ (.int .i64 v)) g (m.set j v) := by
 refine ⟨by rw [List.length_set]; exact h.1, ?_⟩; rw [heap_setCell_same w g j _ _ _ h.2]; simp [nums, List.map_set]
theorem kC.far {w : World} {g : Nat} {m : List Int} (h : kC w g m) {p : Addr} (hne : g ≠ p.block) (v : Value) : kC (w.setCell p v) g m := ⟨h.1, aM h.2 hne v⟩
theorem kC.cell {w : World} {g : Nat} {m : List Int} (h : kC w g m) (j : Nat) (hj : j < 64) : w.cell? ⟨g, j, none⟩ = some (.int .i64 (m.getD j 0)) := by
 rw [av h.2 j]; (have : j < m.length := by have := h.1; omega); simp [nums, List.getD_eq_getElem?_getD, List.getElem?_eq_getElem this]
theorem kC.frozen {w : World} {g : Nat} {m : List Int} (h : kC w g m) (j : Nat) : w.frozen? ⟨g, j, none⟩ = false := aK h.2 j
structure kJ (w : World) (A0 : Option Addr) (n0 c0 : Nat) (a1 a2 a3 : Int) (A4 : Option Addr) (n4 c4 : Nat) (y1 y2 : Int) (B : Option Addr) (nB cB : Nat) (m : List Int) (wr : World) : Prop where
 line : wr.heap[w.heap.size]? = some (.cells #[.slice A0 n0 c0, .int .i64 a1, .int .i64 a2, .int .i64 a3, .slice A4 n4 c4] 25 (0, 0))
 hand : wr.heap[w.heap.size + 1]? = some (.cells #[.int .i64 y1, .int .i64 y2, .slice B nB cB] 66 (0, 0))
 res : kC wr (w.heap.size + 1 + 1) (List.replicate 64 0)
 arr : kC wr (w.heap.size + 1 + 1 + 1) m
 below : Below w.heap.size w wr
theorem kJ.step {w : World} {A0 : Option Addr} {n0 c0 : Nat} {a1 a2 a3 : Int} {A4 : Option Addr} {n4 c4 : Nat} {y1 y2 : Int} {B : Option Addr} {nB cB : Nat} {m : List Int} {wr w1 : World}
 (h : kJ w A0 n0 c0 a1 a2 a3 A4 n4 c4 y1 y2 B nB cB m wr) (hb : Below wr.heap.size wr w1) : kJ w A0 n0 c0 a1 a2 a3 A4 n4 c4 y1 y2 B nB cB m w1 :=
 ⟨(hb.block _ (bf h.line)).trans h.line, (hb.block _ (bf h.hand)).trans h.hand, h.res.below hb, h.arr.below hb, eY h.below h.below.size hb⟩
theorem kJ.put {w : World} {A0 : Option Addr} {n0 c0 : Nat} {a1 a2 a3 : Int} {A4 : Option Addr} {n4 c4 : Nat} {y1 y2 : Int} {B : Option Addr} {nB cB : Nat} {m : List Int} {wr : World}
 (h : kJ w A0 n0 c0 a1 a2 a3 A4 n4 c4 y1 y2 B nB cB m wr) (j : Nat) (v : Int) : kJ w A0 n0 c0 a1 a2 a3 A4 n4 c4 y1 y2 B nB cB (m.set j v) (wr.setCell ⟨w.heap.size + 1 + 1 + 1, j, none⟩ (.int .i64 v)) :=
 ⟨aM h.line (by simp; omega) _, aM h.hand (by simp) _, h.res.far (by simp) _, h.arr.set j v, bK h.below (by omega)⟩
theorem xW {P : Program} {c : Code} {Q : Exit → Act → World → Prop} {a : Act} {W : World} (R : World → Prop) (h : R W) (k : ∀ W', R W' → Code.wp P c Q a W') : Code.wp P c Q a W := k W h
set_option maxHeartbeats 1000000 in
set_option maxRecDepth 100000 in
theorem nu.calls (A0 : Option Addr) (c0 n0 : Nat) (a1 a2 a3 : Int) (A4 : Option Addr) (c4 : Nat) (l4 : List (List S27)) (y1 y2 : Int) (B : Option Addr) (cB : Nat) (sh : List S86) (w : World)
 (hr4 : Kd.C (Kd.slice 27 k27) w A4 l4.length l4) (hrB : Kd.C k86 w B sh.length sh) (h4 : l4.length ≤ 8) (hs : sh.length ≤ 8) :
 Calls Try.prog 74 #[.agg #[.slice A0 n0 c0, .int .i64 a1, .int .i64 a2, .int .i64 a3, .slice A4 l4.length c4], .agg #[.int .i64 y1, .int .i64 y2, .slice B sh.length cB]] w fun e w' => e = .returned (.agg (nums .i64 (dY a1 a2 l4 sh l4.length)).toArray) ∧ Below w.heap.size w w' := by
 have HR4 := aa.mk hr4; have HRB := aa.mk hrB; clear hr4 hrB; go_enter Try.func74, Try.ntmps74; go_wp2; go_loopg [20] l4.length (fun g v20 wr => ∃ i : Nat, i + g = l4.length ∧ v20 = .int .i64 i ∧ aa (kJ w A0 n0 c0 a1 a2 a3 A4 l4.length c4 y1 y2 B sh.length cB (dY a1 a2 l4 sh i) wr))
 case atStart =>
  refine ⟨0, by omega, rfl, ⟨⟨?_, ?_, ⟨by simp, ?_⟩, ⟨by simp [dY], ?_⟩, ah (ah (ah (ah (Below.refl _ _) _) _) _) _⟩⟩⟩
  ·exact bu (bu (bu (heap_alloc_new w _) _) _) _
  ·refine bu (bu ?_ _) _; have := heap_alloc_new (w.alloc (.cells #[.slice A0 n0 c0, .int .i64 a1, .int .i64 a2, .int .i64 a3, .slice A4 l4.length c4] 25)) (.cells #[.int .i64 y1, .int .i64 y2, .slice B sh.length cB] 66)
   simpa using this
  ·refine bu ?_ _; have := heap_alloc_new ((w.alloc (.cells #[.slice A0 n0 c0, .int .i64 a1, .int .i64 a2, .int .i64 a3, .slice A4 l4.length c4] 25)).alloc (.cells #[.int .i64 y1, .int .i64 y2, .slice B sh.length cB] 66)) (.cells (nums .i64 (List.replicate 64 0)).toArray 97 (0, 0)); rw [World.size_alloc, World.size_alloc] at this; exact this
  ·have := heap_alloc_new (((w.alloc (.cells #[.slice A0 n0 c0, .int .i64 a1, .int .i64 a2, .int .i64 a3, .slice A4 l4.length c4] 25)).alloc (.cells #[.int .i64 y1, .int .i64 y2, .slice B sh.length cB] 66)).alloc (.cells (nums .i64 (List.replicate 64 0)).toArray 97 (0, 0))) (.cells (nums .i64 (List.replicate 64 0)).toArray 97 (0, 0)); rw [World.size_alloc, World.size_alloc, World.size_alloc] at this; exact this
 case round =>
  obtain ⟨i, hig, rfl, HM⟩ := hrel
  cases gk with
  | zero =>
   (obtain rfl : i = l4.length := by omega); (have c1 : decide ((l4.length : Int) < (l4.length : Int)) = false := by simp); (have hin : (Try.prog.info? 97).map (·.size) = some 64 := by kernel_rfl); have hs64 : (nums .i64 (dY a1 a2 l4 sh l4.length)).toArray.size = 64 := by simp [nums, fD]
   have hall : ((nums .i64 (dY a1 a2 l4 sh l4.length)).toArray.all (·.oneCell')) = true := by
    rw [Array.all_eq_true_iff_forall_mem]; intro v hv; simp only [nums, List.mem_toArray, List.mem_map] at hv; obtain ⟨x, _, rfl⟩ := hv; rfl
   have HIN := aa.mk hin; have HS := aa.mk hs64; have HA := aa.mk hall; clear hin hs64 hall
   go_wp2_with (first
    | (refine wpList_load_row rfl 97 (.tmp 5) rfl (w.heap.size + 1 + 1 + 1) rfl 97 _ (0, 0) _ HM.out.arr.2 Try.underlying97 rfl (by rw [HS.out]; exact HIN.out) ?_)
    | (refine wpList_store_row rfl 97 (.tmp 4) (.tmp 78) rfl (w.heap.size + 1 + 1) _ rfl rfl 97 _ HM.out.res.2 (by rw [HS.out]; exact HIN.out) (by rw [HS.out]; simp [nums]) HA.out ?_))
   refine bodyPost_ret (results_cell_row (fn := Try.f74) rfl _ _ (w.heap.size + 1 + 1) 97 (nums .i64 (dY a1 a2 l4 sh l4.length)).toArray (0, 0) _ rfl (setRow_heap _ _ _ _ _ _ HM.out.res.2) Try.underlying97 rfl (by rw [HS.out]; exact HIN.out)) rfl ?_; exact ⟨rfl, HM.out.below.os, HM.out.below.tape, HM.out.below.output, by rw [size_setRow]; exact HM.out.below.size, fun j hj => by rw [setRow_other _ _ _ _ (by omega)]; exact HM.out.below.block j hj⟩
  | succ g =>
   (have c1 : decide ((i : Int) < (l4.length : Int)) = true := by simp; omega); obtain ⟨ad, As, cs, e, hx, hl, hi⟩ := qp HR4.out i (by omega) (by omega); cases e; rw [Int.toNat_natCast] at hx; replace hx := (HM.out.below.cell (World.block_lt_of_cell? w _ hx)).trans hx; have hsq : (dz l4 (i : Int)).length ≤ 9223372036854775807 := hi.2.1; have HI := aa.mk (Kd.cu hi HM.out.below); have HL := aa.mk hl; clear hi hl; go_wp2_with fail
   go_step3
   (go_wp2_with fail); refine (Dw _ _ _ _ HI.out HL.out hsq).mono ?_; rintro e w1 ⟨rfl, hb⟩; obtain ⟨q, hq⟩ : ∃ q, q = eX (dz l4 (i : Int)) := ⟨_, rfl⟩; rw [← hq]; have HQ := aa.mk hq; have HM1 := aa.mk (HM.out.step hb); clear hb hq HI HL HM hx hsq; obtain ⟨q1, q2, q3⟩ := q; have hk0 : w1.cell? ⟨w.heap.size + 1, 2, none⟩ = some (.slice B sh.length cB) := (av HM1.out.hand 2).trans rfl; have hk1 := aK HM1.out.hand 2; go_wp2_with fail
   go_step3
   (go_wp2_with fail); (go_loopg [36] sh.length (fun g2 v36 wr => ∃ k : Nat, k + g2 = sh.length ∧ v36 = .int .i64 k ∧ aa (kJ w A0 n0 c0 a1 a2 a3 (some ad) l4.length c4 y1 y2 B sh.length cB (oV a1 a2 (q1, q2, q3) sh i (dY a1 a2 l4 sh i) k) wr))); case atStart => exact ⟨0, by omega, rfl, HM1⟩
   case round =>
    clear hk0 hk1 HM1; obtain ⟨k, hkg, rfl, HM⟩ := hrel
    cases gk with
    | zero =>
     (have c2 : decide ((k : Int) < (sh.length : Int)) = false := by simp; omega); (obtain rfl : k = sh.length := by omega); (go_wp2_with fail); rw [Exit.noGoto_normal]; (go_wp2_with fail); go_roundg g; (case measure => omega); case rel => exact ⟨i + 1, by omega, by go_num, ⟨by rw [dY, ← HQ.out]; exact HM.out⟩⟩
    | succ g2 =>
     (have c2 : decide ((k : Int) < (sh.length : Int)) = true := by simp; omega); obtain ⟨bd, e, hx0, hx1⟩ := lS HRB.out k (by omega) (by omega); cases e; rw [Int.toNat_natCast] at hx0 hx1; replace hx0 := (HM.out.below.cell (World.block_lt_of_cell? w _ hx0)).trans hx0; replace hx1 := (HM.out.below.cell (World.block_lt_of_cell? w _ hx1)).trans hx1; (have b1 : (i : Int) < 8 := by omega); (have b2 : (k : Int) < 8 := by omega); (have b3 : i < 8 := by omega); (have b4 : k < 8 := by omega); have hlt : w.heap.size + 1 + 1 + 1 < wr.heap.size := bf HM.out.arr.2; (have hlt0 : w.heap.size < wr.heap.size := by omega); (have hne : ¬ (w.heap.size + 1 + 1 + 1 = wr.heap.size) := by omega); (have hne2 : ¬ (wr.heap.size = w.heap.size + 1 + 1 + 1) := by omega); have hc := HM.out.arr.cell (i * 8 + k) (by omega); have hf := HM.out.arr.frozen (i * 8 + k); (go_upto_region 11 with (fail)); obtain ⟨gs, hgs⟩ : ∃ gs, gs = wr.heap.size := ⟨_, rfl⟩; rw [← hgs]; refine xW (fun W => kJ w A0 n0 c0 a1 a2 a3 (some ad) l4.length c4 y1 y2 (some bd) sh.length cB ((oV a1 a2 (q1, q2, q3) sh i (dY a1 a2 l4 sh i) k).set (i * 8 + k) fV) W ∧ W.cell? ⟨gs, 1, none⟩ = some (.int .i64 (bn sh ↑k).f1)) ?_ ?_
     ·refine ⟨(HM.out.put (i * 8 + k) fV).step (ah (Below.refl _ _) _), ?_⟩; rw [World.cell?_alloc_at _ _ _ _ (by rw [hgs]; simp)]; rfl
     intro W ⟨hM, hgc⟩; have HM2 := aa.mk hM; clear hM HM hx0 hx1 hlt hlt0 hne hne2 hc hf hgs; have HX := aa.mk (show oV a1 a2 (q1, q2, q3) sh i (dY a1 a2 l4 sh i) (k + 1) = (oV a1 a2 (q1, q2, q3) sh i (dY a1 a2 l4 sh i) k).set (i * 8 + k) (cellP a1 a2 (q1, q2, q3) (bn sh (k : Int))) from rfl); have hz1 : W.cell? ⟨w.heap.size, 1, none⟩ = some (.int .i64 a1) := (av HM2.out.line 1).trans rfl; have hz2 : W.cell? ⟨w.heap.size, 2, none⟩ = some (.int .i64 a2) := (av HM2.out.line 2).trans rfl; have hc := HM2.out.arr.cell (i * 8 + k) (by omega); have hf := HM2.out.arr.frozen (i * 8 + k)
     cases q3 with
     | false =>
      have HC : aa (cellP a1 a2 (q1, q2, false) (bn sh (k : Int)) = fV) := ⟨by simp [cellP]⟩; (go_wp2_with (fail)); go_roundg g2; (case measure => omega); case rel => exact ⟨k + 1, by omega, by go_num, ⟨by rw [HX.out, HC.out]; exact HM2.out⟩⟩
     | true =>
      obtain ⟨t, ht⟩ : ∃ t, t = (bn sh ↑k).f1 := ⟨_, rfl⟩; rw [← ht] at hgc; have HT := aa.mk ht; clear ht; (go_upto_region 14 with (first | (go_at_call 65; refine (yw _ _ _).mono ?_; rintro e w' ⟨rfl, ⟨n, rfl⟩⟩) | (go_at_call 83; refine (Dv _ _).mono ?_; rintro e w' ⟨rfl, ⟨n, rfl⟩⟩))); obtain ⟨u, hu⟩ : ∃ u, u = jD (dM (Go.bits .and .i64 t q1) q2) := ⟨_, rfl⟩; obtain ⟨v, hv⟩ : ∃ v, v = jD (dM q2 t) := ⟨_, rfl⟩; rw [← hu, ← hv]; have HU := aa.mk hu; have HV := aa.mk hv; clear hu hv; by_cases c5 : u ≤ a1
      ·by_cases c6 : v ≤ a2
       ·have HC : aa (cellP a1 a2 (q1, q2, true) (bn sh (k : Int)) = wrap64 (u + v)) := ⟨by
         have hq : cellP a1 a2 (q1, q2, true) (bn sh (k : Int)) = if u ≤ a1 ∧ v ≤ a2 then wrap64 (u + v) else fV := by
          simp only [cellP, ← HT.out, HU.out, HV.out, true_and]
         rw [hq]
         simp [c5, c6]⟩
        have d5 : decide (u ≤ a1) = true := decide_eq_true c5; have d6 : decide (v ≤ a2) = true := decide_eq_true c6; clear c5 c6; (go_wp2_with (fail)); go_roundg g2; case measure => omega
        case rel =>
         refine ⟨k + 1, by omega, by go_num, ⟨?_⟩⟩; rw [HX.out, HC.out]; (have h := fun q => (HM2.out.step (bB.below ⟨⟨q, rfl⟩⟩ : Below W.heap.size W (W.drewN q))).put (i * 8 + k) (wrap64 (u + v))); simp only [List.set_set] at h; exact h _
       ·have HC : aa (cellP a1 a2 (q1, q2, true) (bn sh (k : Int)) = fV) := ⟨by
         have hq : cellP a1 a2 (q1, q2, true) (bn sh (k : Int)) = if u ≤ a1 ∧ v ≤ a2 then wrap64 (u + v) else fV := by
          simp only [cellP, ← HT.out, HU.out, HV.out, true_and]
         rw [hq]
         simp [c5, c6]⟩
        have d5 : decide (u ≤ a1) = true := decide_eq_true c5; have d6 : decide (v ≤ a2) = false := decide_eq_false c6; clear c5 c6; (go_wp2_with (fail)); go_roundg g2; case measure => omega
        case rel => exact ⟨k + 1, by omega, by go_num, ⟨by
         rw [HX.out, HC.out]
         exact HM2.out.step (bB.below ⟨⟨_, rfl⟩⟩)⟩⟩
      ·have HC : aa (cellP a1 a2 (q1, q2, true) (bn sh (k : Int)) = fV) := ⟨by
        have hq : cellP a1 a2 (q1, q2, true) (bn sh (k : Int)) = if u ≤ a1 ∧ v ≤ a2 then wrap64 (u + v) else fV := by
         simp only [cellP, ← HT.out, HU.out, HV.out, true_and]
        rw [hq]
        simp [c5]⟩
       have d5 : decide (u ≤ a1) = false := decide_eq_false c5; clear c5; (go_wp2_with (fail)); go_roundg g2; case measure => omega
       case rel => exact ⟨k + 1, by omega, by go_num, ⟨by
        rw [HX.out, HC.out]
        exact HM2.out.step (bB.below ⟨⟨_, rfl⟩⟩)⟩⟩
end Go.Proofs.Ytihedeofkhapiaa.Pr
end
