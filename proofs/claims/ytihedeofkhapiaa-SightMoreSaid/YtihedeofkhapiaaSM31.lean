/- Part 31 of 35 of the proof of: SightMore: for every slice of numbers, the law returns true: of a line made of them, with one more light, with fewer marks, or with fewer hands, no more letters fit, and Years does not get wider, as long as the line may be; no condition beyond the statement's own. -/
import Derived.RangeFuncBox
import Derived.Maps.AppendAt
import Derived.Test.YtihedeofkhapiaaSM5
import Derived.Test.YtihedeofkhapiaaSM21
import Derived.Test.YtihedeofkhapiaaSM30
set_option linter.unusedVariables false
set_option linter.unusedSimpArgs false
section
namespace Go.Proofs.Ytihedeofkhapiaa.Pr
open Go.RowKit Go.Shelf Go.Proofs.YtihedeofkhapiaaW.PrintWords Go.Proofs.YtihedeofkhapiaaW.PrintLast Go.Proofs.YtihedeofkhapiaaW.PrintMore
attribute [local go_sem] Oper.semAt_some
def ou (l0 : List S66) (a1 a2 : Int) (l4 : List (List S27)) (x : Nat) : Int := (gp (-1) 0 (dL a1 a2 l0 l4 x) (ah l0 (x : Int)).f1 l4.length).2
def kF (l0 : List S66) (a1 a2 a3 : Int) (l4 : List (List S27)) (pre : List (Fin l0.length)) : List Int := (pre.filter fun x => decide (ou l0 a1 a2 l4 x.1 ≤ a3)).map fun x => (x.1 : Int)
theorem KV {l0 : List S66} {a1 a2 a3 : Int} {l4 : List (List S27)} (pre : List (Fin l0.length)) {x : Fin l0.length} (h : ou l0 a1 a2 l4 x.1 ≤ a3) : kF l0 a1 a2 a3 l4 (pre ++ [x]) = kF l0 a1 a2 a3 l4 pre ++ [(x.1 : Int)] := by
 simp [kF, List.filter_append, h]
theorem Gv {l0 : List S66} {a1 a2 a3 : Int} {l4 : List (List S27)} (pre : List (Fin l0.length)) {x : Fin l0.length} (h : ¬ ou l0 a1 a2 l4 x.1 ≤ a3) : kF l0 a1 a2 a3 l4 (pre ++ [x]) = kF l0 a1 a2 a3 l4 pre := by
 simp [kF, List.filter_append, h]
theorem um {l0 : List S66} {a1 a2 a3 : Int} {l4 : List (List S27)} (pre : List (Fin l0.length)) : (kF l0 a1 a2 a3 l4 pre).length ≤ pre.length := by
 simp only [kF, List.length_map]; exact List.length_filter_le _ _
def xz (l0 : List S66) (a1 a2 a3 : Int) (l4 : List (List S27)) : List Int × Int :=
 if kG l0 a1 a2 a3 l4 = 0 then (if kF l0 a1 a2 a3 l4 (List.finRange l0.length) = [] then ([], 9) else (kF l0 a1 a2 a3 l4 (List.finRange l0.length), 0)) else ([], kG l0 a1 a2 a3 l4)
def fA.f (aZ : List (S66)) (bz : Int) (bS : Int) (bW : Int) (bB : List (List (S27))) : Option (List Int × Int) := some (xz aZ bz bS bW bB)
theorem sU (m : List Int) : ((nums .i64 m).toArray.all (·.oneCell')) = true := by
 rw [Array.all_eq_true_iff_forall_mem]; intro v hv; simp only [nums, List.mem_toArray, List.mem_map] at hv; obtain ⟨x, _, rfl⟩ := hv; rfl
theorem lK (W : World) (cs cs' : Array Value) (t : TypeId) : (W.alloc (.cells cs t (0, 0))).setRow W.heap.size cs' = W.alloc (.cells cs' t (0, 0)) := by
 have h : (W.heap.push (.cells cs t (0, 0))).modify W.heap.size (fun | .cells _ elem frozen => .cells cs' elem frozen | o => o) = W.heap.push (.cells cs' t (0, 0)) := by
  apply Array.ext_getElem?; intro i; rw [Array.getElem?_modify]; by_cases hi : W.heap.size = i
  ·subst hi; rw [if_pos rfl, Array.getElem?_push_size, Array.getElem?_push_size]; rfl
  ·rw [if_neg hi, Array.getElem?_push, Array.getElem?_push, if_neg (fun e => hi e.symm), if_neg (fun e => hi e.symm)]
 unfold World.setRow World.alloc; dsimp only; congr 1
theorem kC {W W' : World} (h : Below W.heap.size W W') : KeepsOthers W W' := ⟨h.size, fun k o hk _ => (h.block k (bF hk)).trans hk⟩
theorem zB {W : World} {g : Nat} {cs : Array Value} {t : TypeId} {base e size n : Nat} {v : Value} {xs : List Value} (h : W.heap[g]? = some (.cells cs t (0, 0))) (hr : W.ownsRow base e size v n xs) (hte : t ≠ e) : some g ≠ v.ownBlock := by
 intro hk; obtain ⟨cells, hc⟩ := sM hr g hk.symm; rw [h] at hc; injection hc with hc; injection hc with _ hc; exact hte hc
theorem EN {α : Type} {d : Kd α} {e : Nat} {W : World} {base : Nat} {ok : Nat → Prop} {v : Value} {xs : List α} (h : Kd.R d e W base ok v xs) {l : Nat} {o o' : Obj} (hl : W.heap[l]? = some o) (ho : o.isCells = false) : Kd.R d e (W.putObj l o') base ok v xs :=
 Kd.df (Kd.Kg (Kd.jD h) (grownBy_putObj' W l o') (fun k hk e => by
  obtain ⟨_, _, _, q, _, cells, hc⟩ := hk; cases e; rw [hl] at hc; cases hc
  cases ho)) (fun _ hk => hk.1)
theorem tF {β : Type} (g : Nat) (cs : Array Value) (t : TypeId) : Own (fun (_ : β) W => W.heap[g]? = some (.cells cs t (0, 0))) := fun s X Y row hs hg hr =>
 (hg.block g (bF hs) (fun e => by obtain ⟨o, ho, hc⟩ := hr g e.symm; rw [hs] at ho; cases ho; cases hc)).trans hs
set_option maxRecDepth 100000 in
set_option maxHeartbeats 4000000 in
theorem fA.calls (eX : Option Addr) (dZ : Nat) (aZ : List (S66)) (bz : Int) (bS : Int) (bW : Int) (eB : Option Addr) (dW : Nat) (bB : List (List (S27))) (r1 : List Int) (r2 : Int) (w : World) (lZ : Kd.C k66 w eX aZ.length aZ) (nz : aZ.length ≤ dZ) (mf : Kd.C (Kd.slice 27 k27) w eB bB.length bB) (nD : bB.length ≤ dW) (h : fA.f aZ bz bS bW bB = some (r1, r2)) :
 Calls Try.prog 58 #[.agg #[.slice eX aZ.length dZ, .int .i64 bz, .int .i64 bS, .int .i64 bW, .slice eB bB.length dW]] w fun e w' => ∃ v0_ : Value, e = .returned (.tuple #[v0_, .int .i64 r2]) ∧ Kd.R (Kd.int .i64) 3 w' w.heap.size (fun _ => True) v0_ r1 ∧ Below w.heap.size w w' := by
 have h' := Option.some.inj h; clear h; obtain ⟨ch, hch⟩ : ∃ ch, ch = kG aZ bz bS bW bB := ⟨_, rfl⟩; rw [xz, ← hch] at h'; have HC := zn eX dZ aZ bz bS bW eB dW bB (w.alloc (.cells #[.slice eX aZ.length dZ, .int .i64 bz, .int .i64 bS, .int .i64 bW, .slice eB bB.length dW] 25)) (Kd.eT lZ (aV (Below.refl _ _) _)) nz (Kd.eT mf (aV (Below.refl _ _) _)) nD; rw [← hch] at HC; refine callsIn_wide (n := 10).1 ?_; refine callsIn_of_wp_marks Try.func58 rfl trivial ?_ rfl; simp only [Try.ntmps58, List.size_toArray, List.length_cons, List.length_nil, Nat.reduceAdd, Nat.reduceSub, Array.replicate_succ, Array.replicate_zero, List.push_toArray, List.append_toArray, List.nil_append, List.cons_append]
 gi_wp2_with (fail)
 refine ⟨trivial, ?_⟩; refine (callsIn_wide.2 HC).mono ?_; rintro e w1 ⟨rfl, hb⟩; have HW1 := aa.mk (eD (aV (Below.refl _ _) _) (by simp) hb); have hBx := (hb.block _ (bF (heap_alloc_new w (.cells #[.slice eX aZ.length dZ, .int .i64 bz, .int .i64 bS, .int .i64 bW, .slice eB bB.length dW] 25)))).trans (heap_alloc_new w _); have HBX := aa.mk hBx; have HR0 := aa.mk lZ; have HR4 := aa.mk mf; clear hBx hb HC lZ mf; by_cases h0 : ch = 0
 ·rw [if_pos h0] at h'; have hv := mE (hch.symm.trans h0); have HV := aa.mk hv; have HS := aa.mk (uk hv.2.2.2.2.1); subst h0; have HH := aa.mk h'; clear h' hv hch; have hz0 : w1.cell? ⟨w.heap.size, 0, none⟩ = some (.slice eX aZ.length dZ) := (ag HBX.out 0).trans rfl; have hz1 : w1.cell? ⟨w.heap.size, 1, none⟩ = some (.int .i64 bz) := (ag HBX.out 1).trans rfl; have hz2 : w1.cell? ⟨w.heap.size, 2, none⟩ = some (.int .i64 bS) := (ag HBX.out 2).trans rfl; have hz3 : w1.cell? ⟨w.heap.size, 3, none⟩ = some (.int .i64 bW) := (ag HBX.out 3).trans rfl; have hz4 : w1.cell? ⟨w.heap.size, 4, none⟩ = some (.slice eB bB.length dW) := (ag HBX.out 4).trans rfl; have hlt1 : w.heap.size < w1.heap.size := bF HBX.out
  gi_wp2_with (fail)
  refine ⟨trivial, ?_⟩; refine (BR _ _ _ _ _ _ _ _ _ _ _).mono ?_; rintro e w2 ⟨rfl, rfl⟩
  gi_wp2_with (fail)
  obtain ⟨bo, hbo⟩ : ∃ bo, bo = w1.heap.size := ⟨_, rfl⟩; have bO := (Boxed.new w1 28 (.slice none 0 0)).alloc (.cells #[.slice eX aZ.length dZ, .int .i64 bz, .int .i64 bS, .int .i64 bW, .slice eB bB.length dW] 25)
  have bL : ((w1.alloc (.cells #[.slice none 0 0] 28)).alloc (.cells #[.slice eX aZ.length dZ, .int .i64 bz, .int .i64 bS, .int .i64 bW, .slice eB bB.length dW] 25)).heap[w1.heap.size + 1]? = some (.cells #[.slice eX aZ.length dZ, .int .i64 bz, .int .i64 bS, .int .i64 bW, .slice eB bB.length dW] 25 (0, 0)) := by
   have := heap_alloc_new (w1.alloc (.cells #[.slice none 0 0] 28)) (.cells #[.slice eX aZ.length dZ, .int .i64 bz, .int .i64 bS, .int .i64 bW, .slice eB bB.length dW] 25)
   rwa [World.size_alloc] at this
  have bX : ((w1.alloc (.cells #[.slice none 0 0] 28)).alloc (.cells #[.slice eX aZ.length dZ, .int .i64 bz, .int .i64 bS, .int .i64 bW, .slice eB bB.length dW] 25)).heap[w.heap.size]? = some (.cells #[.slice eX aZ.length dZ, .int .i64 bz, .int .i64 bS, .int .i64 bW, .slice eB bB.length dW] 25 (0, 0)) := dm (dm HBX.out _) _; (have hsz : ((w1.alloc (.cells #[.slice none 0 0] 28)).alloc (.cells #[.slice eX aZ.length dZ, .int .i64 bz, .int .i64 bS, .int .i64 bW, .slice eB bB.length dW] 25)).heap.size = bo + 2 := by simp [hbo]); have hB0 : Below w.heap.size w ((w1.alloc (.cells #[.slice none 0 0] 28)).alloc (.cells #[.slice eX aZ.length dZ, .int .i64 bz, .int .i64 bS, .int .i64 bW, .slice eB bB.length dW] 25)) := aV (aV HW1.out _) _; (have hwb : w.heap.size < bo := by rw [hbo]; exact hlt1); rw [← hbo] at bL bO ⊢; obtain ⟨W0, hW0⟩ : ∃ W0, W0 = ((w1.alloc (.cells #[.slice none 0 0] 28)).alloc (.cells #[.slice eX aZ.length dZ, .int .i64 bz, .int .i64 bS, .int .i64 bW, .slice eB bB.length dW] 25)) := ⟨_, rfl⟩; rw [← hW0] at bO bL bX hsz hB0 ⊢; clear hW0 hz0 hz1 hz2 hz3 hz4 hlt1 HBX hbo HW1
  refine wpIn_rangeFunc_ownH rfl (by omega) (gf := 73) (lb := #[.pointer (some ⟨bo + 1, 0, none⟩)]) rfl trivial (enters_of Try.func73 (by kernel_rfl) rfl)
   (uJ 9 (by omega) (bo + 1) w.heap.size eX dZ aZ bz bS bW eB dW bB HV.out.2.2.2.1 HS.out w W0 (Nat.le_refl _) HR0.out HR4.out hB0 (by omega) bL) MC (OJ (by omega)) (Below.refl _ _) (fun _ => rfl)
   (fun pre W => ((∃ v, Boxed W bo 28 v ∧ W.ownsRow w.heap.size 3 1 v (kF aZ bz bS bW bB pre).length (nums .i64 (kF aZ bz bS bW bB pre)) ∧ True) ∧ W.heap[bo + 1]? = some (.cells #[.slice eX aZ.length dZ, .int .i64 bz, .int .i64 bS, .int .i64 bW, .slice eB bB.length dW] 25 (0, 0)) ∧ W.heap[w.heap.size]? = some (.cells #[.slice eX aZ.length dZ, .int .i64 bz, .int .i64 bS, .int .i64 bW, .slice eB bB.length dW] 25 (0, 0))) ∧ Below w.heap.size w W)
   (fun _ _ _ => False)
   (OwnFrom.and (OwnFrom.and (Own.from (holdsRow_own w.heap.size bo 28 3 1 (fun pre => (kF aZ bz bS bW bB pre).length) (fun pre => nums .i64 (kF aZ bz bS bW bB pre)) (fun _ _ => True)) _) (OwnFrom.and (Own.from (tF _ _ _) _) (Own.from (tF _ _ _) _))) (ownFrom_below (Nat.le_refl _) (by omega)))
   (fun _ _ _ _ _ hs _ _ => hs)
   ⟨⟨⟨_, bO, World.ownsRow_nil _ _ _ _, trivial⟩, bL, bX⟩, hB0⟩
   (fun x a' W => ∃ Bx, bo + 1 < Bx ∧ nA W Bx (dL bz bS aZ bB x.1) ∧ a' = { tmps := #[.agg #[.slice eX aZ.length dZ, .int .i64 bz, .int .i64 bS, .int .i64 bW, .slice eB bB.length dW], .pointer (some ⟨w.heap.size, 0, none⟩), .slice none 0 0, .int .i64 0, .int .i64 0, .pointer (some ⟨bo, 0, none⟩), .int .i64 (x.1 : Int), .pointer (some ⟨Bx, 0, none⟩), undef, undef, .agg #[.slice eX aZ.length dZ, .int .i64 bz, .int .i64 bS, .int .i64 bW, .slice eB bB.length dW], .int .i64 0, .int .i64 0, .bool false, undef, .agg #[.slice eX aZ.length dZ, .int .i64 bz, .int .i64 bS, .int .i64 bW, .slice eB bB.length dW], .func (.func 73) #[] #[.pointer (some ⟨bo + 1, 0, none⟩)], .int .i64 (x.1 : Int), .agg (nums .i64 (dL bz bS aZ bB x.1)).toArray, undef, undef, undef, undef, undef, undef, undef, undef, undef, undef, undef, undef, undef, undef, undef, undef, undef, undef, undef, undef], defers := [] })
   (fun x a' _ X Y row hs hg hr => by obtain ⟨Bx, h1, h2, h3⟩ := hs; exact ⟨Bx, h1, ⟨h2.1, tF (β := Unit) Bx _ 97 () X Y row h2.2 hg (fun r e => (hr r e).2)⟩, h3⟩)
   ?assign ?body ?done ?stop
  case assign =>
   rintro l pre x W K ⟨⟨⟨v, hv, hrow, _⟩, hL, hX⟩, hB⟩ hK; dsimp only [Lt]; have hlen := iY bz bS bB (ah aZ (x.1 : Int)).f1 bB.length; (have hin : (Try.prog.info? 97).map (·.size) = some 64 := by kernel_rfl); have H64 := aa.mk (show (nums .i64 (dL bz bS aZ bB x.1)).toArray.size = 64 by simp [nums, dL, hlen]); have HIN := aa.mk hin; have HA := aa.mk (sU (dL bz bS aZ bB x.1)); clear hlen hin; have hK2 := aa.mk hK; clear hK
   gi_wp2_with (refine iF rfl 97 (.tmp 7) (.tmp 18) rfl W.heap.size _ rfl rfl 97 _ (heap_alloc_new W _) (by rw [H64.out]; exact HIN.out) (by rw [H64.out]; rfl) HA.out ?_)
   rw [lK]; refine hK2.out _ _ ((KeepsOthers.alloc _ _).from _) ⟨(Below.refl _ W).alloc hB.size _, fun o ho hc => dm ho _⟩ ⟨⟨⟨v, hv.alloc _, hrow.alloc _, trivial⟩, dm hL _, dm hX _⟩, aV hB _⟩ ⟨W.heap.size, bF hL, ⟨iY _ _ _ _ _, heap_alloc_new W _⟩, rfl⟩
  case body =>
   rintro l pre x a' W hl ⟨r, hr⟩ ⟨⟨⟨v, hv, hrow, _⟩, hL, hX⟩, hB⟩ ⟨Bx, hBx, bN, rfl⟩ hlt; (have hin : (Try.prog.info? 97).map (·.size) = some 64 := by kernel_rfl); (have hin5 : (Try.prog.info? 95).map (·.size) = some 8 := by kernel_rfl); have H64 := aa.mk (show (nums .i64 (dL bz bS aZ bB x.1)).toArray.size = 64 by simp [nums, bN.1]); have HIN := aa.mk hin; have HIN5 := aa.mk hin5; have HV' := aa.mk hv; have HRow := aa.mk hrow; have HL := aa.mk hL; have HX := aa.mk hX; have HB := aa.mk hB; have HN := aa.mk bN; clear hin hin5 hv hrow hL hB bN; have hz0 : W.cell? ⟨w.heap.size, 0, none⟩ = some (.slice eX aZ.length dZ) := (ag hX 0).trans rfl; have hz1 : W.cell? ⟨w.heap.size, 1, none⟩ = some (.int .i64 bz) := (ag hX 1).trans rfl; have hz2 : W.cell? ⟨w.heap.size, 2, none⟩ = some (.int .i64 bS) := (ag hX 2).trans rfl; have hz3 : W.cell? ⟨w.heap.size, 3, none⟩ = some (.int .i64 bW) := (ag hX 3).trans rfl; have hz4 : W.cell? ⟨w.heap.size, 4, none⟩ = some (.slice eB bB.length dW) := (ag hX 4).trans rfl; clear hX
   gi_wp2_with (refine nL rfl 97 (.tmp 7) rfl Bx rfl 97 _ (0, 0) _ HN.out.2 Try.underlying97 rfl (by rw [H64.out]; exact HIN.out) ?_)
   refine ⟨trivial, (CallsIn.inRound l (callsIn_wide.2 (sums.calls (-1) 0 eX dZ aZ bz bS bW eB bB.length dW x.1 (dL bz bS aZ bB x.1) W (Kd.eT HR0.out HB.out) x.2 HN.out.1 HV.out.2.2.2.1 (HS.out x.1 x.2)))).mono ?_⟩; rintro e w2 ⟨rfl, hb⟩; obtain ⟨es, hes⟩ : ∃ es, es = (gp (-1) 0 (dL bz bS aZ bB x.1) (ah aZ (x.1 : Int)).f1 bB.length).1 := ⟨_, rfl⟩; obtain ⟨tot, htot⟩ : ∃ tot, tot = (gp (-1) 0 (dL bz bS aZ bB x.1) (ah aZ (x.1 : Int)).f1 bB.length).2 := ⟨_, rfl⟩; rw [← hes, ← htot]; (have hel : es.length = 8 := by rw [hes]; exact jO _ _ _ _ _); have HE := aa.mk (show (nums .i64 es).toArray.size = 8 by simp [nums, hel]); have HA := aa.mk (sU es); have HT := aa.mk (show tot = ou aZ bz bS bB x.1 from htot); have hbw : Below W.heap.size W w2 := hb; have HBW := aa.mk hbw; have HX2 := aa.mk ((hb.block _ (bF HX.out)).trans HX.out); have hz3 : w2.cell? ⟨w.heap.size, 3, none⟩ = some (.int .i64 bW) := (ag HX2.out 3).trans rfl; have hlt3 : w.heap.size < w2.heap.size := bF HX2.out; clear hes htot hel hb hbw hz0 hz1 hz2 hz4; have HK2 := HV'.out.kept (jq HBW.out none) (by simp); have hv2 : Boxed (w2.alloc (.cells (nums .i64 es).toArray 95)) bo 28 v := HK2.alloc _; have hrow2 := (wZ HRow.out HBW.out).alloc (.cells (nums .i64 es).toArray 95); (have hsz2 : (w2.alloc (.cells (nums .i64 es).toArray 95)).heap.size = w2.heap.size + 1 := by simp); have hBW2 : Below W.heap.size W (w2.alloc (.cells (nums .i64 es).toArray 95)) := aV HBW.out _; have hKO2 : KeepsOthers W (w2.alloc (.cells (nums .i64 es).toArray 95)) := kC hBW2; have HB2 := aa.mk (eD HB.out HB.out.size hBW2); have HL2 := aa.mk ((hBW2.block _ (bF HL.out)).trans HL.out); have HX3 := aa.mk ((hBW2.block _ (bF HX.out)).trans HX.out); have HBW2 := aa.mk hBW2; have HKO2 := aa.mk hKO2; obtain ⟨i0, hi, hz0, hz1, hz2⟩ := info_parts info3; have hpl := um (a1 := bz) (a2 := bS) (a3 := bW) (l4 := bB) pre; have hl0 := HV.out.2.1; have hcO := HK2.cell; have hltO : bo < w2.heap.size := HK2.lt; clear hKO2 hBW2 HK2; have HCN := aa.mk (cell_one_new (w2.alloc (.cells (nums .i64 es).toArray 95)) (.int .i64 (x.1 : Int)) 3); rw [World.size_alloc] at HCN; by_cases ht : tot ≤ bW
   ·have hdt : decide (tot ≤ bW) = true := decide_eq_true ht; have HTT := aa.mk (show ou aZ bz bS bB x.1 ≤ bW by rw [← HT.out]; exact ht); clear ht
    gi_wp2_with (first
     | (refine iF rfl 95 (.tmp 8) (.tmp 25) rfl w2.heap.size _ rfl rfl 95 _ (heap_alloc_new w2 _) (by rw [HE.out]; exact HIN5.out) (by rw [HE.out]; rfl) HA.out ?_; rw [lK])
     | (gi_at_builtin; go_loud (refine wpListIn_append_own _ rfl _ _ 28 rfl w.heap.size 3 i0 (.int .i64 0) 1 8 Try.underlying28 hi hz0 hz1 hz2 rfl (by decide) _ _ _ rfl (hrow2.alloc _) ⟨w2.heap.size + 1, 0, none⟩ 1 1 [.int .i64 (x.1 : Int)] rfl rfl HCN.out (by simp [Value.oneCell']) (by unfold maxLen; omega) (by omega) (by have := HB2.out.size; simp at this ⊢; omega) ?_); intro v' w3 hown' hgrow _; obtain ⟨g', cap', rfl⟩ := ownsRow_succ hown'; obtain ⟨hv1, hv2', hr2, hk2, hb2⟩ := hv2.appended (by decide) hrow2 HB2.out.size (by omega) hown' hgrow; have hc1 := hv1.cell; have hf1 := hv1.frozen))
    have hLf := bC (dn (dm HL2.out (.cells #[.int .i64 (x.1 : Int)] 3)) hgrow (show some (bo + 1) ≠ v.ownBlock from zB HL2.out hrow2 (by decide))) (p := ⟨bo, 0, none⟩) (by simp) (.slice (some ⟨g', 0, none⟩) ((kF aZ bz bS bW bB pre).length + 1) cap'); have hXf := bC (dn (dm HX3.out (.cells #[.int .i64 (x.1 : Int)] 3)) hgrow (show some w.heap.size ≠ v.ownBlock from zB HX3.out hrow2 (by decide))) (p := ⟨bo, 0, none⟩) (by simp; omega) (.slice (some ⟨g', 0, none⟩) ((kF aZ bz bS bW bB pre).length + 1) cap'); refine ⟨(HKO2.out.trans hk2).from _, ⟨(HBW2.out.mono HB.out.size).trans hb2, fun o ho hc => ?_⟩, ⟨⟨_, hv2', ?_, trivial⟩, hLf, hXf⟩, HB2.out.trans hb2⟩
    ·rw [HL.out] at ho; cases ho; exact hLf
    ·rw [KV pre HTT.out]
     simpa [nums] using hr2
   ·have hdt : decide (tot ≤ bW) = false := decide_eq_false ht; have HTT := aa.mk (show ¬ ou aZ bz bS bB x.1 ≤ bW by rw [← HT.out]; exact ht); clear ht
    gi_wp2_with (refine iF rfl 95 (.tmp 8) (.tmp 25) rfl w2.heap.size _ rfl rfl 95 _ (heap_alloc_new w2 _) (by rw [HE.out]; exact HIN5.out) (by rw [HE.out]; rfl) HA.out ?_; rw [lK])
    refine ⟨HKO2.out.from _, ⟨HBW2.out.mono HB.out.size, fun o ho hc => (HBW2.out.block _ (bF ho)).trans ho⟩, ⟨⟨v, hv2, ?_, trivial⟩, HL2.out, HX3.out⟩, HB2.out⟩; rw [Gv pre (Int.not_le.mpr (Int.not_le.mp (by have := HTT.out; omega)))]; exact hrow2
  case done =>
   rintro D ys W hD rfl ⟨⟨⟨v, hv, hrow, _⟩, hL, hX⟩, hB⟩ hK; have hc := hv.cell; have HRW := aa.mk (show Kd.R (Kd.int .i64) 3 W w.heap.size (fun _ => True) v (kF aZ bz bS bW bB (List.finRange aZ.length)) from Kd.vz hrow (fun _ _ => trivial)); have HB := aa.mk hB; have hl := hrow.1; have hl2 := um (a1 := bz) (a2 := bS) (a3 := bW) (l4 := bB) (List.finRange aZ.length); rw [List.length_finRange] at hl2; obtain ⟨fs, hfs⟩ : ∃ fs, fs = kF aZ bz bS bW bB (List.finRange aZ.length) := ⟨_, rfl⟩; rw [← hfs] at HRW hl2; have HH' := HH; rw [← hfs] at HH'; obtain ⟨A, cap, rfl, _, _⟩ := Kd.zZ HRW.out; have HKD := aa.mk hK; clear hfs hrow hX hL hB HH hl hK; have hh := HH'.out; by_cases h0 : fs = []
   ·rw [if_pos h0] at hh; simp only [Prod.mk.injEq] at hh; obtain ⟨rfl, rfl⟩ := hh; (have hz : ((fs.length : Int) == 0) = true := by simp [h0]); (have hz2 : (fs.length == 0) = true := by simp [h0]); have HF := aa.mk h0; clear h0 HH'
    gi_wp2_with (fail)
    refine ⟨by simp, .inl ⟨_, _, rfl, run_takeDeferred HKD.out, ?_⟩⟩; exact ⟨_, results_tmp2 rfl _ _ _, _, rfl, Kd.wC _ _ _ _ _, HB.out.trans (belowK_b (w := w) (Nat.le_refl _) W D _ _ (by omega) HKD.out rfl rfl)⟩
   ·rw [if_neg h0] at hh; simp only [Prod.mk.injEq] at hh; obtain ⟨rfl, rfl⟩ := hh; (have hz : ((fs.length : Int) == 0) = false := by simp [h0]); (have hz2 : (fs.length == 0) = false := by simp [h0]); clear h0 HH'
    gi_wp2_with (fail)
    refine ⟨by simp, .inl ⟨_, _, rfl, run_takeDeferred HKD.out, ?_⟩⟩; exact ⟨_, results_tmp2 rfl _ _ _, _, rfl, EN HRW.out HKD.out rfl, HB.out.trans (belowK_b (w := w) (Nat.le_refl _) W D _ _ (by omega) HKD.out rfl rfl)⟩
  case stop =>
   rintro D c pre W _ _ h _; exact h.elim
 ·rw [if_neg h0] at h'; simp only [Prod.mk.injEq] at h'; obtain ⟨rfl, rfl⟩ := h'; (have hd : (ch == 0) = false := by simp [h0]); (have hd2 : (ch != 0) = true := by simp [h0]); clear h0 hch
  gi_wp2_with (fail)
  exact ⟨_, results_tmp2 rfl _ _ _, _, rfl, Kd.wC _ _ _ _ _, HW1.out⟩
end Go.Proofs.Ytihedeofkhapiaa.Pr
end
section
namespace Go.Proofs.Ytihedeofkhapiaa.Pr
open Go.RowKit Go.Proofs.YtihedeofkhapiaaW.PrintWords Go.Proofs.YtihedeofkhapiaaW.PrintLast Go.Proofs.YtihedeofkhapiaaW.PrintMore
theorem Lu (v : Nat) (hv : v < 32) : ∀ (q : List S27) (h : Nat), h < 32 → (∀ x ∈ q, uC v x) →
 ∃ g : Nat, g < 32 ∧ q.foldl seenStep ((h : Int), ((v &&& h : Nat) : Int)) = ((g : Int), ((v &&& g : Nat) : Int)) ∧ (∀ a : Nat, a < 32 → a &&& h = a → a &&& g = a) ∧ ∀ x ∈ q, ∃ a : Nat, a < 32 ∧ x = ⟨(a : Int), ((v &&& a : Nat) : Int)⟩ ∧ a &&& g = a := by
 intro q
 induction q with
 | nil => exact fun h hh _ => ⟨h, hh, rfl, fun a _ e => e, fun x hx => absurd hx List.not_mem_nil⟩
 | cons x r ih =>
  intro h hh hx; obtain ⟨a, ha, rfl⟩ := hx x List.mem_cons_self; have hva : v &&& a < 32 := Nat.lt_of_le_of_lt Nat.and_le_left hv; have hvh : v &&& h < 32 := Nat.lt_of_le_of_lt Nat.and_le_left hv
  have e : seenStep ((h : Int), ((v &&& h : Nat) : Int)) ⟨(a : Int), ((v &&& a : Nat) : Int)⟩ = (((h ||| a : Nat) : Int), ((v &&& (h ||| a) : Nat) : Int)) := by
   simp only [seenStep]; rw [NV ⟨h, hh⟩ ⟨a, ha⟩, NV ⟨v &&& h, hvh⟩ ⟨v &&& a, hva⟩]; have := XB ⟨v, hv⟩ ⟨h, hh⟩ ⟨a, ha⟩; simp only [] at this ⊢; rw [this]
  obtain ⟨g, hg, hf, hs, hq⟩ := ih (h ||| a) (MV ⟨h, hh⟩ ⟨a, ha⟩) (fun y hy => hx y (List.mem_cons_of_mem _ hy)); refine ⟨g, hg, by rw [List.foldl_cons, e, hf], fun b hb e => hs b hb (XR ⟨b, hb⟩ ⟨h, hh⟩ ⟨a, ha⟩ e), fun y hy => ?_⟩; rcases List.mem_cons.1 hy with rfl | hy
  ·exact ⟨a, ha, rfl, hs a ha (Tq ⟨a, ha⟩ ⟨h, hh⟩)⟩
  ·exact hq y hy
theorem xN (v : Nat) (hv : v < 32) (q : List S27) (hx : ∀ x ∈ q, uC v x) : ∃ g : Nat, g < 32 ∧ gP q = ((g : Int), ((v &&& g : Nat) : Int), true) := by
 obtain ⟨g, hg, hf, _, hq⟩ := Lu v hv q 0 (by omega) hx
 have hA : sW q = ((g : Int), ((v &&& g : Nat) : Int)) := by
  rw [← hf]; simp [sW]
 have hok : ∀ r : List S27, (∀ x ∈ r, x ∈ q) → r.foldl (uN ((v &&& g : Nat) : Int)) true = true := by
  intro r
  induction r with
  | nil => exact fun _ => rfl
  | cons x r ih =>
   intro hr; obtain ⟨a, ha, rfl, hag⟩ := hq x (hr x List.mem_cons_self); have hvg : v &&& g < 32 := Nat.lt_of_le_of_lt Nat.and_le_left hv
   have e : uN ((v &&& g : Nat) : Int) true ⟨(a : Int), ((v &&& a : Nat) : Int)⟩ = true := by
    simp only [uN, if_true]; rw [zo ⟨v &&& g, hvg⟩ ⟨a, ha⟩]; have := Ra ⟨v, hv⟩ ⟨g, hg⟩ ⟨a, ha⟩ hag; simp only [] at this ⊢; rw [this]; exact beq_self_eq_true _
   rw [List.foldl_cons, e]; exact ih (fun y hy => hr y (List.mem_cons_of_mem _ hy))
 refine ⟨g, hg, ?_⟩; rw [gP, hA]; simp only []; rw [hok q (fun x hx => hx)]
theorem KS {W S : Int} {sh : List S86} (hasc : Asc sh) {q : List S27} {k v : Nat} (hk : k < sh.length) (hv : v < 32) (hx : ∀ x ∈ q, uC v x) (hl : (lost (bY sh k) v : Int) ≤ W) (hm : (made (bY sh k) v : Int) ≤ S) :
 0 ≤ cellP W S (gP q) (aj sh (k : Int)) ∧ cellP W S (gP q) (aj sh (k : Int)) ≤ (lost (bY sh k) v : Int) + (made (bY sh k) v : Int) ∧ cellP W S (gP q) (aj sh (k : Int)) < 1048576 := by
 obtain ⟨g, hg, hs⟩ := xN v hv q hx
 have hmem : sh.getD k z86 ∈ sh := by
  rw [List.getD_eq_getElem?_getD, List.getElem?_eq_getElem hk]; exact List.getElem_mem _
 have hst := hasc.1 _ hmem; (have hs32 : bY sh k < 32 := by unfold bY; omega); (have es : (sh.getD k z86).f1 = (bY sh k : Int) := by unfold bY; omega); have b1 : bY sh k &&& g < 32 := Nat.lt_of_le_of_lt Nat.and_le_left hs32; have b2 : v &&& g < 32 := Nat.lt_of_le_of_lt Nat.and_le_left hv; have b3 : (bY sh k &&& g) &&& (31 ^^^ (v &&& g)) < 32 := Nat.lt_of_le_of_lt Nat.and_le_left b1; have b4 : (v &&& g) &&& (31 ^^^ bY sh k) < 32 := Nat.lt_of_le_of_lt Nat.and_le_left b2
 have e1 : lv (fG (Go.bits .and .i64 (sh.getD k z86).f1 (g : Int)) ((v &&& g : Nat) : Int)) = (pop ((bY sh k &&& g) &&& (31 ^^^ (v &&& g))) : Int) := by
  rw [es, zo ⟨bY sh k, hs32⟩ ⟨g, hg⟩, zw ⟨bY sh k &&& g, b1⟩ ⟨v &&& g, b2⟩, uU ⟨_, b3⟩]
 have e2 : lv (fG ((v &&& g : Nat) : Int) (sh.getD k z86).f1) = (pop ((v &&& g) &&& (31 ^^^ bY sh k)) : Int) := by
  rw [es, zw ⟨v &&& g, b2⟩ ⟨bY sh k, hs32⟩, uU ⟨_, b4⟩]
 have hsl := K7 ⟨bY sh k, hs32⟩ ⟨v, hv⟩ ⟨g, hg⟩; simp only [] at hsl; have p1 := sj ⟨_, b3⟩; have p2 := sj ⟨_, b4⟩; simp only [] at p1 p2
 have ec : cellP W S (gP q) (aj sh (k : Int)) = (pop ((bY sh k &&& g) &&& (31 ^^^ (v &&& g))) : Int) + (pop ((v &&& g) &&& (31 ^^^ bY sh k)) : Int) := by
  rw [cellP, hs, Ak, if_pos ⟨rfl, by simp only []; rw [e1]; omega, by simp only []; rw [e2]; omega⟩]; simp only []; rw [e1, e2, dY (by omega) (by omega)]
 rw [ec]; omega
theorem Ph (W S : Int) {sh : List S86} (hasc : Asc sh) {q : List S27} {k v : Nat} (hk : k < sh.length) (hv : v < 32) (hx : ∀ x ∈ q, uC v x) :
 0 ≤ cellP W S (gP q) (aj sh (k : Int)) ∧ cellP W S (gP q) (aj sh (k : Int)) ≤ 1048576 := by
 obtain ⟨g, hg, hs⟩ := xN v hv q hx
 have hmem : sh.getD k z86 ∈ sh := by
  rw [List.getD_eq_getElem?_getD, List.getElem?_eq_getElem hk]; exact List.getElem_mem _
 have hst := hasc.1 _ hmem; (have hs32 : bY sh k < 32 := by unfold bY; omega); (have es : (sh.getD k z86).f1 = (bY sh k : Int) := by unfold bY; omega); have b1 : bY sh k &&& g < 32 := Nat.lt_of_le_of_lt Nat.and_le_left hs32; have b2 : v &&& g < 32 := Nat.lt_of_le_of_lt Nat.and_le_left hv; have b3 : (bY sh k &&& g) &&& (31 ^^^ (v &&& g)) < 32 := Nat.lt_of_le_of_lt Nat.and_le_left b1; have b4 : (v &&& g) &&& (31 ^^^ bY sh k) < 32 := Nat.lt_of_le_of_lt Nat.and_le_left b2
 have e1 : lv (fG (Go.bits .and .i64 (sh.getD k z86).f1 (g : Int)) ((v &&& g : Nat) : Int)) = (pop ((bY sh k &&& g) &&& (31 ^^^ (v &&& g))) : Int) := by
  rw [es, zo ⟨bY sh k, hs32⟩ ⟨g, hg⟩, zw ⟨bY sh k &&& g, b1⟩ ⟨v &&& g, b2⟩, uU ⟨_, b3⟩]
 have e2 : lv (fG ((v &&& g : Nat) : Int) (sh.getD k z86).f1) = (pop ((v &&& g) &&& (31 ^^^ bY sh k)) : Int) := by
  rw [es, zw ⟨v &&& g, b2⟩ ⟨bY sh k, hs32⟩, uU ⟨_, b4⟩]
 have p1 := sj ⟨_, b3⟩; have p2 := sj ⟨_, b4⟩; simp only [] at p1 p2; rw [cellP, hs, Ak]; split
 ·simp only []; rw [e1, e2, dY (by omega) (by omega)]; omega
 ·exact ⟨by decide, by decide⟩
theorem Gy (W S : Int) (q : Int × Int × Bool) (sh : List S86) (i : Nat) (m : List Int) (hi : i < 8) (hm : m.length = 64) : ∀ K, K ≤ 8 → ∀ i' k, i' < 8 → k < 8 →
 (ut W S q sh i m K).getD (i' * 8 + k) 0 = if i' = i ∧ k < K then cellP W S q (aj sh (k : Int)) else m.getD (i' * 8 + k) 0 := by
 intro K
 induction K with
 | zero => intro _ i' k _ _; rw [ut, if_neg (by omega)]
 | succ K ih =>
  intro hK i' k hi' hk; (have hlen : (ut W S q sh i m K).length = 64 := by rw [uh, hm]); rw [ut, List.getD_eq_getElem?_getD, List.getElem?_set]; by_cases he : i * 8 + K = i' * 8 + k
  ·(obtain ⟨rfl, rfl⟩ : i = i' ∧ K = k := by omega); rw [if_pos rfl, if_pos (by omega), if_pos (by omega)]; rfl
  ·rw [if_neg he, ← List.getD_eq_getElem?_getD, ih (by omega) i' k hi' hk]; by_cases h1 : i' = i ∧ k < K
   ·rw [if_pos h1, if_pos (by omega)]
   ·rw [if_neg h1, if_neg (by omega)]
theorem qg (W S : Int) (l4 : List (List S27)) (sh : List S86) (hsh : sh.length ≤ 8) : ∀ n, n ≤ 8 → ∀ i k, i < n → k < sh.length →
 (eF W S l4 sh n).getD (i * 8 + k) 0 = cellP W S (gP (fB l4 (i : Int))) (aj sh (k : Int)) := by
 intro n
 induction n with
 | zero => intro _ i k hi; omega
 | succ n ih =>
  intro hn i k hi hk; rw [eF, Gy _ _ _ _ _ _ (by omega) (iY _ _ _ _ _) _ hsh i k (by omega) (by omega)]; by_cases he : i = n
  ·subst he; rw [if_pos ⟨rfl, hk⟩]
  ·rw [if_neg (by omega)]; exact ih (by omega) i k (by omega) hk
theorem Qt (m : List Int) (i : Nat) (sh : List S86) : ∀ K k, k < K → iy (-1) 0 m i sh K ≤ m.getD (i * 8 + k) 0 := by
 intro K
 induction K with
 | zero => intro k hk; omega
 | succ K ih =>
  intro k hk; (have hm : vw (-1) 0 (i : Int) (aj sh (K : Int)) = true := by rw [vw, if_neg (by omega)]); rw [iy, if_pos hm]; unfold mn; by_cases he : k = K
  ·subst he; split <;> omega
  ·have := ih k (by omega); split <;> omega
theorem uY (m : List Int) (i : Nat) (sh : List S86) : ∀ K, (∀ k, k < K → 0 ≤ m.getD (i * 8 + k) 0) → 0 ≤ iy (-1) 0 m i sh K ∧ iy (-1) 0 m i sh K ≤ 1048576 := by
 intro K
 induction K with
 | zero => intro _; exact ⟨by simp [iy, jK], by simp [iy, jK]⟩
 | succ K ih =>
  intro h; (have hm : vw (-1) 0 (i : Int) (aj sh (K : Int)) = true := by rw [vw, if_neg (by omega)]); have h1 := ih (fun k hk => h k (by omega)); have h2 := h K (by omega); rw [iy, if_pos hm]; unfold mn; split <;> omega
def qV (f : Nat → Int) : Nat → Int
 | 0 => 0
 | n + 1 => qV f n + f n
theorem Ac {f g : Nat → Int} : ∀ n, (∀ i, i < n → f i ≤ g i) → qV f n ≤ qV g n
 | 0, _ => Int.le_refl _
 | n + 1, h => by
  have h1 := Ac n (fun i hi => h i (by omega)); have h2 := h n (by omega); simp only [qV]; omega
theorem yw {f g : Nat → Int} : ∀ n, (∀ i, i < n → f i ≤ g i) → ∀ i, i < n → qV f n - f i ≤ qV g n - g i
 | 0, _, i, hi => by omega
 | n + 1, h, i, hi => by
  simp only [qV]; have h2 := h n (by omega); by_cases he : i = n
  ·subst he; have h1 := Ac i (fun j hj => h j (by omega)); omega
  ·have h1 := yw n (fun j hj => h j (by omega)) i (by omega); omega
theorem uL {f : Nat → Int} : ∀ n, n ≤ 8 → (∀ i, i < n → 0 ≤ f i ∧ f i ≤ 1048576) → 0 ≤ qV f n ∧ qV f n ≤ 1048576 * n
 | 0, _, _ => by simp [qV]
 | n + 1, hn, h => by
  have h1 := uL n (by omega) (fun i hi => h i (by omega)); have h2 := h n (by omega); simp only [qV]; push_cast; omega
theorem Br : ∀ ms : List Int, qV (fun j => ms.getD j 0) ms.length = ms.sum := by
 have h : ∀ (ms : List Int) (n : Nat), n ≤ ms.length → qV (fun j => ms.getD j 0) n = (ms.take n).sum := by
  intro ms n
  induction n with
  | zero => intro _; simp [qV]
  | succ n ih =>
   intro hn; rw [qV, ih (by omega), ← List.take_append_getElem (by omega), List.sum_append]; simp [List.getD_eq_getElem?_getD, show n < ms.length by omega]
 intro ms; rw [h ms _ (Nat.le_refl _), List.take_length]
theorem Jp (m : List Int) (sh : List S86) : ∀ n, n ≤ 8 → (∀ i k, i < n → k < sh.length → 0 ≤ m.getD (i * 8 + k) 0) →
 (gp (-1) 0 m sh n).2 = qV (fun i => iy (-1) 0 m i sh sh.length) n ∧ ∀ i, i < n → (gp (-1) 0 m sh n).1.getD i 0 = iy (-1) 0 m i sh sh.length := by
 intro n
 induction n with
 | zero => intro _ _; exact ⟨rfl, fun i hi => by omega⟩
 | succ n ih =>
  intro hn h; obtain ⟨h1, h2⟩ := ih (by omega) (fun i k hi hk => h i k (by omega) hk); have hb := uL (f := fun i => iy (-1) 0 m i sh sh.length) n (by omega) (fun i hi => uY m i sh _ (fun k hk => h i k (by omega) hk)); have hb2 := uY m n sh _ (fun k hk => h n k (by omega) hk); refine ⟨?_, fun i hi => ?_⟩
  ·rw [gp]; simp only [qV]; rw [h1, dY (by omega) (by omega)]
  ·rw [gp]; simp only []; rw [List.getD_eq_getElem?_getD, List.getElem?_set]; have hl := jO (-1) 0 m sh n; by_cases he : n = i
   ·subst he; rw [if_pos rfl, if_pos (by omega)]; rfl
   ·rw [if_neg he, ← List.getD_eq_getElem?_getD]; exact h2 i (by omega)
end Go.Proofs.Ytihedeofkhapiaa.Pr
end
section
namespace Go.Proofs.Ytihedeofkhapiaa.Pr
open Go.RowKit Go.Shelf Go.Proofs.YtihedeofkhapiaaW.PrintWords Go.Proofs.YtihedeofkhapiaaW.PrintLast Go.Proofs.YtihedeofkhapiaaW.PrintMore
attribute [local go_sem] Oper.semAt_some
def pR (l0 : List S66) (a1 a2 : Int) (l4 : List (List S27)) (pre : List (Fin l0.length)) : Int := pre.foldl (fun b x => mn b (ou l0 a1 a2 l4 x.1)) jK
theorem FE {l0 : List S66} {a1 a2 : Int} {l4 : List (List S27)} (pre : List (Fin l0.length)) (x : Fin l0.length) : pR l0 a1 a2 l4 (pre ++ [x]) = mn (pR l0 a1 a2 l4 pre) (ou l0 a1 a2 l4 x.1) := by
 simp [pR, List.foldl_append]
def Nf (l0 : List S66) (a1 a2 a3 : Int) (l4 : List (List S27)) : Int × Int :=
 if kG l0 a1 a2 a3 l4 = 0 then (if pR l0 a1 a2 l4 (List.finRange l0.length) ≥ 1048576 then (0, 9) else (pR l0 a1 a2 l4 (List.finRange l0.length), 0)) else (0, kG l0 a1 a2 a3 l4)
def nE.f (aZ : List (S66)) (bz : Int) (bS : Int) (bW : Int) (bB : List (List (S27))) : Option (Int × Int) := some (Nf aZ bz bS bW bB)
set_option maxRecDepth 100000 in
set_option maxHeartbeats 4000000 in
theorem nE.calls (eX : Option Addr) (dZ : Nat) (aZ : List (S66)) (bz : Int) (bS : Int) (bW : Int) (eB : Option Addr) (dW : Nat) (bB : List (List (S27))) (r1 : Int) (r2 : Int) (w : World) (lZ : Kd.C k66 w eX aZ.length aZ) (nz : aZ.length ≤ dZ) (mf : Kd.C (Kd.slice 27 k27) w eB bB.length bB) (nD : bB.length ≤ dW) (h : nE.f aZ bz bS bW bB = some (r1, r2)) :
 Calls Try.prog 21 #[.agg #[.slice eX aZ.length dZ, .int .i64 bz, .int .i64 bS, .int .i64 bW, .slice eB bB.length dW]] w fun e w' => e = .returned (.tuple #[.int .i64 r1, .int .i64 r2]) ∧ Below w.heap.size w w' := by
 have h' := Option.some.inj h; clear h; obtain ⟨ch, hch⟩ : ∃ ch, ch = kG aZ bz bS bW bB := ⟨_, rfl⟩; rw [Nf, ← hch] at h'; have HC := zn eX dZ aZ bz bS bW eB dW bB (w.alloc (.cells #[.slice eX aZ.length dZ, .int .i64 bz, .int .i64 bS, .int .i64 bW, .slice eB bB.length dW] 25)) (Kd.eT lZ (aV (Below.refl _ _) _)) nz (Kd.eT mf (aV (Below.refl _ _) _)) nD; rw [← hch] at HC; refine callsIn_wide (n := 10).1 ?_; refine callsIn_of_wp_marks Try.func21 rfl trivial ?_ rfl; simp only [Try.ntmps21, List.size_toArray, List.length_cons, List.length_nil, Nat.reduceAdd, Nat.reduceSub, Array.replicate_succ, Array.replicate_zero, List.push_toArray, List.append_toArray, List.nil_append, List.cons_append]
 gi_wp2_with (fail)
 refine ⟨trivial, ?_⟩; refine (callsIn_wide.2 HC).mono ?_; rintro e w1 ⟨rfl, hb⟩; have HW1 := aa.mk (eD (aV (Below.refl _ _) _) (by simp) hb); have hBx := (hb.block _ (bF (heap_alloc_new w (.cells #[.slice eX aZ.length dZ, .int .i64 bz, .int .i64 bS, .int .i64 bW, .slice eB bB.length dW] 25)))).trans (heap_alloc_new w _); have HBX := aa.mk hBx; have HR0 := aa.mk lZ; have HR4 := aa.mk mf; clear hBx hb HC lZ mf; by_cases h0 : ch = 0
 ·rw [if_pos h0] at h'; have hv := mE (hch.symm.trans h0); have HV := aa.mk hv; have HS := aa.mk (uk hv.2.2.2.2.1); subst h0; have HH := aa.mk h'; clear h' hv hch; have hz0 : w1.cell? ⟨w.heap.size, 0, none⟩ = some (.slice eX aZ.length dZ) := (ag HBX.out 0).trans rfl; have hz1 : w1.cell? ⟨w.heap.size, 1, none⟩ = some (.int .i64 bz) := (ag HBX.out 1).trans rfl; have hz2 : w1.cell? ⟨w.heap.size, 2, none⟩ = some (.int .i64 bS) := (ag HBX.out 2).trans rfl; have hz3 : w1.cell? ⟨w.heap.size, 3, none⟩ = some (.int .i64 bW) := (ag HBX.out 3).trans rfl; have hz4 : w1.cell? ⟨w.heap.size, 4, none⟩ = some (.slice eB bB.length dW) := (ag HBX.out 4).trans rfl; have hlt1 : w.heap.size < w1.heap.size := bF HBX.out
  gi_wp2_with (fail)
  refine ⟨trivial, ?_⟩; refine (BR _ _ _ _ _ _ _ _ _ _ _).mono ?_; rintro e w2 ⟨rfl, rfl⟩
  gi_wp2_with (fail)
  obtain ⟨bo, hbo⟩ : ∃ bo, bo = w1.heap.size := ⟨_, rfl⟩; have bO := (Boxed.new w1 3 (.int .i64 1048576)).alloc (.cells #[.slice eX aZ.length dZ, .int .i64 bz, .int .i64 bS, .int .i64 bW, .slice eB bB.length dW] 25)
  have bL : ((w1.alloc (.cells #[.int .i64 1048576] 3)).alloc (.cells #[.slice eX aZ.length dZ, .int .i64 bz, .int .i64 bS, .int .i64 bW, .slice eB bB.length dW] 25)).heap[w1.heap.size + 1]? = some (.cells #[.slice eX aZ.length dZ, .int .i64 bz, .int .i64 bS, .int .i64 bW, .slice eB bB.length dW] 25 (0, 0)) := by
   have := heap_alloc_new (w1.alloc (.cells #[.int .i64 1048576] 3)) (.cells #[.slice eX aZ.length dZ, .int .i64 bz, .int .i64 bS, .int .i64 bW, .slice eB bB.length dW] 25)
   rwa [World.size_alloc] at this
  have bX : ((w1.alloc (.cells #[.int .i64 1048576] 3)).alloc (.cells #[.slice eX aZ.length dZ, .int .i64 bz, .int .i64 bS, .int .i64 bW, .slice eB bB.length dW] 25)).heap[w.heap.size]? = some (.cells #[.slice eX aZ.length dZ, .int .i64 bz, .int .i64 bS, .int .i64 bW, .slice eB bB.length dW] 25 (0, 0)) := dm (dm HBX.out _) _; (have hsz : ((w1.alloc (.cells #[.int .i64 1048576] 3)).alloc (.cells #[.slice eX aZ.length dZ, .int .i64 bz, .int .i64 bS, .int .i64 bW, .slice eB bB.length dW] 25)).heap.size = bo + 2 := by simp [hbo]); have hB0 : Below w.heap.size w ((w1.alloc (.cells #[.int .i64 1048576] 3)).alloc (.cells #[.slice eX aZ.length dZ, .int .i64 bz, .int .i64 bS, .int .i64 bW, .slice eB bB.length dW] 25)) := aV (aV HW1.out _) _; (have hwb : w.heap.size < bo := by rw [hbo]; exact hlt1); rw [← hbo] at bL bO ⊢; obtain ⟨W0, hW0⟩ : ∃ W0, W0 = ((w1.alloc (.cells #[.int .i64 1048576] 3)).alloc (.cells #[.slice eX aZ.length dZ, .int .i64 bz, .int .i64 bS, .int .i64 bW, .slice eB bB.length dW] 25)) := ⟨_, rfl⟩; rw [← hW0] at bO bL bX hsz hB0 ⊢; clear hW0 hz0 hz1 hz2 hz3 hz4 hlt1 HBX hbo HW1
  refine wpIn_rangeFunc_ownH rfl (by omega) (gf := 73) (lb := #[.pointer (some ⟨bo + 1, 0, none⟩)]) rfl trivial (enters_of Try.func73 (by kernel_rfl) rfl)
   (uJ 9 (by omega) (bo + 1) w.heap.size eX dZ aZ bz bS bW eB dW bB HV.out.2.2.2.1 HS.out w W0 (Nat.le_refl _) HR0.out HR4.out hB0 (by omega) bL) MC (OJ (by omega)) (Below.refl _ _) (fun _ => rfl)
   (fun pre W => (Boxed W bo 3 (.int .i64 (pR aZ bz bS bB pre)) ∧ W.heap[bo + 1]? = some (.cells #[.slice eX aZ.length dZ, .int .i64 bz, .int .i64 bS, .int .i64 bW, .slice eB bB.length dW] 25 (0, 0)) ∧ W.heap[w.heap.size]? = some (.cells #[.slice eX aZ.length dZ, .int .i64 bz, .int .i64 bS, .int .i64 bW, .slice eB bB.length dW] 25 (0, 0))) ∧ Below w.heap.size w W)
   (fun _ _ _ => False)
   (OwnFrom.and (OwnFrom.and (Own.from (boxed_own bo 3 (fun pre => .int .i64 (pR aZ bz bS bB pre))) _) (OwnFrom.and (Own.from (tF _ _ _) _) (Own.from (tF _ _ _) _))) (ownFrom_below (Nat.le_refl _) (by omega)))
   (fun _ _ _ _ _ hs _ _ => hs)
   ⟨⟨bO, bL, bX⟩, hB0⟩
   (fun x a' W => ∃ Bx, bo + 1 < Bx ∧ nA W Bx (dL bz bS aZ bB x.1) ∧ a' = { tmps := #[.agg #[.slice eX aZ.length dZ, .int .i64 bz, .int .i64 bS, .int .i64 bW, .slice eB bB.length dW], .pointer (some ⟨w.heap.size, 0, none⟩), .int .i64 0, .int .i64 0, .int .i64 0, .pointer (some ⟨bo, 0, none⟩), .int .i64 (x.1 : Int), .pointer (some ⟨Bx, 0, none⟩), undef, undef, .agg #[.slice eX aZ.length dZ, .int .i64 bz, .int .i64 bS, .int .i64 bW, .slice eB bB.length dW], .int .i64 0, .int .i64 0, .bool false, undef, .agg #[.slice eX aZ.length dZ, .int .i64 bz, .int .i64 bS, .int .i64 bW, .slice eB bB.length dW], .func (.func 73) #[] #[.pointer (some ⟨bo + 1, 0, none⟩)], .int .i64 (x.1 : Int), .agg (nums .i64 (dL bz bS aZ bB x.1)).toArray, undef, undef, undef, undef, undef, undef, undef, undef, undef, undef, undef, undef, undef, undef, undef], defers := [] })
   (fun x a' _ X Y row hs hg hr => by obtain ⟨Bx, h1, h2, h3⟩ := hs; exact ⟨Bx, h1, ⟨h2.1, tF (β := Unit) Bx _ 97 () X Y row h2.2 hg (fun r e => (hr r e).2)⟩, h3⟩)
   ?assign ?body ?done ?stop
  case assign =>
   rintro l pre x W K ⟨⟨hv, hL, hX⟩, hB⟩ hK; dsimp only [Lt]; have hlen := iY bz bS bB (ah aZ (x.1 : Int)).f1 bB.length; (have hin : (Try.prog.info? 97).map (·.size) = some 64 := by kernel_rfl); have H64 := aa.mk (show (nums .i64 (dL bz bS aZ bB x.1)).toArray.size = 64 by simp [nums, dL, hlen]); have HIN := aa.mk hin; have HA := aa.mk (sU (dL bz bS aZ bB x.1)); clear hlen hin; have hK2 := aa.mk hK; clear hK
   gi_wp2_with (refine iF rfl 97 (.tmp 7) (.tmp 18) rfl W.heap.size _ rfl rfl 97 _ (heap_alloc_new W _) (by rw [H64.out]; exact HIN.out) (by rw [H64.out]; rfl) HA.out ?_)
   rw [lK]; refine hK2.out _ _ ((KeepsOthers.alloc _ _).from _) ⟨(Below.refl _ W).alloc hB.size _, fun o ho hc => dm ho _⟩ ⟨⟨hv.alloc _, dm hL _, dm hX _⟩, aV hB _⟩ ⟨W.heap.size, bF hL, ⟨iY _ _ _ _ _, heap_alloc_new W _⟩, rfl⟩
  case body =>
   rintro l pre x a' W hl ⟨r, hr⟩ ⟨⟨hv, hL, hX⟩, hB⟩ ⟨Bx, hBx, bN, rfl⟩ hlt; (have hin : (Try.prog.info? 97).map (·.size) = some 64 := by kernel_rfl); (have hin5 : (Try.prog.info? 95).map (·.size) = some 8 := by kernel_rfl); have H64 := aa.mk (show (nums .i64 (dL bz bS aZ bB x.1)).toArray.size = 64 by simp [nums, bN.1]); have HIN := aa.mk hin; have HIN5 := aa.mk hin5; have HV' := aa.mk hv; have HL := aa.mk hL; have HX := aa.mk hX; have HB := aa.mk hB; have HN := aa.mk bN; clear hin hin5 hv hL hB bN; have hz0 : W.cell? ⟨w.heap.size, 0, none⟩ = some (.slice eX aZ.length dZ) := (ag hX 0).trans rfl; have hz1 : W.cell? ⟨w.heap.size, 1, none⟩ = some (.int .i64 bz) := (ag hX 1).trans rfl; have hz2 : W.cell? ⟨w.heap.size, 2, none⟩ = some (.int .i64 bS) := (ag hX 2).trans rfl; have hz3 : W.cell? ⟨w.heap.size, 3, none⟩ = some (.int .i64 bW) := (ag hX 3).trans rfl; have hz4 : W.cell? ⟨w.heap.size, 4, none⟩ = some (.slice eB bB.length dW) := (ag hX 4).trans rfl; clear hX
   gi_wp2_with (refine nL rfl 97 (.tmp 7) rfl Bx rfl 97 _ (0, 0) _ HN.out.2 Try.underlying97 rfl (by rw [H64.out]; exact HIN.out) ?_)
   refine ⟨trivial, (CallsIn.inRound l (callsIn_wide.2 (sums.calls (-1) 0 eX dZ aZ bz bS bW eB bB.length dW x.1 (dL bz bS aZ bB x.1) W (Kd.eT HR0.out HB.out) x.2 HN.out.1 HV.out.2.2.2.1 (HS.out x.1 x.2)))).mono ?_⟩; rintro e w2 ⟨rfl, hb⟩; obtain ⟨es, hes⟩ : ∃ es, es = (gp (-1) 0 (dL bz bS aZ bB x.1) (ah aZ (x.1 : Int)).f1 bB.length).1 := ⟨_, rfl⟩; obtain ⟨tot, htot⟩ : ∃ tot, tot = (gp (-1) 0 (dL bz bS aZ bB x.1) (ah aZ (x.1 : Int)).f1 bB.length).2 := ⟨_, rfl⟩; rw [← hes, ← htot]; (have hel : es.length = 8 := by rw [hes]; exact jO _ _ _ _ _); have HE := aa.mk (show (nums .i64 es).toArray.size = 8 by simp [nums, hel]); have HA := aa.mk (sU es); have HT := aa.mk (show tot = ou aZ bz bS bB x.1 from htot); have hbw : Below W.heap.size W w2 := hb; have HBW := aa.mk hbw; have HX2 := aa.mk ((hb.block _ (bF HX.out)).trans HX.out); have hz3 : w2.cell? ⟨w.heap.size, 3, none⟩ = some (.int .i64 bW) := (ag HX2.out 3).trans rfl; have hlt3 : w.heap.size < w2.heap.size := bF HX2.out; clear hes htot hel hb hbw hz0 hz1 hz2 hz4; have HK2 := HV'.out.kept (jq HBW.out none) (by simp); have hv2 := HK2.alloc (.cells (nums .i64 es).toArray 95); (have hsz2 : (w2.alloc (.cells (nums .i64 es).toArray 95)).heap.size = w2.heap.size + 1 := by simp); have hBW2 : Below W.heap.size W (w2.alloc (.cells (nums .i64 es).toArray 95)) := aV HBW.out _; have hKO2 : KeepsOthers W (w2.alloc (.cells (nums .i64 es).toArray 95)) := kC hBW2; have HB2 := aa.mk (eD HB.out HB.out.size hBW2); have HL2 := aa.mk ((hBW2.block _ (bF HL.out)).trans HL.out); have HX3 := aa.mk ((hBW2.block _ (bF HX.out)).trans HX.out); have HBW2 := aa.mk hBW2; have HKO2 := aa.mk hKO2; have hcO := HK2.cell; have hltO : bo < w2.heap.size := HK2.lt; have HKO := aa.mk HK2; clear hKO2 hBW2 HK2 hv2
   gi_wp2_with (refine iF rfl 95 (.tmp 8) (.tmp 25) rfl w2.heap.size _ rfl rfl 95 _ (heap_alloc_new w2 _) (by rw [HE.out]; exact HIN5.out) (by rw [HE.out]; rfl) HA.out ?_; rw [lK])
   refine ⟨trivial, (CallsIn.inRound l (callsIn_wide.2 (zk (pR aZ bz bS bB pre) tot (w2.heap.size + 1) _ ?_))).mono ?_⟩
   ·have h := World.cell?_alloc_at (w := w2.alloc (.cells (nums .i64 es).toArray 95)) #[.int .i64 tot] 3 (w2.heap.size + 1) 0 (by simp); exact h.trans rfl
   rintro e w3 ⟨rfl, hb3⟩; have hb3' : Below (w2.alloc (.cells (nums .i64 es).toArray 95)).heap.size (w2.alloc (.cells (nums .i64 es).toArray 95)) w3 := eD (aV (Below.refl _ _) _) (by simp) hb3; have hv3 : Boxed w3 bo 3 (.int .i64 (pR aZ bz bS bB pre)) := (HKO.out.alloc (.cells (nums .i64 es).toArray 95)).kept (jq hb3' none) (by simp); have hBW3 := eD HBW2.out HBW2.out.size hb3'; have HB3 := aa.mk (eD HB.out HB.out.size hBW3); have HL3 := aa.mk ((hBW3.block _ (bF HL.out)).trans HL.out); have HX4 := aa.mk ((hBW3.block _ (bF HX.out)).trans HX.out); have HBW3 := aa.mk hBW3; have HV3 := aa.mk hv3; have hc3 := hv3.cell; have hf3 := hv3.frozen; clear hb3 hb3' hBW3 hv3 hcO hltO
   gi_wp2_with (fail)
   refine ⟨((kC HBW3.out).trans (KeepsOthers.setCell _ _ _)).from _, ⟨(HBW3.out.mono HB.out.size).setCell (p := ⟨bo, 0, none⟩) (by simp; omega) _, fun o ho hc => ?_⟩, ⟨?_, bC HL3.out (by simp) _, bC HX4.out (by simp; omega) _⟩, HB3.out.setCell (p := ⟨bo, 0, none⟩) (by simp; omega) _⟩
   ·rw [HL.out] at ho; cases ho; exact bC HL3.out (by simp) _
   ·rw [FE, ← HT.out]; exact HV3.out.set _
  case done =>
   rintro D ys W hD rfl ⟨⟨hv, hL, hX⟩, hB⟩ hK; have hc := hv.cell; have HB := aa.mk hB; obtain ⟨bs, hbs⟩ : ∃ bs, bs = pR aZ bz bS bB (List.finRange aZ.length) := ⟨_, rfl⟩; rw [← hbs] at hc; have HH' := HH; rw [← hbs] at HH'; have HKD := aa.mk hK; clear hbs hX hL hB HH hK hv; have hh := HH'.out; by_cases h0 : bs ≥ 1048576
   ·rw [if_pos h0] at hh; simp only [Prod.mk.injEq] at hh; obtain ⟨rfl, rfl⟩ := hh; have hz : decide (1048576 ≤ bs) = true := decide_eq_true h0; clear h0 HH'
    gi_wp2_with (fail)
    refine ⟨by simp, .inl ⟨_, _, rfl, run_takeDeferred HKD.out, ?_⟩⟩; exact ⟨_, results_tmp2 rfl _ _ _, rfl, HB.out.trans (belowK_b (w := w) (Nat.le_refl _) W D _ _ (by omega) HKD.out rfl rfl)⟩
   ·rw [if_neg h0] at hh; simp only [Prod.mk.injEq] at hh; obtain ⟨rfl, rfl⟩ := hh; have hz : decide (1048576 ≤ bs) = false := decide_eq_false h0; clear h0 HH'
    gi_wp2_with (fail)
    refine ⟨by simp, .inl ⟨_, _, rfl, run_takeDeferred HKD.out, ?_⟩⟩; exact ⟨_, results_tmp2 rfl _ _ _, rfl, HB.out.trans (belowK_b (w := w) (Nat.le_refl _) W D _ _ (by omega) HKD.out rfl rfl)⟩
  case stop =>
   rintro D c pre W _ _ h _; exact h.elim
 ·rw [if_neg h0] at h'; simp only [Prod.mk.injEq] at h'; obtain ⟨rfl, rfl⟩ := h'; (have hd : (ch == 0) = false := by simp [h0]); (have hd2 : (ch != 0) = true := by simp [h0]); clear h0 hch
  gi_wp2_with (fail)
  exact ⟨_, results_tmp2 rfl _ _ _, rfl, HW1.out⟩
end Go.Proofs.Ytihedeofkhapiaa.Pr
end
section
namespace Go.Proofs.Ytihedeofkhapiaa.Pr
open Go.RowKit Go.Proofs.YtihedeofkhapiaaW.PrintWords Go.Proofs.YtihedeofkhapiaaW.PrintLast Go.Proofs.YtihedeofkhapiaaW.PrintMore
attribute [local go_sem] ol nV qa qb mK mF oq om
def bH.l0 : Nat → List Int → Int → Int → List (S66) → Int → Int → Int → List (List (S27)) → Int → Int → Option (Int × Int × Int)
 | 0, _, _, _, _, _, _, _, _, _, _ => none
 | k + 1, x27, x28, x29, Ab, Tn, TQ, Q4, Ul, IX, Ku => if x29 < x28 then (if 0 ≤ x29 then (if x29 < (x27.length : Int) then (if 0 ≤ (rd x27 x29) then (if (rd x27 x29) < (Ab.length : Int) then ((bG.f k IX (([(ah Ab (rd x27 x29)).f0.f0] : List Int))).bind fun Au => (bH.l0 k x27 x28 (wrap64 (x29 + 1)) Ab Tn TQ Q4 Ul Au (mx Ku ((ah Ab (rd x27 x29)).f0.f1)))) else (none)) else (none)) else (none)) else (none)) else (some (IX, Ku, 0))
def bH.f (k : Nat) (aZ : List (S66)) (bz : Int) (bS : Int) (bW : Int) (bB : List (List (S27))) : Option (Int × Int × Int) := (fA.f aZ bz bS bW bB).bind fun nZ => (if nZ.2 = 0 then (if 0 < (nZ.1.length : Int) then (if 0 ≤ (rd nZ.1 0) then (if (rd nZ.1 0) < (aZ.length : Int) then (bH.l0 k nZ.1 (nZ.1.length : Int) 0 aZ bz bS bW bB ((ah aZ (rd nZ.1 0)).f0.f0) ((ah aZ (rd nZ.1 0)).f0.f1)) else (none)) else (none)) else (none)) else (some (0, 0, nZ.2)))
theorem bH.fO : ∀ k, (∀ y0 y1 y2 y3 y4 y5 y6 y7 y8 y9, LeO (bH.l0 k y0 y1 y2 y3 y4 y5 y6 y7 y8 y9) (bH.l0 (k + 1) y0 y1 y2 y3 y4 y5 y6 y7 y8 y9))
 | 0 => fun _ _ _ _ _ _ _ _ _ _ r h => by simp [bH.l0] at h
 | k + 1 => by
  have ih0 := bH.fO k
  ·intro y0 y1 y2 y3 y4 y5 y6 y7 y8 y9; unfold bH.l0
   repeat' first | (with_reducible exact ih0 _ _ _ _ _ _ _ _ _ _) | (with_reducible exact bG.mono _ _ _) | (with_reducible exact LeO.refl _) | (with_reducible refine LeO.ite ?_ ?_) | (with_reducible refine LeO.bind ?_ (fun _ => ?_))
theorem bH.mono : ∀ a0 a1 a2 a3 a4 k, LeO (bH.f k a0 a1 a2 a3 a4) (bH.f (k + 1) a0 a1 a2 a3 a4) := by
 intro a0 a1 a2 a3 a4 k; have ih0 := bH.fO k; unfold bH.f
 repeat' first | (with_reducible exact ih0 _ _ _ _ _ _ _ _ _ _) | (with_reducible exact LeO.refl _) | (with_reducible refine LeO.ite ?_ ?_) | (with_reducible refine LeO.bind ?_ (fun _ => ?_))
def bH.T4 : Bool × List (List Nat × List Nat) := (true, [([], []), ([0], [0]), ([], []), ([2], [2]), ([3], [3]), ([1, 4], [1, 4]), ([5], [5]), ([6], [6]), ([], []), ([8, 7, 0, 1, 2, 3, 4, 5, 6, 7, 8], [7, 8])])
def bH.B4 : List Nat := [0, 1, 0, 4, 12, 31, 63, 127, 0, 511]
theorem bH.af3 : ow .any (opsOf Try.f34 4) = bH.T4 := by kernel_rfl
theorem bH.abq : mX bH.T4.2 bH.B4 = true := by kernel_rfl
def bH.T9 : Bool × List (List Nat × List Nat) := (true, [([], []), ([0], [0]), ([], []), ([2], [2]), ([3], [3]), ([1, 4], [1, 4]), ([], []), ([6], [6]), ([], []), ([8], [8]), ([7, 9], [7, 9]), ([5, 10], [5, 10]), ([11, 5, 0, 1, 2, 3, 4, 5, 6, 7, 8, 9, 10, 11], [11])])
def bH.B9 : List Nat := [0, 1, 0, 4, 12, 31, 0, 64, 0, 256, 960, 2047, 4095]
theorem bH.WP : ow .any (opsOf Try.f34 9) = bH.T9 := by kernel_rfl
theorem bH.OQ : mX bH.T9.2 bH.B9 = true := by kernel_rfl
set_option maxHeartbeats 8000000 in
set_option maxRecDepth 100000 in
theorem bH.calls (k : Nat) (eX : Option Addr) (dZ : Nat) (aZ : List (S66)) (bz : Int) (bS : Int) (bW : Int) (eB : Option Addr) (dW : Nat) (bB : List (List (S27))) (r1 : Int) (r2 : Int) (r3 : Int) (w : World) (lZ : Kd.C k66 w eX aZ.length aZ) (nz : aZ.length ≤ dZ) (mf : Kd.C (Kd.slice 27 k27) w eB bB.length bB) (nD : bB.length ≤ dW) (h : bH.f k aZ bz bS bW bB = some (r1, r2, r3)) :
 Calls Try.prog 34 #[.agg #[.slice eX aZ.length dZ, .int .i64 bz, .int .i64 bS, .int .i64 bW, .slice eB bB.length dW]] w fun e w' => e = .returned (.tuple #[.agg #[.int .i64 r1, .int .i64 r2], .int .i64 r3]) ∧ Below w.heap.size w w' := by
 have hu25 := Try.underlying25; have hu63 := Try.underlying63; have pU := aa.mk lZ; have uW := aa.mk nz; clear lZ nz; have ry := aa.mk mf; have uT := aa.mk nD; clear mf nD; have HB := aa.mk (Below.refl w.heap.size w); have H : ((fA.f aZ bz bS bW bB).bind fun nZ => (if nZ.2 = 0 then (if 0 < (nZ.1.length : Int) then (if 0 ≤ (rd nZ.1 0) then (if (rd nZ.1 0) < (aZ.length : Int) then (bH.l0 k nZ.1 (nZ.1.length : Int) 0 aZ bz bS bW bB ((ah aZ (rd nZ.1 0)).f0.f0) ((ah aZ (rd nZ.1 0)).f0.f1)) else (none)) else (none)) else (none)) else (some (0, 0, nZ.2)))) = some (r1, r2, r3) := h; clear h; replace H := Option.bind_eq_some_iff.mp H; obtain ⟨⟨fQ, Gs⟩, A20, H⟩ := H; dsimp only at H; have A2 := aa.mk A20; clear A20; by_cases c3 : Gs = 0
 ·rw [if_pos c3] at H; have rX : (Gs == 0) = true := beq_iff_eq.mpr c3; have Cj : (Gs != 0) = false := bne_eq_false_iff_eq.mpr c3; clear c3; by_cases c4 : 0 < (fQ.length : Int)
  ·rw [if_pos c4] at H; have zI : decide (0 < (fQ.length : Int)) = true := decide_eq_true c4; have Xi : decide (0 < fQ.length) = true := decide_eq_true (by omega); clear c4; by_cases c5 : 0 ≤ (rd fQ 0)
   ·rw [if_pos c5] at H; have BS : decide (0 ≤ (rd fQ 0)) = true := decide_eq_true c5; clear c5; by_cases c6 : (rd fQ 0) < (aZ.length : Int)
    ·rw [if_pos c6] at H; have K9 : decide ((rd fQ 0) < (aZ.length : Int)) = true := decide_eq_true c6; clear c6; have H' := aa.mk H; clear H; go_enter Try.func34, Try.ntmps34; (go_wp2_with (first | ((with_reducible refine dh (N := 1) rfl ?_); refine dA ?hg (N := 1) ?hd (cs := #[.slice eX aZ.length dZ, .int .i64 bz, .int .i64 bS, .int .i64 bW, .slice eB bB.length dW]) (t := 25) ?hr ?_; (case hd => rfl); (case hg => rfl); (case hr => (go_simp; done)); intro kM hg w7 hbox hb; have gD := aa.mk (hbox); have YY := aa.mk ((by rw [hg]; exact (az (by exact HB.out)) : w.heap.size ≤ kM)); have ZP := aa.mk ((by rw [hg]; exact (az (by exact HB.out)) : w.heap.size ≤ kM)); replace HB := aa.mk (aW (by exact HB.out) hb); clear hb hbox hg) | ((with_reducible refine dh (N := 2) rfl ?_); refine dA ?hg (N := 2) ?hd (cs := #[.int .i64 0, .int .i64 0]) (t := 63) ?hr ?_; (case hd => rfl); (case hg => rfl); (case hr => (go_simp; done)); intro mQ hg w8 hbox hb; have jF := aa.mk (hbox); have aaW := aa.mk ((by rw [hg]; exact (az (by exact HB.out)) : w.heap.size ≤ mQ)); have NZ := aa.mk ((by rw [hg]; exact (az (by exact HB.out)) : w.heap.size ≤ mQ)); replace HB := aa.mk (aW (by exact HB.out) hb); have sI := aa.mk ((by rw [hg]; exact Nat.ne_of_lt (bF (g := kM) (o := .cells #[.slice eX aZ.length dZ, .int .i64 bz, .int .i64 bS, .int .i64 bW, .slice eB bB.length dW] 25 (0, 0)) (bU gD.out)) : kM ≠ mQ)); have sw := aa.mk ((by rw [hg]; exact Nat.ne_of_gt (bF (g := kM) (o := .cells #[.slice eX aZ.length dZ, .int .i64 bz, .int .i64 bS, .int .i64 bW, .slice eB bB.length dW] 25 (0, 0)) (bU gD.out)) : mQ ≠ kM)); replace gD := aa.mk (aG (bU gD.out) hb); clear hb hbox hg; have aid := sI.out; have ah0 := sw.out; obtain ⟨Q0, RO, Tx, TG, RQ, TC, Uj, SY, Q6, Ry⟩ := cells5 gD.out) | ((with_reducible refine bT (f := 58) rfl ?_); refine fC (some 12) rfl rfl Try.func58 (by kernel_rfl) rfl #[.agg #[.slice eX aZ.length dZ, .int .i64 bz, .int .i64 bS, .int .i64 bW, .slice eB bB.length dW]] rfl (by (simp only [List.map_toArray, List.map_cons, List.map_nil]); rfl) ?_; (with_reducible refine (fA.calls _ _ aZ bz bS bW _ _ bB fQ Gs _ ?side1 ?side2 ?side3 ?side4 A2.out).mono ?_); (case side1 => repeat (exact (Kd.eT pU.out HB.out))); (case side2 => exact uW.out); (case side3 => repeat (exact (Kd.eT ry.out HB.out))); (case side4 => exact uT.out); rintro e w11 ⟨afW, rfl, ho0, hb⟩; refine ⟨_, rfl, ?_⟩; have uP := aa.mk (Kd.fI ho0 (az (by exact HB.out))); replace gD := aa.mk (aG (bU gD.out) hb); replace jF := aa.mk (aG (bU jF.out) hb); replace HB := aa.mk (aW (by exact HB.out) hb); clear hb; (clear ho0)))); replace uP := aa.mk (Kd.qz uP.out); replace gD := aa.mk (dQ gD.out); replace jF := aa.mk (dQ jF.out); replace HB := aa.mk (dD HB.out); obtain ⟨Dt, sO, VD⟩ := Kd.fu uP.out; (subst VD); have Tp : 0 ≤ (0 : Int) := (by omega); have SC : 0 < (fQ.length : Int) := of_decide_eq_true (by with_reducible assumption); obtain ⟨Jb, e857, xx⟩ := Kd.ul (Kd.dM uP.out).2.2 0 Tp SC; cases e857; have qi857 : (0 < fQ.length) = True := eq_true (by omega); (rw [show ((0 : Int)).toNat = 0 from rfl] at xx); (rw [Addr.add_zero'] at xx); replace Tp := eq_true Tp; replace SC := eq_true SC; have QV : 0 ≤ ((rd fQ 0) : Int) := of_decide_eq_true (by with_reducible assumption); have TH : (rd fQ 0) < (aZ.length : Int) := of_decide_eq_true (by with_reducible assumption); obtain ⟨sJ, A858_2, c858_2, e858, vR, vH, vQ, I8, Jz⟩ := oM pU.out (rd fQ 0) QV TH; have hw858_2 := vQ; have hw858_1 := vH; have hw858_0 := vR; cases e858; replace vR := (HB.out.cell (World.block_lt_of_cell? w _ vR)).trans vR; replace vH := (HB.out.cell (World.block_lt_of_cell? w _ vH)).trans vH; replace vQ := (HB.out.cell (World.block_lt_of_cell? w _ vQ)).trans vQ; have Qj := aa.mk Jz; have acP := aa.mk I8; clear Jz I8; replace QV := eq_true QV; replace TH := eq_true TH; refine rP (n := 10) (S := fun w' => w'.cell? ⟨kM, 0, none⟩ = some (.slice (some sJ) aZ.length dZ) ∧ w'.cell? ⟨kM, 1, none⟩ = some (.int .i64 bz) ∧ w'.cell? ⟨kM, 2, none⟩ = some (.int .i64 bS) ∧ w'.cell? ⟨kM, 3, none⟩ = some (.int .i64 bW) ∧ w'.cell? ⟨kM, 4, none⟩ = some (.slice eB bB.length dW) ∧ w'.cell? Jb = some (.int .i64 (rd fQ 0)) ∧ w'.cell? (sJ.add (((rd fQ 0)).toNat * 3)) = some (.int .i64 ((ah aZ (rd fQ 0)).f0.f0)) ∧ w'.cell? ⟨(sJ.add (((rd fQ 0)).toNat * 3)).block, (sJ.add (((rd fQ 0)).toNat * 3)).off + 1, none⟩ = some (.int .i64 ((ah aZ (rd fQ 0)).f0.f1)) ∧ w'.cell? ⟨(sJ.add (((rd fQ 0)).toNat * 3)).block, (sJ.add (((rd fQ 0)).toNat * 3)).off + 2, none⟩ = some (.slice A858_2 ((ah aZ (rd fQ 0)).f1).length c858_2)) (ds := []) #[false, false, false, false, false, false, false, false, false, false] (by kernel_rfl) rfl rfl ⟨(ag gD.out 0).trans rfl, (ag gD.out 1).trans rfl, (ag gD.out 2).trans rfl, (ag gD.out 3).trans rfl, (ag gD.out 4).trans rfl, xx, ((HB.out.cell (World.block_lt_of_cell? w _ hw858_0)).trans hw858_0), ((HB.out.cell (World.block_lt_of_cell? w _ hw858_1)).trans hw858_1), ((HB.out.cell (World.block_lt_of_cell? w _ hw858_2)).trans hw858_2)⟩ (fun cz => ?_); refine nH bH.af3 bH.abq (fun HT_ HW_ => ?_); generalize w11.drew = w12 at uP gD jF HB Qj xx vR vH vQ cz ⊢; refine eY (i := 0) (N := some 19) (v := ?_) (a' := ?_) #[true, false, false, false, false, false, false, false, false, false] rfl rfl (dP HT_.out (by kernel_rfl)) (fun _ _ _ h => h) (Or.inl ⟨by rfl, ?_⟩) ?_ ?_; rotate_left
     ·intro w'; go_simp; with_reducible rfl
     rotate_left
     ·simp only [Act.put, List.setIfInBounds_toArray, List.set_cons_zero, List.set_cons_succ, cu, cZ]; rfl
     refine eY (i := 2) (N := some 21) (v := ?_) (a' := ?_) #[true, false, true, false, false, false, false, false, false, false] rfl rfl (dP HT_.out (by kernel_rfl)) (fun _ _ _ h => h) (Or.inl ⟨by rfl, ?_⟩) ?_ ?_; rotate_left
     ·intro w'; go_simp; with_reducible rfl
     rotate_left
     ·simp only [Act.put, List.setIfInBounds_toArray, List.set_cons_zero, List.set_cons_succ, cu, cZ]; rfl
     refine eY (i := 3) (N := some 22) (v := ?_) (a' := ?_) #[true, false, true, true, false, false, false, false, false, false] rfl rfl (dP HT_.out (by kernel_rfl)) (fun _ _ _ h => h) (Or.inl ⟨by rfl, ?_⟩) ?_ ?_; rotate_left
     ·intro w'; go_simp; with_reducible rfl
     rotate_left
     ·simp only [Act.put, List.setIfInBounds_toArray, List.set_cons_zero, List.set_cons_succ, cu, cZ]; rfl
     refine kJ (i := 1) (N := some 20) (v := ?_) (a' := ?_) #[true, true, true, true, false, false, false, false, false, false] rfl rfl (gW HT_.out HW_.out (by kernel_rfl)) (fun _ _ _ h => h) (Or.inl ⟨by rfl, ?_⟩) cz ?_ ?_; rotate_left
     ·rintro w' ⟨s0, s1, s2, s3, s4, s5, s6, s7, s8⟩; go_simp; with_reducible rfl
     rotate_left
     ·simp only [Act.put, List.setIfInBounds_toArray, List.set_cons_zero, List.set_cons_succ, cu, cZ]; rfl
     refine kJ (i := 4) (N := some 23) (v := ?_) (a' := ?_) #[true, true, true, true, true, false, false, false, false, false] rfl rfl (gW HT_.out HW_.out (by kernel_rfl)) (fun _ _ _ h => h) (Or.inl ⟨by rfl, ?_⟩) cz ?_ ?_; rotate_left
     ·rintro w' ⟨s0, s1, s2, s3, s4, s5, s6, s7, s8⟩; go_simp; with_reducible rfl
     rotate_left
     ·simp only [Act.put, List.setIfInBounds_toArray, List.set_cons_zero, List.set_cons_succ, cu, cZ]; rfl
     refine eY (i := 5) (N := some 24) (v := ?_) (a' := ?_) #[true, true, true, true, true, true, false, false, false, false] rfl rfl (dP HT_.out (by kernel_rfl)) (fun _ _ _ h => h) (Or.inl ⟨by rfl, ?_⟩) ?_ ?_; rotate_left
     ·intro w'; go_simp; with_reducible rfl
     rotate_left
     ·simp only [Act.put, List.setIfInBounds_toArray, List.set_cons_zero, List.set_cons_succ, cu, cZ]; rfl
     refine eY (i := 6) (N := some 25) (v := ?_) (a' := ?_) #[true, true, true, true, true, true, true, false, false, false] rfl rfl (dP HT_.out (by kernel_rfl)) (fun _ _ _ h => h) (Or.inl ⟨by rfl, ?_⟩) ?_ ?_; rotate_left
     ·intro w'; go_simp; with_reducible rfl
     rotate_left
     ·simp only [Act.put, List.setIfInBounds_toArray, List.set_cons_zero, List.set_cons_succ, cu, cZ]; rfl
     refine kJ (i := 7) (N := some 26) (v := ?_) (a' := ?_) #[true, true, true, true, true, true, true, true, false, false] rfl rfl (gW HT_.out HW_.out (by kernel_rfl)) (fun _ _ _ h => h) (Or.inl ⟨by rfl, ?_⟩) cz ?_ ?_; rotate_left
     ·rintro w' ⟨s0, s1, s2, s3, s4, s5, s6, s7, s8⟩; go_simp; with_reducible rfl
     rotate_left
     ·simp only [Act.put, List.setIfInBounds_toArray, List.set_cons_zero, List.set_cons_succ, cu, cZ]; rfl
     refine qd (i := 8) (N := some 6) #[true, true, true, true, true, true, true, true, true, false] rfl rfl (iQ HT_.out (by kernel_rfl)) (by decide) (fun K hK => ?_); refine MF ?hg (N := 6) ?hd (cs := #[.int .i64 0, .int .i64 0]) (t := 63) ?hr ?_; (case hd => rfl); (case hg => rfl); (case hr => (go_simp; done)); intro iO hg w14 hbox hb; have HS5_ := (hb.cell (World.block_lt_of_cell? _ _ (cz.2.2.2.2.2.1))).trans (cz.2.2.2.2.2.1); replace uP := aa.mk (Kd.eO (rU uP.out) hb); have jl := aa.mk (hbox); have CG := aa.mk ((by rw [hg]; exact (az (by exact HB.out)) : w.heap.size ≤ iO)); have UJ := aa.mk ((by rw [hg]; exact (az (by exact HB.out)) : w.heap.size ≤ iO)); replace HB := aa.mk (aW (by exact HB.out) hb); have gJ := aa.mk ((by rw [hg]; exact Nat.ne_of_lt (bF (g := kM) (o := .cells #[.slice (some sJ) aZ.length dZ, .int .i64 bz, .int .i64 bS, .int .i64 bW, .slice eB bB.length dW] 25 (0, 0)) (bU gD.out)) : kM ≠ iO)); have qx := aa.mk ((by rw [hg]; exact Nat.ne_of_gt (bF (g := kM) (o := .cells #[.slice (some sJ) aZ.length dZ, .int .i64 bz, .int .i64 bS, .int .i64 bW, .slice eB bB.length dW] 25 (0, 0)) (bU gD.out)) : iO ≠ kM)); replace gD := aa.mk (aG (bU gD.out) hb); have mr := aa.mk ((by rw [hg]; exact Nat.ne_of_lt (bF (g := mQ) (o := .cells #[.int .i64 0, .int .i64 0] 63 (0, 0)) (bU jF.out)) : mQ ≠ iO)); have sP := aa.mk ((by rw [hg]; exact Nat.ne_of_gt (bF (g := mQ) (o := .cells #[.int .i64 0, .int .i64 0] 63 (0, 0)) (bU jF.out)) : iO ≠ mQ)); replace jF := aa.mk (aG (bU jF.out) hb); clear hb hbox hg; refine hK.out _ _ ⟨(ag gD.out 0).trans rfl, (ag gD.out 1).trans rfl, (ag gD.out 2).trans rfl, (ag gD.out 3).trans rfl, (ag gD.out 4).trans rfl, HS5_, ((HB.out.cell (World.block_lt_of_cell? w _ hw858_0)).trans hw858_0), ((HB.out.cell (World.block_lt_of_cell? w _ hw858_1)).trans hw858_1), ((HB.out.cell (World.block_lt_of_cell? w _ hw858_2)).trans hw858_2)⟩ (fun cz => ?_); clear hK K; refine gI (a' := ?_) ?_ ?_; rotate_left
     ·show Act.put _ (some 6) _ = _; simp only [Act.put, List.setIfInBounds_toArray, List.set_cons_zero, List.set_cons_succ, cu, cZ]; rfl
     refine qd (i := 9) (N := none) #[true, true, true, true, true, true, true, true, true, true] rfl rfl (iQ HT_.out (by kernel_rfl)) (by decide) (fun K hK => ?_); have hs15 : w14.cell? ⟨iO, 0, none⟩ = some (.int .i64 0) := (ag jl.out 0).trans rfl; have hfs15 := aM jl.out 0; have hns15_0 := gJ.out; have hns15_1 := mr.out; have hms15_0 := qx.out; have hms15_1 := sP.out; have hs16 : w14.cell? ⟨iO, 1, none⟩ = some (.int .i64 0) := (ag jl.out 1).trans rfl; have hfs16 := aM jl.out 1; have hns16_0 := gJ.out; have hns16_1 := mr.out; have hms16_0 := qx.out; have hms16_1 := sP.out; refine wJ (w1 := ?_) (by rfl) rfl ?_ ?_; rotate_left
     ·go_simp; rfl
     refine hK.out _ _ ⟨((cell_far (p := ⟨iO, _, none⟩) gJ.out _).trans (((cell_far (p := ⟨iO, _, none⟩) gJ.out _).trans (cz.1)))), ((cell_far (p := ⟨iO, _, none⟩) gJ.out _).trans (((cell_far (p := ⟨iO, _, none⟩) gJ.out _).trans (cz.2.1)))), ((cell_far (p := ⟨iO, _, none⟩) gJ.out _).trans (((cell_far (p := ⟨iO, _, none⟩) gJ.out _).trans (cz.2.2.1)))), ((cell_far (p := ⟨iO, _, none⟩) gJ.out _).trans (((cell_far (p := ⟨iO, _, none⟩) gJ.out _).trans (cz.2.2.2.1)))), ((cell_far (p := ⟨iO, _, none⟩) gJ.out _).trans (((cell_far (p := ⟨iO, _, none⟩) gJ.out _).trans (cz.2.2.2.2.1)))), ((cell_far (p := ⟨iO, _, none⟩) (by exact Kd.Eu (Kd.mP uP.out jl.out (by decide))) _).trans (((cell_far (p := ⟨iO, _, none⟩) (by exact Kd.Eu (Kd.mP uP.out jl.out (by decide))) _).trans (cz.2.2.2.2.2.1)))), ((cell_far (p := ⟨iO, _, none⟩) (by exact Nat.ne_of_lt (Nat.lt_of_lt_of_le (by have := World.block_lt_of_cell? _ _ hw858_0; exact this) CG.out)) _).trans (((cell_far (p := ⟨iO, _, none⟩) (by exact Nat.ne_of_lt (Nat.lt_of_lt_of_le (by have := World.block_lt_of_cell? _ _ hw858_0; exact this) CG.out)) _).trans (cz.2.2.2.2.2.2.1)))), ((cell_far (p := ⟨iO, _, none⟩) (by exact Nat.ne_of_lt (Nat.lt_of_lt_of_le (by have := World.block_lt_of_cell? _ _ hw858_1; exact this) CG.out)) _).trans (((cell_far (p := ⟨iO, _, none⟩) (by exact Nat.ne_of_lt (Nat.lt_of_lt_of_le (by have := World.block_lt_of_cell? _ _ hw858_1; exact this) CG.out)) _).trans (cz.2.2.2.2.2.2.2.1)))), ((cell_far (p := ⟨iO, _, none⟩) (by exact Nat.ne_of_lt (Nat.lt_of_lt_of_le (by have := World.block_lt_of_cell? _ _ hw858_2; exact this) CG.out)) _).trans (((cell_far (p := ⟨iO, _, none⟩) (by exact Nat.ne_of_lt (Nat.lt_of_lt_of_le (by have := World.block_lt_of_cell? _ _ hw858_2; exact this) CG.out)) _).trans (cz.2.2.2.2.2.2.2.2))))⟩ (fun cz => ?_); clear hK K; refine wG (rq HT_.out (by kernel_rfl)) ?_; go_wp2; (go_loopg [29] k (fun kq v29 w' => ∃ (fZ : Int) (jy : Int) (ji : Int), v29 = .int .i64 fZ ∧ aa (bH.l0 kq fQ (fQ.length : Int) fZ aZ bz bS bW bB jy ji = some (r1, r2, r3)) ∧ aa (kq ≤ k) ∧ aa (Kd.R (Kd.int .i64) 3 w' w.heap.size (fun _ => True) (.slice (some Jb) fQ.length sO) fQ) ∧ aa (w'.heap[kM]? = some (.cells #[(.slice (some sJ) aZ.length dZ), .int .i64 bz, .int .i64 bS, .int .i64 bW, (.slice eB bB.length dW)] 25 (0, 0))) ∧ aa (w'.heap[mQ]? = some (.cells #[.int .i64 0, .int .i64 0] 63 (0, 0))) ∧ aa (w'.heap[iO]? = some (.cells #[.int .i64 jy, .int .i64 ji] 63 (0, 0))) ∧ aa (Below w.heap.size w w'))); case atStart => exact ⟨(0), ((ah aZ (rd fQ 0)).f0.f0), ((ah aZ (rd fQ 0)).f0.f1), (by rfl), H', ⟨Nat.le_refl _⟩, ⟨by (with_reducible skip); exact Kd.df (Kd.jP (p := ⟨iO, 1, none⟩) (Kd.jP (p := ⟨iO, 0, none⟩) (Kd.ek uP.out jl.out (by decide)) (fun _ hk => hk.2) (.int .i64 ((ah aZ (rd fQ 0)).f0.f0))) (fun _ hk => hk.2) (.int .i64 ((ah aZ (rd fQ 0)).f0.f1))) (fun _ hk => trivial)⟩, ⟨by (with_reducible skip); refine bC ?_ gJ.out _; (with_reducible skip); refine bC ?_ gJ.out _; (with_reducible skip); exact gD.out⟩, ⟨by (with_reducible skip); refine bC ?_ mr.out _; (with_reducible skip); refine bC ?_ mr.out _; (with_reducible skip); exact jF.out⟩, ⟨by (with_reducible skip); refine bR (cs := #[.int .i64 ((ah aZ (rd fQ 0)).f0.f0), .int .i64 0]) ?_ 1 _ rfl; (with_reducible skip); refine bR (cs := #[.int .i64 0, .int .i64 0]) ?_ 0 _ rfl; (with_reducible skip); exact jl.out⟩, ⟨by repeat ((with_reducible first | exact HB.out | refine bV ?_ UJ.out))⟩⟩
     case round =>
      clear H' rX Cj zI Xi BS K9 Q0 RO Tx TG RQ TC Uj SY Q6 Ry xx vR vH vQ Tp QV SC TH; obtain ⟨fZ, jy, ji, rfl, HA, HK1, qJ, gD, jF, jl, HB⟩ := hrel
      cases gk with
      | zero => exact absurd HA.out (by simp [bH.l0])
      | succ k1 =>
       have H := HA.out; clear HA; simp only [bH.l0] at H; by_cases c17 : fZ < (fQ.length : Int)
       ·rw [if_pos c17] at H; have Cx : decide (fZ < (fQ.length : Int)) = true := decide_eq_true c17; clear c17; by_cases c18 : 0 ≤ fZ
        ·rw [if_pos c18] at H; have CW : decide (0 ≤ fZ) = true := decide_eq_true c18; clear c18; by_cases c19 : fZ < (fQ.length : Int)
         ·rw [if_pos c19] at H; have NB : decide (fZ < (fQ.length : Int)) = true := decide_eq_true c19; clear c19; by_cases c20 : 0 ≤ (rd fQ fZ)
          ·rw [if_pos c20] at H; have ahO : decide (0 ≤ (rd fQ fZ)) = true := decide_eq_true c20; clear c20; by_cases c21 : (rd fQ fZ) < (aZ.length : Int)
           ·rw [if_pos c21] at H; have ahF : decide ((rd fQ fZ) < (aZ.length : Int)) = true := decide_eq_true c21; clear c21; obtain ⟨VK, Og⟩ : ∃ y_ : List Int, y_ = (([(ah aZ (rd fQ fZ)).f0.f0] : List Int)) := ⟨_, rfl⟩; (replace H : ((bG.f k1 jy VK).bind fun Au => (bH.l0 k1 fQ (fQ.length : Int) (wrap64 (fZ + 1)) aZ bz bS bW bB Au (mx ji ((ah aZ (rd fQ fZ)).f0.f1)))) = some (r1, r2, r3) := by (rw [Og]; with_reducible exact H)); have YL := aa.mk Og; clear Og; replace H := Option.bind_eq_some_iff.mp H; obtain ⟨Au, Zg, H⟩ := H; have A22 := aa.mk Zg; clear Zg; obtain ⟨RS, Vy⟩ : ∃ j_ : Int, (mx ji ((ah aZ (rd fQ fZ)).f0.f1)) = j_ := ⟨_, rfl⟩; (replace H : (bH.l0 k1 fQ (fQ.length : Int) (wrap64 (fZ + 1)) aZ bz bS bW bB Au RS) = some (r1, r2, r3) := by (rw [Vy] at H; exact H)); (skip); have afY : (if ji < ((ah aZ (rd fQ fZ)).f0.f1) then ((ah aZ (rd fQ fZ)).f0.f1) else ji) = RS := Vy; have H' := aa.mk H; clear H; have XI : 0 ≤ (fZ : Int) := of_decide_eq_true (by with_reducible assumption); have VM : fZ < (fQ.length : Int) := of_decide_eq_true (by with_reducible assumption); obtain ⟨ZM, e860, abV⟩ := Kd.ul (Kd.dM qJ.out).2.2 fZ XI VM; obtain rfl : Jb = ZM := (by injection e860); replace XI := eq_true XI; replace VM := eq_true VM; have agw := sI.out; have agK := sw.out; have Z0 := gJ.out; have abj := qx.out; obtain ⟨Rp, Tu, acW, ac0, ada, Ud, Qs, acr, acM, adT⟩ := cells5 gD.out; have WW : 0 ≤ ((rd fQ fZ) : Int) := of_decide_eq_true (by with_reducible assumption); have WH : (rd fQ fZ) < (aZ.length : Int) := of_decide_eq_true (by with_reducible assumption); obtain ⟨aaD, A861_2, c861_2, e861, DF, Dr, Et, Kt, Jq⟩ := oM pU.out (rd fQ fZ) WW WH; obtain rfl : sJ = aaD := (by injection e861); replace DF := (HB.out.cell (World.block_lt_of_cell? w _ DF)).trans DF; replace Dr := (HB.out.cell (World.block_lt_of_cell? w _ Dr)).trans Dr; replace Et := (HB.out.cell (World.block_lt_of_cell? w _ Et)).trans Et; have ac6 := aa.mk Jq; have adg := aa.mk Kt; clear Jq Kt; replace WW := eq_true WW; replace WH := eq_true WH; (go_wp2_with (((with_reducible refine dh (N := 9) rfl ?_); refine dA ?hg (N := 9) ?hd (cs := #[.int .i64 0, .int .i64 0]) (t := 63) ?hr ?_; (case hd => rfl); (case hg => rfl); (case hr => (go_simp; done)); intro lg hg w27 hbox hb; replace qJ := aa.mk (Kd.eO (rU qJ.out) hb); have oI := aa.mk (hbox); have ag0 := aa.mk ((by rw [hg]; exact (az (by exact HB.out)) : w.heap.size ≤ lg)); have aaQ := aa.mk ((by rw [hg]; exact (az (by exact HB.out)) : w.heap.size ≤ lg)); replace HB := aa.mk (aW (by exact HB.out) hb); have yI := aa.mk ((by rw [hg]; exact Nat.ne_of_lt (bF (g := kM) (o := .cells #[.slice (some sJ) aZ.length dZ, .int .i64 bz, .int .i64 bS, .int .i64 bW, .slice eB bB.length dW] 25 (0, 0)) (bU gD.out)) : kM ≠ lg)); have KF := aa.mk ((by rw [hg]; exact Nat.ne_of_gt (bF (g := kM) (o := .cells #[.slice (some sJ) aZ.length dZ, .int .i64 bz, .int .i64 bS, .int .i64 bW, .slice eB bB.length dW] 25 (0, 0)) (bU gD.out)) : lg ≠ kM)); replace gD := aa.mk (aG (bU gD.out) hb); have yV := aa.mk ((by rw [hg]; exact Nat.ne_of_lt (bF (g := mQ) (o := .cells #[.int .i64 0, .int .i64 0] 63 (0, 0)) (bU jF.out)) : mQ ≠ lg)); have Lj := aa.mk ((by rw [hg]; exact Nat.ne_of_gt (bF (g := mQ) (o := .cells #[.int .i64 0, .int .i64 0] 63 (0, 0)) (bU jF.out)) : lg ≠ mQ)); replace jF := aa.mk (aG (bU jF.out) hb); have sQ := aa.mk ((by rw [hg]; exact Nat.ne_of_lt (bF (g := iO) (o := .cells #[.int .i64 jy, .int .i64 ji] 63 (0, 0)) (bU jl.out)) : iO ≠ lg)); have yA := aa.mk ((by rw [hg]; exact Nat.ne_of_gt (bF (g := iO) (o := .cells #[.int .i64 jy, .int .i64 ji] 63 (0, 0)) (bU jl.out)) : lg ≠ iO)); replace jl := aa.mk (aG (bU jl.out) hb); clear hb hbox hg; have ZV := KF.out; have ZW := yI.out; have ag4 := Lj.out; have ahb := yV.out; have aay := yA.out; have aaq := sQ.out; obtain ⟨IY, Kq, Ki, J7⟩ := ko oI.out))); have n0_ : aa (Kd.R (Kd.int .i64) 3 ((w27.setCell ⟨lg, 0, none⟩ (.int .i64 ((ah aZ (rd fQ fZ)).f0.f0))).setCell ⟨lg, 1, none⟩ (.int .i64 ((ah aZ (rd fQ fZ)).f0.f1))) w.heap.size (fun _ => True) (.slice (some Jb) fQ.length sO) fQ) := ⟨by (with_reducible skip); exact Kd.df (Kd.jP (p := ⟨lg, 1, none⟩) (Kd.jP (p := ⟨lg, 0, none⟩) (Kd.ek qJ.out oI.out (by decide)) (fun _ hk => hk.2) (.int .i64 ((ah aZ (rd fQ fZ)).f0.f0))) (fun _ hk => hk.2) (.int .i64 ((ah aZ (rd fQ fZ)).f0.f1))) (fun _ hk => trivial)⟩; have n1_ : aa (((w27.setCell ⟨lg, 0, none⟩ (.int .i64 ((ah aZ (rd fQ fZ)).f0.f0))).setCell ⟨lg, 1, none⟩ (.int .i64 ((ah aZ (rd fQ fZ)).f0.f1))).heap[kM]? = some (.cells #[.slice (some sJ) aZ.length dZ, .int .i64 bz, .int .i64 bS, .int .i64 bW, .slice eB bB.length dW] 25 (0, 0))) := ⟨by (with_reducible skip); refine bC ?_ yI.out _; (with_reducible skip); refine bC ?_ yI.out _; (with_reducible skip); exact gD.out⟩; have n2_ : aa (((w27.setCell ⟨lg, 0, none⟩ (.int .i64 ((ah aZ (rd fQ fZ)).f0.f0))).setCell ⟨lg, 1, none⟩ (.int .i64 ((ah aZ (rd fQ fZ)).f0.f1))).heap[mQ]? = some (.cells #[.int .i64 0, .int .i64 0] 63 (0, 0))) := ⟨by (with_reducible skip); refine bC ?_ yV.out _; (with_reducible skip); refine bC ?_ yV.out _; (with_reducible skip); exact jF.out⟩; have n3_ : aa (((w27.setCell ⟨lg, 0, none⟩ (.int .i64 ((ah aZ (rd fQ fZ)).f0.f0))).setCell ⟨lg, 1, none⟩ (.int .i64 ((ah aZ (rd fQ fZ)).f0.f1))).heap[iO]? = some (.cells #[.int .i64 jy, .int .i64 ji] 63 (0, 0))) := ⟨by (with_reducible skip); refine bC ?_ sQ.out _; (with_reducible skip); refine bC ?_ sQ.out _; (with_reducible skip); exact jl.out⟩; have n4_ : aa (((w27.setCell ⟨lg, 0, none⟩ (.int .i64 ((ah aZ (rd fQ fZ)).f0.f0))).setCell ⟨lg, 1, none⟩ (.int .i64 ((ah aZ (rd fQ fZ)).f0.f1))).heap[lg]? = some (.cells #[.int .i64 ((ah aZ (rd fQ fZ)).f0.f0), .int .i64 ((ah aZ (rd fQ fZ)).f0.f1)] 63 (0, 0))) := ⟨by (with_reducible skip); refine bR (cs := #[.int .i64 ((ah aZ (rd fQ fZ)).f0.f0), .int .i64 0]) ?_ 1 _ rfl; (with_reducible skip); refine bR (cs := #[.int .i64 0, .int .i64 0]) ?_ 0 _ rfl; (with_reducible skip); exact oI.out⟩; have n5_ : aa (Below w.heap.size w ((w27.setCell ⟨lg, 0, none⟩ (.int .i64 ((ah aZ (rd fQ fZ)).f0.f0))).setCell ⟨lg, 1, none⟩ (.int .i64 ((ah aZ (rd fQ fZ)).f0.f1)))) := ⟨by repeat ((with_reducible first | exact HB.out | refine bV ?_ aaQ.out))⟩; (clear qJ); (clear gD); (clear jF); (clear jl); (clear oI); (clear HB); generalize ((w27.setCell ⟨lg, 0, none⟩ (.int .i64 ((ah aZ (rd fQ fZ)).f0.f0))).setCell ⟨lg, 1, none⟩ (.int .i64 ((ah aZ (rd fQ fZ)).f0.f1))) = w32 at n0_ n1_ n2_ n3_ n4_ n5_ ⊢; have qJ := n0_; have gD := n1_; have jF := n2_; have jl := n3_; have oI := n4_; have HB := n5_; clear n0_ n1_ n2_ n3_ n4_ n5_; replace qJ := aa.mk (Kd.qz qJ.out); replace gD := aa.mk (dQ gD.out); replace jF := aa.mk (dQ jF.out); replace jl := aa.mk (dQ jl.out); replace oI := aa.mk (dQ oI.out); replace HB := aa.mk (dD HB.out); refine rP (n := 13) (S := fun w' => w'.cell? ⟨iO, 0, none⟩ = some (.int .i64 jy) ∧ w'.cell? ⟨iO, 1, none⟩ = some (.int .i64 ji) ∧ w'.cell? ⟨lg, 0, none⟩ = some (.int .i64 ((ah aZ (rd fQ fZ)).f0.f0)) ∧ w'.cell? ⟨lg, 1, none⟩ = some (.int .i64 ((ah aZ (rd fQ fZ)).f0.f1))) (ds := [12]) #[false, false, false, false, false, false, false, false, false, false, false, false, false] (by kernel_rfl) rfl rfl ⟨(ag jl.out 0).trans rfl, (ag jl.out 1).trans rfl, (ag oI.out 0).trans rfl, (ag oI.out 1).trans rfl⟩ (fun cz => ?_); refine nH bH.WP bH.OQ (fun HT_ HW_ => ?_); generalize w32.drew = w33 at qJ gD jF jl oI HB cz ⊢; refine eY (i := 0) (N := some 39) (v := ?_) (a' := ?_) #[true, false, false, false, false, false, false, false, false, false, false, false, false] rfl rfl (dP HT_.out (by kernel_rfl)) (fun _ _ _ h => h) (Or.inl ⟨by rfl, ?_⟩) ?_ ?_; rotate_left
            ·intro w'; go_simp; with_reducible rfl
            rotate_left
            ·simp only [Act.put, List.setIfInBounds_toArray, List.set_cons_zero, List.set_cons_succ, cu, cZ]; rfl
            refine eY (i := 2) (N := some 41) (v := ?_) (a' := ?_) #[true, false, true, false, false, false, false, false, false, false, false, false, false] rfl rfl (dP HT_.out (by kernel_rfl)) (fun _ _ _ h => h) (Or.inl ⟨by rfl, ?_⟩) ?_ ?_; rotate_left
            ·intro w'; go_simp; with_reducible rfl
            rotate_left
            ·simp only [Act.put, List.setIfInBounds_toArray, List.set_cons_zero, List.set_cons_succ, cu, cZ]; rfl
            refine eY (i := 6) (N := some 45) (v := ?_) (a' := ?_) #[true, false, true, false, false, false, true, false, false, false, false, false, false] rfl rfl (dP HT_.out (by kernel_rfl)) (fun _ _ _ h => h) (Or.inl ⟨by rfl, ?_⟩) ?_ ?_; rotate_left
            ·intro w'; go_simp; with_reducible rfl
            rotate_left
            ·simp only [Act.put, List.setIfInBounds_toArray, List.set_cons_zero, List.set_cons_succ, cu, cZ]; rfl
            refine eY (i := 8) (N := some 47) (v := ?_) (a' := ?_) #[true, false, true, false, false, false, true, false, true, false, false, false, false] rfl rfl (dP HT_.out (by kernel_rfl)) (fun _ _ _ h => h) (Or.inl ⟨by rfl, ?_⟩) ?_ ?_; rotate_left
            ·intro w'; go_simp; with_reducible rfl
            rotate_left
            ·simp only [Act.put, List.setIfInBounds_toArray, List.set_cons_zero, List.set_cons_succ, cu, cZ]; rfl
            refine kJ (i := 1) (N := some 40) (v := ?_) (a' := ?_) #[true, true, true, false, false, false, true, false, true, false, false, false, false] rfl rfl (gW HT_.out HW_.out (by kernel_rfl)) (fun _ _ _ h => h) (Or.inl ⟨by rfl, ?_⟩) cz ?_ ?_; rotate_left
            ·rintro w' ⟨s0, s1, s2, s3⟩; go_simp; with_reducible rfl
            rotate_left
            ·simp only [Act.put, List.setIfInBounds_toArray, List.set_cons_zero, List.set_cons_succ, cu, cZ]; rfl
            refine kJ (i := 3) (N := some 42) (v := ?_) (a' := ?_) #[true, true, true, true, false, false, true, false, true, false, false, false, false] rfl rfl (gW HT_.out HW_.out (by kernel_rfl)) (fun _ _ _ h => h) (Or.inl ⟨by rfl, ?_⟩) cz ?_ ?_; rotate_left
            ·rintro w' ⟨s0, s1, s2, s3⟩; go_simp; with_reducible rfl
            rotate_left
            ·simp only [Act.put, List.setIfInBounds_toArray, List.set_cons_zero, List.set_cons_succ, cu, cZ]; rfl
            refine kJ (i := 7) (N := some 46) (v := ?_) (a' := ?_) #[true, true, true, true, false, false, true, true, true, false, false, false, false] rfl rfl (gW HT_.out HW_.out (by kernel_rfl)) (fun _ _ _ h => h) (Or.inl ⟨by rfl, ?_⟩) cz ?_ ?_; rotate_left
            ·rintro w' ⟨s0, s1, s2, s3⟩; go_simp; with_reducible rfl
            rotate_left
            ·simp only [Act.put, List.setIfInBounds_toArray, List.set_cons_zero, List.set_cons_succ, cu, cZ]; rfl
            refine kJ (i := 9) (N := some 48) (v := ?_) (a' := ?_) #[true, true, true, true, false, false, true, true, true, true, false, false, false] rfl rfl (gW HT_.out HW_.out (by kernel_rfl)) (fun _ _ _ h => h) (Or.inl ⟨by rfl, ?_⟩) cz ?_ ?_; rotate_left
            ·rintro w' ⟨s0, s1, s2, s3⟩; go_simp; with_reducible rfl
            rotate_left
            ·simp only [Act.put, List.setIfInBounds_toArray, List.set_cons_zero, List.set_cons_succ, cu, cZ]; rfl
            refine eY (i := 10) (N := some 49) (v := ?_) (a' := ?_) #[true, true, true, true, false, false, true, true, true, true, true, false, false] rfl rfl (dP HT_.out (by kernel_rfl)) (fun _ _ _ h => h) (Or.inl ⟨by rfl, ?_⟩) ?_ ?_; rotate_left
            ·intro w'; go_simp; with_reducible rfl
            rotate_left
            ·simp only [Act.put, List.setIfInBounds_toArray, List.set_cons_zero, List.set_cons_succ, cu, cZ]; rfl
            refine qd (i := 4) (N := some 43) #[true, true, true, true, true, false, true, true, true, true, true, false, false] rfl rfl (iQ HT_.out (by kernel_rfl)) (by decide) (fun K hK => ?_); refine Kd.lJ (Kd.int .i64) _ 3 ?hg (N := 43) ?hd (xs := ([(ah aZ (rd fQ fZ)).f0.f0] : List Int)) (inner := [.int .i64 ((ah aZ (rd fQ fZ)).f0.f0)]) (ok := fun _ => True) (okp := fun _ => True) ?hr ?hp (fun _ hk => hk) trivial (Below.refl _ _) (Nat.le_refl _) (by simp) ?_; (case hd => rfl); (case hg => rfl); (case hr => (go_simp; done)); (case hp => exact (eG.one (show Kd.M (Kd.int .i64) _ _ _ ((ah aZ (rd fQ fZ)).f0.f0) [.int .i64 ((ah aZ (rd fQ fZ)).f0.f0)] from rfl) (eG.none _ _))); intro ah4 w34 Qg hb hg_ hnew_; clear hg_ hnew_; (rw [← YL.out] at Qg); have ER := aa.mk (Kd.fI (Kd.oN Qg (Kd.oF (rU qJ.out))) (az (by exact HB.out))); replace qJ := aa.mk (Kd.kD (rU qJ.out) (Kd.dO Qg) hb); replace gD := aa.mk (aG (bU gD.out) hb); replace jF := aa.mk (aG (bU jF.out) hb); replace jl := aa.mk (aG (bU jl.out) hb); replace oI := aa.mk (aG (bU oI.out) hb); replace HB := aa.mk (aW (by exact HB.out) hb); clear hb Qg; obtain ⟨agm, afc, aff⟩ := Kd.fu ER.out; (subst aff); refine hK.out _ _ ⟨(ag jl.out 0).trans rfl, (ag jl.out 1).trans rfl, (ag oI.out 0).trans rfl, (ag oI.out 1).trans rfl⟩ (fun cz => ?_); clear hK K; refine gI (a' := ?_) ?_ ?_; rotate_left
            ·show Act.put _ (some 43) _ = _; simp only [Act.put, List.setIfInBounds_toArray, List.set_cons_zero, List.set_cons_succ, cu, cZ]; rfl
            refine qd (i := 5) (N := some 44) #[true, true, true, true, true, true, true, true, true, true, true, false, false] rfl rfl (iQ HT_.out (by kernel_rfl)) (by decide) (fun K hK => ?_); refine Gd Try.func56 (by kernel_rfl) rfl #[.int .i64 jy, .slice agm VK.length afc] (by rfl) rfl rfl (by (simp only [List.map_toArray, List.map_cons, List.map_nil]); rfl) ?_; (with_reducible refine (bG.calls k1 jy _ _ VK Au _ ?side1 ?side2 A22.out).mono ?_); (case side1 => repeat (exact (Kd.dM ER.out).2.2)); (case side2 => exact (Kd.dM ER.out).2.1); rintro e w37 ⟨rfl, hb⟩; refine ⟨_, rfl, ?_⟩; replace qJ := aa.mk (Kd.eO (rU qJ.out) hb); replace ER := aa.mk (Kd.eO (rU ER.out) hb); replace gD := aa.mk (aG (bU gD.out) hb); replace jF := aa.mk (aG (bU jF.out) hb); replace jl := aa.mk (aG (bU jl.out) hb); replace oI := aa.mk (aG (bU oI.out) hb); replace HB := aa.mk (aW (by exact HB.out) hb); (clear hb); (skip); (skip); (skip); refine hK.out _ _ ⟨(ag jl.out 0).trans rfl, (ag jl.out 1).trans rfl, (ag oI.out 0).trans rfl, (ag oI.out 1).trans rfl⟩ (fun cz => ?_); clear hK K; refine gI (a' := ?_) ?_ ?_; rotate_left
            ·show Act.put _ (some 44) _ = _; simp only [Act.put, List.setIfInBounds_toArray, List.set_cons_zero, List.set_cons_succ, cu, cZ]; rfl
            refine eY (i := 11) (N := some 50) (v := ?_) (a' := ?_) #[true, true, true, true, true, true, true, true, true, true, true, true, false] rfl rfl (dP HT_.out (by kernel_rfl)) (fun _ _ _ h => h) (Or.inl ⟨by rfl, ?_⟩) ?_ ?_; rotate_left
            ·intro w'; go_simp; with_reducible rfl
            rotate_left
            ·simp only [Act.put, List.setIfInBounds_toArray, List.set_cons_zero, List.set_cons_succ, cu, cZ]; rfl
            refine Cc (i := 12) (N := none) #[true, true, true, true, true, true, true, true, true, true, true, true, true] rfl rfl (iQ HT_.out (by kernel_rfl)) (by decide) (fun K hK => ?_); have hs38 : w37.cell? ⟨iO, 0, none⟩ = some (.int .i64 jy) := (ag jl.out 0).trans rfl; have hfs38 := aM jl.out 0; have hns38_0 := gJ.out; have hns38_1 := mr.out; have hns38_3 := yA.out; have hms38_0 := qx.out; have hms38_1 := sP.out; have hms38_3 := sQ.out; have hs39 : w37.cell? ⟨iO, 1, none⟩ = some (.int .i64 ji) := (ag jl.out 1).trans rfl; have hfs39 := aM jl.out 1; have hns39_0 := gJ.out; have hns39_1 := mr.out; have hns39_3 := yA.out; have hms39_0 := qx.out; have hms39_1 := sP.out; have hms39_3 := sQ.out; refine wJ (w1 := ?_) (by rfl) rfl ?_ ?_; rotate_left
            ·go_simp; rfl
            refine hK.out _ _ ?_; clear hK K; refine wG (rq HT_.out (by kernel_rfl)) ?_; go_wp2; go_roundg k1; (case measure => have := HK1.out; omega); case rel => exact ⟨(wrap64 (fZ + 1)), (Au), (RS), (by rfl), H', ⟨by have := HK1.out; omega⟩, ⟨by (with_reducible skip); exact Kd.df (Kd.jP (p := ⟨iO, 1, none⟩) (Kd.jP (p := ⟨iO, 0, none⟩) (Kd.ek qJ.out jl.out (by decide)) (fun _ hk => hk.2) (.int .i64 Au)) (fun _ hk => hk.2) (.int .i64 RS)) (fun _ hk => trivial)⟩, ⟨by (with_reducible skip); refine bC ?_ gJ.out _; (with_reducible skip); refine bC ?_ gJ.out _; (with_reducible skip); exact gD.out⟩, ⟨by (with_reducible skip); refine bC ?_ mr.out _; (with_reducible skip); refine bC ?_ mr.out _; (with_reducible skip); exact jF.out⟩, ⟨by (with_reducible skip); refine bR (cs := #[.int .i64 Au, .int .i64 ji]) ?_ 1 _ rfl; (with_reducible skip); refine bR (cs := #[.int .i64 jy, .int .i64 ji]) ?_ 0 _ rfl; (with_reducible skip); exact jl.out⟩, ⟨by repeat ((with_reducible first | exact HB.out | refine bV ?_ UJ.out))⟩⟩
           ·rw [if_neg c21] at H; exact absurd H (by simp)
          ·rw [if_neg c20] at H; exact absurd H (by simp)
         ·rw [if_neg c19] at H; exact absurd H (by simp)
        ·rw [if_neg c18] at H; exact absurd H (by simp)
       ·rw [if_neg c17] at H; have Cx : decide (fZ < (fQ.length : Int)) = false := decide_eq_false c17; clear c17; simp only [Option.some.injEq, Prod.mk.injEq] at H; obtain ⟨rfl, rfl, rfl⟩ := H; have Yt := qx.out; have Yp := gJ.out; have J4 := sP.out; have Js := mr.out; obtain ⟨R9, Qk, SS, Rh⟩ := ko jl.out; have IP := sw.out; have Jo := sI.out; obtain ⟨Ub, Rn, QD, QQ⟩ := ko jF.out; go_wp2; refine bodyPost_ret (Bl rfl _ _ mQ 63 #[.int .i64 jy, .int .i64 ji] (0, 0) _ rfl (by (with_reducible skip); refine bR (cs := #[.int .i64 jy, .int .i64 0]) ?_ 1 _ rfl; (with_reducible skip); refine bR (cs := #[.int .i64 0, .int .i64 0]) ?_ 0 _ rfl; (with_reducible skip); exact jF.out) Try.underlying63 rfl (by kernel_rfl)) rfl ?_; exact ⟨by rfl, by repeat ((with_reducible first | exact HB.out | refine bV ?_ NZ.out))⟩
    ·rw [if_neg c6] at H; exact absurd H (by simp)
   ·rw [if_neg c5] at H; exact absurd H (by simp)
  ·rw [if_neg c4] at H; exact absurd H (by simp)
 ·rw [if_neg c3] at H; have rX : (Gs == 0) = false := beq_eq_false_iff_ne.mpr c3; have Cj : (Gs != 0) = true := bne_iff_ne.mpr c3; simp only [Option.some.injEq, Prod.mk.injEq] at H; obtain ⟨rfl, rfl, rfl⟩ := H; go_enter Try.func34, Try.ntmps34; (go_wp2_with (first | ((with_reducible refine dh (N := 1) rfl ?_); refine dA ?hg (N := 1) ?hd (cs := #[.slice eX aZ.length dZ, .int .i64 bz, .int .i64 bS, .int .i64 bW, .slice eB bB.length dW]) (t := 25) ?hr ?_; (case hd => rfl); (case hg => rfl); (case hr => (go_simp; done)); intro kM hg w45 hbox hb; have gD := aa.mk (hbox); have YY := aa.mk ((by rw [hg]; exact (az (by exact HB.out)) : w.heap.size ≤ kM)); have ZP := aa.mk ((by rw [hg]; exact (az (by exact HB.out)) : w.heap.size ≤ kM)); replace HB := aa.mk (aW (by exact HB.out) hb); clear hb hbox hg) | ((with_reducible refine dh (N := 2) rfl ?_); refine dA ?hg (N := 2) ?hd (cs := #[.int .i64 0, .int .i64 0]) (t := 63) ?hr ?_; (case hd => rfl); (case hg => rfl); (case hr => (go_simp; done)); intro mQ hg w46 hbox hb; have jF := aa.mk (hbox); have aaW := aa.mk ((by rw [hg]; exact (az (by exact HB.out)) : w.heap.size ≤ mQ)); have NZ := aa.mk ((by rw [hg]; exact (az (by exact HB.out)) : w.heap.size ≤ mQ)); replace HB := aa.mk (aW (by exact HB.out) hb); have sI := aa.mk ((by rw [hg]; exact Nat.ne_of_lt (bF (g := kM) (o := .cells #[.slice eX aZ.length dZ, .int .i64 bz, .int .i64 bS, .int .i64 bW, .slice eB bB.length dW] 25 (0, 0)) (bU gD.out)) : kM ≠ mQ)); have sw := aa.mk ((by rw [hg]; exact Nat.ne_of_gt (bF (g := kM) (o := .cells #[.slice eX aZ.length dZ, .int .i64 bz, .int .i64 bS, .int .i64 bW, .slice eB bB.length dW] 25 (0, 0)) (bU gD.out)) : mQ ≠ kM)); replace gD := aa.mk (aG (bU gD.out) hb); clear hb hbox hg; have ahK := sI.out; have agS := sw.out; obtain ⟨I6, Jw, J2, adn, adf, Kw, Ju, Jc, ad3, aei⟩ := cells5 gD.out) | ((with_reducible refine bT (f := 58) rfl ?_); refine fC (some 12) rfl rfl Try.func58 (by kernel_rfl) rfl #[.agg #[.slice eX aZ.length dZ, .int .i64 bz, .int .i64 bS, .int .i64 bW, .slice eB bB.length dW]] rfl (by (simp only [List.map_toArray, List.map_cons, List.map_nil]); rfl) ?_; (with_reducible refine (fA.calls _ _ aZ bz bS bW _ _ bB fQ Gs _ ?side1 ?side2 ?side3 ?side4 A2.out).mono ?_); (case side1 => repeat (exact (Kd.eT pU.out HB.out))); (case side2 => exact uW.out); (case side3 => repeat (exact (Kd.eT ry.out HB.out))); (case side4 => exact uT.out); rintro e w49 ⟨afW, rfl, ho0, hb⟩; refine ⟨_, rfl, ?_⟩; have uP := aa.mk (Kd.fI ho0 (az (by exact HB.out))); replace gD := aa.mk (aG (bU gD.out) hb); replace jF := aa.mk (aG (bU jF.out) hb); replace HB := aa.mk (aW (by exact HB.out) hb); clear hb; clear ho0; obtain ⟨abO, acS, adI, acm⟩ := ko jF.out))); refine bodyPost_ret (Bl rfl _ _ mQ 63 #[.int .i64 0, .int .i64 0] (0, 0) _ rfl (by (with_reducible skip); refine bR (cs := #[.int .i64 0, .int .i64 0]) ?_ 1 _ rfl; (with_reducible skip); refine bR (cs := #[.int .i64 0, .int .i64 0]) ?_ 0 _ rfl; (with_reducible skip); exact jF.out) Try.underlying63 rfl (by kernel_rfl)) rfl ?_; exact ⟨by rfl, by repeat ((with_reducible first | exact HB.out | refine bV ?_ NZ.out))⟩
end Go.Proofs.Ytihedeofkhapiaa.Pr
end
