/- Part 30 of 34 of the proof of: SightEither: for every slice of numbers, the law returns true: of a line made of them, the order of lights, and of hands under other numbers, does not matter, and if squares change places, so do their letters; no condition beyond the statement's own. -/
import Derived.RangeFuncBox
import Derived.Maps.AppendAt
import Derived.Test.YtihedeofkhapiaaSX5
import Derived.Test.YtihedeofkhapiaaSX21
import Derived.Test.YtihedeofkhapiaaSX23
import Derived.Test.YtihedeofkhapiaaSX29
set_option linter.unusedVariables false
set_option linter.unusedSimpArgs false
section
namespace Go.Proofs.Ytihedeofkhapiaa.Pr
open Go.RowKit Go.Shelf Go.Proofs.YtihedeofkhapiaaW.PrintWords Go.Proofs.YtihedeofkhapiaaW.PrintLast Go.Proofs.YtihedeofkhapiaaW.PrintMore
attribute [local go_sem] Oper.semAt_some
def oC (l0 : List S66) (a1 a2 : Int) (l4 : List (List S27)) (x : Nat) : Int := (gT (-1) 0 (ek a1 a2 l0 l4 x) (ah l0 (x : Int)).f1 l4.length).2
def mJ (l0 : List S66) (a1 a2 a3 : Int) (l4 : List (List S27)) (pre : List (Fin l0.length)) : List Int := (pre.filter fun x => decide (oC l0 a1 a2 l4 x.1 ≤ a3)).map fun x => (x.1 : Int)
theorem KX {l0 : List S66} {a1 a2 a3 : Int} {l4 : List (List S27)} (pre : List (Fin l0.length)) {x : Fin l0.length} (h : oC l0 a1 a2 l4 x.1 ≤ a3) : mJ l0 a1 a2 a3 l4 (pre ++ [x]) = mJ l0 a1 a2 a3 l4 pre ++ [(x.1 : Int)] := by
 simp [mJ, List.filter_append, h]
theorem Hz {l0 : List S66} {a1 a2 a3 : Int} {l4 : List (List S27)} (pre : List (Fin l0.length)) {x : Fin l0.length} (h : ¬ oC l0 a1 a2 l4 x.1 ≤ a3) : mJ l0 a1 a2 a3 l4 (pre ++ [x]) = mJ l0 a1 a2 a3 l4 pre := by
 simp [mJ, List.filter_append, h]
theorem uQ {l0 : List S66} {a1 a2 a3 : Int} {l4 : List (List S27)} (pre : List (Fin l0.length)) : (mJ l0 a1 a2 a3 l4 pre).length ≤ pre.length := by
 simp only [mJ, List.length_map]; exact List.length_filter_le _ _
def CG (l0 : List S66) (a1 a2 a3 : Int) (l4 : List (List S27)) : List Int × Int :=
 if nC l0 a1 a2 a3 l4 = 0 then (if mJ l0 a1 a2 a3 l4 (List.finRange l0.length) = [] then ([], 9) else (mJ l0 a1 a2 a3 l4 (List.finRange l0.length), 0)) else ([], nC l0 a1 a2 a3 l4)
def iH.f (bH : List (S66)) (bM : Int) (dG : Int) (dO : Int) (bD : List (List (S27))) : Option (List Int × Int) := some (CG bH bM dG dO bD)
theorem tZ (m : List Int) : ((nums .i64 m).toArray.all (·.oneCell')) = true := by
 rw [Array.all_eq_true_iff_forall_mem]; intro v hv; simp only [nums, List.mem_toArray, List.mem_map] at hv; obtain ⟨x, _, rfl⟩ := hv; rfl
theorem mK (W : World) (cs cs' : Array Value) (t : TypeId) : (W.alloc (.cells cs t (0, 0))).setRow W.heap.size cs' = W.alloc (.cells cs' t (0, 0)) := by
 have h : (W.heap.push (.cells cs t (0, 0))).modify W.heap.size (fun | .cells _ elem frozen => .cells cs' elem frozen | o => o) = W.heap.push (.cells cs' t (0, 0)) := by
  apply Array.ext_getElem?; intro i; rw [Array.getElem?_modify]; by_cases hi : W.heap.size = i
  ·subst hi; rw [if_pos rfl, Array.getElem?_push_size, Array.getElem?_push_size]; rfl
  ·rw [if_neg hi, Array.getElem?_push, Array.getElem?_push, if_neg (fun e => hi e.symm), if_neg (fun e => hi e.symm)]
 unfold World.setRow World.alloc; dsimp only; congr 1
theorem lw {W W' : World} (h : Below W.heap.size W W') : KeepsOthers W W' := ⟨h.size, fun k o hk _ => (h.block k (bY hk)).trans hk⟩
theorem zQ {W : World} {g : Nat} {cs : Array Value} {t : TypeId} {base e size n : Nat} {v : Value} {xs : List Value} (h : W.heap[g]? = some (.cells cs t (0, 0))) (hr : W.ownsRow base e size v n xs) (hte : t ≠ e) : some g ≠ v.ownBlock := by
 intro hk; obtain ⟨cells, hc⟩ := uj hr g hk.symm; rw [h] at hc; injection hc with hc; injection hc with _ hc; exact hte hc
theorem Ha {α : Type} {d : Kd α} {e : Nat} {W : World} {base : Nat} {ok : Nat → Prop} {v : Value} {xs : List α} (h : Kd.R d e W base ok v xs) {l : Nat} {o o' : Obj} (hl : W.heap[l]? = some o) (ho : o.isCells = false) : Kd.R d e (W.putObj l o') base ok v xs :=
 Kd.bW (Kd.KI (Kd.lc h) (grownBy_putObj' W l o') (fun k hk e => by
  obtain ⟨_, _, _, q, _, cells, hc⟩ := hk; cases e; rw [hl] at hc; cases hc
  cases ho)) (fun _ hk => hk.1)
theorem uU {β : Type} (g : Nat) (cs : Array Value) (t : TypeId) : Own (fun (_ : β) W => W.heap[g]? = some (.cells cs t (0, 0))) := fun s X Y row hs hg hr =>
 (hg.block g (bY hs) (fun e => by obtain ⟨o, ho, hc⟩ := hr g e.symm; rw [hs] at ho; cases ho; cases hc)).trans hs
set_option maxRecDepth 100000 in
set_option maxHeartbeats 4000000 in
theorem iH.calls (gF : Option Addr) (fV : Nat) (bH : List (S66)) (bM : Int) (dG : Int) (dO : Int) (gB : Option Addr) (fZ : Nat) (bD : List (List (S27))) (r1 : List Int) (r2 : Int) (w : World) (og : Kd.C k66 w gF bH.length bH) (qI : bH.length ≤ fV) (ol : Kd.C (Kd.slice 27 k27) w gB bD.length bD) (qJ : bD.length ≤ fZ) (h : iH.f bH bM dG dO bD = some (r1, r2)) :
 Calls Try.prog 58 #[.agg #[.slice gF bH.length fV, .int .i64 bM, .int .i64 dG, .int .i64 dO, .slice gB bD.length fZ]] w fun e w' => ∃ v0_ : Value, e = .returned (.tuple #[v0_, .int .i64 r2]) ∧ Kd.R (Kd.int .i64) 3 w' w.heap.size (fun _ => True) v0_ r1 ∧ Below w.heap.size w w' := by
 have h' := Option.some.inj h; clear h; obtain ⟨ch, hch⟩ : ∃ ch, ch = nC bH bM dG dO bD := ⟨_, rfl⟩; rw [CG, ← hch] at h'; have HC := Ab gF fV bH bM dG dO gB fZ bD (w.alloc (.cells #[.slice gF bH.length fV, .int .i64 bM, .int .i64 dG, .int .i64 dO, .slice gB bD.length fZ] 25)) (Kd.iK og (bv (Below.refl _ _) _)) qI (Kd.iK ol (bv (Below.refl _ _) _)) qJ; rw [← hch] at HC; refine callsIn_wide (n := 10).1 ?_; refine callsIn_of_wp_marks Try.func58 rfl trivial ?_ rfl; simp only [Try.ntmps58, List.size_toArray, List.length_cons, List.length_nil, Nat.reduceAdd, Nat.reduceSub, Array.replicate_succ, Array.replicate_zero, List.push_toArray, List.append_toArray, List.nil_append, List.cons_append]
 gi_wp2_with (fail)
 refine ⟨trivial, ?_⟩; refine (callsIn_wide.2 HC).mono ?_; rintro e w1 ⟨rfl, hb⟩; have HW1 := aa.mk (jg (bv (Below.refl _ _) _) (by simp) hb); have hBx := (hb.block _ (bY (heap_alloc_new w (.cells #[.slice gF bH.length fV, .int .i64 bM, .int .i64 dG, .int .i64 dO, .slice gB bD.length fZ] 25)))).trans (heap_alloc_new w _); have HBX := aa.mk hBx; have HR0 := aa.mk og; have HR4 := aa.mk ol; clear hBx hb HC og ol; by_cases h0 : ch = 0
 ·rw [if_pos h0] at h'; have hv := uF (hch.symm.trans h0); have HV := aa.mk hv; have HS := aa.mk (uM hv.2.2.2.2.1); subst h0; have HH := aa.mk h'; clear h' hv hch; have hz0 : w1.cell? ⟨w.heap.size, 0, none⟩ = some (.slice gF bH.length fV) := (ai HBX.out 0).trans rfl; have hz1 : w1.cell? ⟨w.heap.size, 1, none⟩ = some (.int .i64 bM) := (ai HBX.out 1).trans rfl; have hz2 : w1.cell? ⟨w.heap.size, 2, none⟩ = some (.int .i64 dG) := (ai HBX.out 2).trans rfl; have hz3 : w1.cell? ⟨w.heap.size, 3, none⟩ = some (.int .i64 dO) := (ai HBX.out 3).trans rfl; have hz4 : w1.cell? ⟨w.heap.size, 4, none⟩ = some (.slice gB bD.length fZ) := (ai HBX.out 4).trans rfl; have hlt1 : w.heap.size < w1.heap.size := bY HBX.out
  gi_wp2_with (fail)
  refine ⟨trivial, ?_⟩; refine (Bv _ _ _ _ _ _ _ _ _ _ _).mono ?_; rintro e w2 ⟨rfl, rfl⟩
  gi_wp2_with (fail)
  obtain ⟨bo, hbo⟩ : ∃ bo, bo = w1.heap.size := ⟨_, rfl⟩; have bO := (Boxed.new w1 28 (.slice none 0 0)).alloc (.cells #[.slice gF bH.length fV, .int .i64 bM, .int .i64 dG, .int .i64 dO, .slice gB bD.length fZ] 25)
  have bL : ((w1.alloc (.cells #[.slice none 0 0] 28)).alloc (.cells #[.slice gF bH.length fV, .int .i64 bM, .int .i64 dG, .int .i64 dO, .slice gB bD.length fZ] 25)).heap[w1.heap.size + 1]? = some (.cells #[.slice gF bH.length fV, .int .i64 bM, .int .i64 dG, .int .i64 dO, .slice gB bD.length fZ] 25 (0, 0)) := by
   have := heap_alloc_new (w1.alloc (.cells #[.slice none 0 0] 28)) (.cells #[.slice gF bH.length fV, .int .i64 bM, .int .i64 dG, .int .i64 dO, .slice gB bD.length fZ] 25)
   rwa [World.size_alloc] at this
  have bX : ((w1.alloc (.cells #[.slice none 0 0] 28)).alloc (.cells #[.slice gF bH.length fV, .int .i64 bM, .int .i64 dG, .int .i64 dO, .slice gB bD.length fZ] 25)).heap[w.heap.size]? = some (.cells #[.slice gF bH.length fV, .int .i64 bM, .int .i64 dG, .int .i64 dO, .slice gB bD.length fZ] 25 (0, 0)) := dF (dF HBX.out _) _; (have hsz : ((w1.alloc (.cells #[.slice none 0 0] 28)).alloc (.cells #[.slice gF bH.length fV, .int .i64 bM, .int .i64 dG, .int .i64 dO, .slice gB bD.length fZ] 25)).heap.size = bo + 2 := by simp [hbo]); have hB0 : Below w.heap.size w ((w1.alloc (.cells #[.slice none 0 0] 28)).alloc (.cells #[.slice gF bH.length fV, .int .i64 bM, .int .i64 dG, .int .i64 dO, .slice gB bD.length fZ] 25)) := bv (bv HW1.out _) _; (have hwb : w.heap.size < bo := by rw [hbo]; exact hlt1); rw [← hbo] at bL bO ⊢; obtain ⟨W0, hW0⟩ : ∃ W0, W0 = ((w1.alloc (.cells #[.slice none 0 0] 28)).alloc (.cells #[.slice gF bH.length fV, .int .i64 bM, .int .i64 dG, .int .i64 dO, .slice gB bD.length fZ] 25)) := ⟨_, rfl⟩; rw [← hW0] at bO bL bX hsz hB0 ⊢; clear hW0 hz0 hz1 hz2 hz3 hz4 hlt1 HBX hbo HW1
  refine wpIn_rangeFunc_ownH rfl (by omega) (gf := 73) (lb := #[.pointer (some ⟨bo + 1, 0, none⟩)]) rfl trivial (enters_of Try.func73 (by kernel_rfl) rfl)
   (wu 9 (by omega) (bo + 1) w.heap.size gF fV bH bM dG dO gB fZ bD HV.out.2.2.2.1 HS.out w W0 (Nat.le_refl _) HR0.out HR4.out hB0 (by omega) bL) MK (Oi (by omega)) (Below.refl _ _) (fun _ => rfl)
   (fun pre W => ((∃ v, Boxed W bo 28 v ∧ W.ownsRow w.heap.size 3 1 v (mJ bH bM dG dO bD pre).length (nums .i64 (mJ bH bM dG dO bD pre)) ∧ True) ∧ W.heap[bo + 1]? = some (.cells #[.slice gF bH.length fV, .int .i64 bM, .int .i64 dG, .int .i64 dO, .slice gB bD.length fZ] 25 (0, 0)) ∧ W.heap[w.heap.size]? = some (.cells #[.slice gF bH.length fV, .int .i64 bM, .int .i64 dG, .int .i64 dO, .slice gB bD.length fZ] 25 (0, 0))) ∧ Below w.heap.size w W)
   (fun _ _ _ => False)
   (OwnFrom.and (OwnFrom.and (Own.from (holdsRow_own w.heap.size bo 28 3 1 (fun pre => (mJ bH bM dG dO bD pre).length) (fun pre => nums .i64 (mJ bH bM dG dO bD pre)) (fun _ _ => True)) _) (OwnFrom.and (Own.from (uU _ _ _) _) (Own.from (uU _ _ _) _))) (ownFrom_below (Nat.le_refl _) (by omega)))
   (fun _ _ _ _ _ hs _ _ => hs)
   ⟨⟨⟨_, bO, World.ownsRow_nil _ _ _ _, trivial⟩, bL, bX⟩, hB0⟩
   (fun x a' W => ∃ Bx, bo + 1 < Bx ∧ oJ W Bx (ek bM dG bH bD x.1) ∧ a' = { tmps := #[.agg #[.slice gF bH.length fV, .int .i64 bM, .int .i64 dG, .int .i64 dO, .slice gB bD.length fZ], .pointer (some ⟨w.heap.size, 0, none⟩), .slice none 0 0, .int .i64 0, .int .i64 0, .pointer (some ⟨bo, 0, none⟩), .int .i64 (x.1 : Int), .pointer (some ⟨Bx, 0, none⟩), undef, undef, .agg #[.slice gF bH.length fV, .int .i64 bM, .int .i64 dG, .int .i64 dO, .slice gB bD.length fZ], .int .i64 0, .int .i64 0, .bool false, undef, .agg #[.slice gF bH.length fV, .int .i64 bM, .int .i64 dG, .int .i64 dO, .slice gB bD.length fZ], .func (.func 73) #[] #[.pointer (some ⟨bo + 1, 0, none⟩)], .int .i64 (x.1 : Int), .agg (nums .i64 (ek bM dG bH bD x.1)).toArray, undef, undef, undef, undef, undef, undef, undef, undef, undef, undef, undef, undef, undef, undef, undef, undef, undef, undef, undef, undef], defers := [] })
   (fun x a' _ X Y row hs hg hr => by obtain ⟨Bx, h1, h2, h3⟩ := hs; exact ⟨Bx, h1, ⟨h2.1, uU (β := Unit) Bx _ 97 () X Y row h2.2 hg (fun r e => (hr r e).2)⟩, h3⟩)
   ?assign ?body ?done ?stop
  case assign =>
   rintro l pre x W K ⟨⟨⟨v, hv, hrow, _⟩, hL, hX⟩, hB⟩ hK; dsimp only [LP]; have hlen := jC bM dG bD (ah bH (x.1 : Int)).f1 bD.length; (have hin : (Try.prog.info? 97).map (·.size) = some 64 := by kernel_rfl); have H64 := aa.mk (show (nums .i64 (ek bM dG bH bD x.1)).toArray.size = 64 by simp [nums, ek, hlen]); have HIN := aa.mk hin; have HA := aa.mk (tZ (ek bM dG bH bD x.1)); clear hlen hin; have hK2 := aa.mk hK; clear hK
   gi_wp2_with (refine jh rfl 97 (.tmp 7) (.tmp 18) rfl W.heap.size _ rfl rfl 97 _ (heap_alloc_new W _) (by rw [H64.out]; exact HIN.out) (by rw [H64.out]; rfl) HA.out ?_)
   rw [mK]; refine hK2.out _ _ ((KeepsOthers.alloc _ _).from _) ⟨(Below.refl _ W).alloc hB.size _, fun o ho hc => dF ho _⟩ ⟨⟨⟨v, hv.alloc _, hrow.alloc _, trivial⟩, dF hL _, dF hX _⟩, bv hB _⟩ ⟨W.heap.size, bY hL, ⟨jC _ _ _ _ _, heap_alloc_new W _⟩, rfl⟩
  case body =>
   rintro l pre x a' W hl ⟨r, hr⟩ ⟨⟨⟨v, hv, hrow, _⟩, hL, hX⟩, hB⟩ ⟨Bx, hBx, bN, rfl⟩ hlt; (have hin : (Try.prog.info? 97).map (·.size) = some 64 := by kernel_rfl); (have hin5 : (Try.prog.info? 95).map (·.size) = some 8 := by kernel_rfl); have H64 := aa.mk (show (nums .i64 (ek bM dG bH bD x.1)).toArray.size = 64 by simp [nums, bN.1]); have HIN := aa.mk hin; have HIN5 := aa.mk hin5; have HV' := aa.mk hv; have HRow := aa.mk hrow; have HL := aa.mk hL; have HX := aa.mk hX; have HB := aa.mk hB; have HN := aa.mk bN; clear hin hin5 hv hrow hL hB bN; have hz0 : W.cell? ⟨w.heap.size, 0, none⟩ = some (.slice gF bH.length fV) := (ai hX 0).trans rfl; have hz1 : W.cell? ⟨w.heap.size, 1, none⟩ = some (.int .i64 bM) := (ai hX 1).trans rfl; have hz2 : W.cell? ⟨w.heap.size, 2, none⟩ = some (.int .i64 dG) := (ai hX 2).trans rfl; have hz3 : W.cell? ⟨w.heap.size, 3, none⟩ = some (.int .i64 dO) := (ai hX 3).trans rfl; have hz4 : W.cell? ⟨w.heap.size, 4, none⟩ = some (.slice gB bD.length fZ) := (ai hX 4).trans rfl; clear hX
   gi_wp2_with (refine pq rfl 97 (.tmp 7) rfl Bx rfl 97 _ (0, 0) _ HN.out.2 Try.underlying97 rfl (by rw [H64.out]; exact HIN.out) ?_)
   refine ⟨trivial, (CallsIn.inRound l (callsIn_wide.2 (sums.calls (-1) 0 gF fV bH bM dG dO gB bD.length fZ x.1 (ek bM dG bH bD x.1) W (Kd.iK HR0.out HB.out) x.2 HN.out.1 HV.out.2.2.2.1 (HS.out x.1 x.2)))).mono ?_⟩; rintro e w2 ⟨rfl, hb⟩; obtain ⟨es, hes⟩ : ∃ es, es = (gT (-1) 0 (ek bM dG bH bD x.1) (ah bH (x.1 : Int)).f1 bD.length).1 := ⟨_, rfl⟩; obtain ⟨tot, htot⟩ : ∃ tot, tot = (gT (-1) 0 (ek bM dG bH bD x.1) (ah bH (x.1 : Int)).f1 bD.length).2 := ⟨_, rfl⟩; rw [← hes, ← htot]; (have hel : es.length = 8 := by rw [hes]; exact kP _ _ _ _ _); have HE := aa.mk (show (nums .i64 es).toArray.size = 8 by simp [nums, hel]); have HA := aa.mk (tZ es); have HT := aa.mk (show tot = oC bH bM dG bD x.1 from htot); have hbw : Below W.heap.size W w2 := hb; have HBW := aa.mk hbw; have HX2 := aa.mk ((hb.block _ (bY HX.out)).trans HX.out); have hz3 : w2.cell? ⟨w.heap.size, 3, none⟩ = some (.int .i64 dO) := (ai HX2.out 3).trans rfl; have hlt3 : w.heap.size < w2.heap.size := bY HX2.out; clear hes htot hel hb hbw hz0 hz1 hz2 hz4; have HK2 := HV'.out.kept (kr HBW.out none) (by simp); have hv2 : Boxed (w2.alloc (.cells (nums .i64 es).toArray 95)) bo 28 v := HK2.alloc _; have hrow2 := (xR HRow.out HBW.out).alloc (.cells (nums .i64 es).toArray 95); (have hsz2 : (w2.alloc (.cells (nums .i64 es).toArray 95)).heap.size = w2.heap.size + 1 := by simp); have hBW2 : Below W.heap.size W (w2.alloc (.cells (nums .i64 es).toArray 95)) := bv HBW.out _; have hKO2 : KeepsOthers W (w2.alloc (.cells (nums .i64 es).toArray 95)) := lw hBW2; have HB2 := aa.mk (jg HB.out HB.out.size hBW2); have HL2 := aa.mk ((hBW2.block _ (bY HL.out)).trans HL.out); have HX3 := aa.mk ((hBW2.block _ (bY HX.out)).trans HX.out); have HBW2 := aa.mk hBW2; have HKO2 := aa.mk hKO2; obtain ⟨i0, hi, hz0, hz1, hz2⟩ := info_parts info3; have hpl := uQ (a1 := bM) (a2 := dG) (a3 := dO) (l4 := bD) pre; have hl0 := HV.out.2.1; have hcO := HK2.cell; have hltO : bo < w2.heap.size := HK2.lt; clear hKO2 hBW2 HK2; have HCN := aa.mk (cell_one_new (w2.alloc (.cells (nums .i64 es).toArray 95)) (.int .i64 (x.1 : Int)) 3); rw [World.size_alloc] at HCN; by_cases ht : tot ≤ dO
   ·have hdt : decide (tot ≤ dO) = true := decide_eq_true ht; have HTT := aa.mk (show oC bH bM dG bD x.1 ≤ dO by rw [← HT.out]; exact ht); clear ht
    gi_wp2_with (first
     | (refine jh rfl 95 (.tmp 8) (.tmp 25) rfl w2.heap.size _ rfl rfl 95 _ (heap_alloc_new w2 _) (by rw [HE.out]; exact HIN5.out) (by rw [HE.out]; rfl) HA.out ?_; rw [mK])
     | (gi_at_builtin; go_loud (refine wpListIn_append_own _ rfl _ _ 28 rfl w.heap.size 3 i0 (.int .i64 0) 1 8 Try.underlying28 hi hz0 hz1 hz2 rfl (by decide) _ _ _ rfl (hrow2.alloc _) ⟨w2.heap.size + 1, 0, none⟩ 1 1 [.int .i64 (x.1 : Int)] rfl rfl HCN.out (by simp [Value.oneCell']) (by unfold maxLen; omega) (by omega) (by have := HB2.out.size; simp at this ⊢; omega) ?_); intro v' w3 hown' hgrow _; obtain ⟨g', cap', rfl⟩ := ownsRow_succ hown'; obtain ⟨hv1, hv2', hr2, hk2, hb2⟩ := hv2.appended (by decide) hrow2 HB2.out.size (by omega) hown' hgrow; have hc1 := hv1.cell; have hf1 := hv1.frozen))
    have hLf := bA (dI (dF HL2.out (.cells #[.int .i64 (x.1 : Int)] 3)) hgrow (show some (bo + 1) ≠ v.ownBlock from zQ HL2.out hrow2 (by decide))) (p := ⟨bo, 0, none⟩) (by simp) (.slice (some ⟨g', 0, none⟩) ((mJ bH bM dG dO bD pre).length + 1) cap'); have hXf := bA (dI (dF HX3.out (.cells #[.int .i64 (x.1 : Int)] 3)) hgrow (show some w.heap.size ≠ v.ownBlock from zQ HX3.out hrow2 (by decide))) (p := ⟨bo, 0, none⟩) (by simp; omega) (.slice (some ⟨g', 0, none⟩) ((mJ bH bM dG dO bD pre).length + 1) cap'); refine ⟨(HKO2.out.trans hk2).from _, ⟨(HBW2.out.mono HB.out.size).trans hb2, fun o ho hc => ?_⟩, ⟨⟨_, hv2', ?_, trivial⟩, hLf, hXf⟩, HB2.out.trans hb2⟩
    ·rw [HL.out] at ho; cases ho; exact hLf
    ·rw [KX pre HTT.out]
     simpa [nums] using hr2
   ·have hdt : decide (tot ≤ dO) = false := decide_eq_false ht; have HTT := aa.mk (show ¬ oC bH bM dG bD x.1 ≤ dO by rw [← HT.out]; exact ht); clear ht
    gi_wp2_with (refine jh rfl 95 (.tmp 8) (.tmp 25) rfl w2.heap.size _ rfl rfl 95 _ (heap_alloc_new w2 _) (by rw [HE.out]; exact HIN5.out) (by rw [HE.out]; rfl) HA.out ?_; rw [mK])
    refine ⟨HKO2.out.from _, ⟨HBW2.out.mono HB.out.size, fun o ho hc => (HBW2.out.block _ (bY ho)).trans ho⟩, ⟨⟨v, hv2, ?_, trivial⟩, HL2.out, HX3.out⟩, HB2.out⟩; rw [Hz pre (Int.not_le.mpr (Int.not_le.mp (by have := HTT.out; omega)))]; exact hrow2
  case done =>
   rintro D ys W hD rfl ⟨⟨⟨v, hv, hrow, _⟩, hL, hX⟩, hB⟩ hK; have hc := hv.cell; have HRW := aa.mk (show Kd.R (Kd.int .i64) 3 W w.heap.size (fun _ => True) v (mJ bH bM dG dO bD (List.finRange bH.length)) from Kd.wF hrow (fun _ _ => trivial)); have HB := aa.mk hB; have hl := hrow.1; have hl2 := uQ (a1 := bM) (a2 := dG) (a3 := dO) (l4 := bD) (List.finRange bH.length); rw [List.length_finRange] at hl2; obtain ⟨fs, hfs⟩ : ∃ fs, fs = mJ bH bM dG dO bD (List.finRange bH.length) := ⟨_, rfl⟩; rw [← hfs] at HRW hl2; have HH' := HH; rw [← hfs] at HH'; obtain ⟨A, cap, rfl, _, _⟩ := Kd.AR HRW.out; have HKD := aa.mk hK; clear hfs hrow hX hL hB HH hl hK; have hh := HH'.out; by_cases h0 : fs = []
   ·rw [if_pos h0] at hh; simp only [Prod.mk.injEq] at hh; obtain ⟨rfl, rfl⟩ := hh; (have hz : ((fs.length : Int) == 0) = true := by simp [h0]); (have hz2 : (fs.length == 0) = true := by simp [h0]); have HF := aa.mk h0; clear h0 HH'
    gi_wp2_with (fail)
    refine ⟨by simp, .inl ⟨_, _, rfl, run_takeDeferred HKD.out, ?_⟩⟩; exact ⟨_, results_tmp2 rfl _ _ _, _, rfl, Kd.vZ _ _ _ _ _, HB.out.trans (belowK_b (w := w) (Nat.le_refl _) W D _ _ (by omega) HKD.out rfl rfl)⟩
   ·rw [if_neg h0] at hh; simp only [Prod.mk.injEq] at hh; obtain ⟨rfl, rfl⟩ := hh; (have hz : ((fs.length : Int) == 0) = false := by simp [h0]); (have hz2 : (fs.length == 0) = false := by simp [h0]); clear h0 HH'
    gi_wp2_with (fail)
    refine ⟨by simp, .inl ⟨_, _, rfl, run_takeDeferred HKD.out, ?_⟩⟩; exact ⟨_, results_tmp2 rfl _ _ _, _, rfl, Ha HRW.out HKD.out rfl, HB.out.trans (belowK_b (w := w) (Nat.le_refl _) W D _ _ (by omega) HKD.out rfl rfl)⟩
  case stop =>
   rintro D c pre W _ _ h _; exact h.elim
 ·rw [if_neg h0] at h'; simp only [Prod.mk.injEq] at h'; obtain ⟨rfl, rfl⟩ := h'; (have hd : (ch == 0) = false := by simp [h0]); (have hd2 : (ch != 0) = true := by simp [h0]); clear h0 hch
  gi_wp2_with (fail)
  exact ⟨_, results_tmp2 rfl _ _ _, _, rfl, Kd.vZ _ _ _ _ _, HW1.out⟩
def mP (l0 : List S66) (a1 a2 : Int) (l4 : List (List S27)) (pre : List (Fin l0.length)) : Int := pre.foldl (fun b x => mn b (oC l0 a1 a2 l4 x.1)) lH
theorem G6 {l0 : List S66} {a1 a2 : Int} {l4 : List (List S27)} (pre : List (Fin l0.length)) (x : Fin l0.length) : mP l0 a1 a2 l4 (pre ++ [x]) = mn (mP l0 a1 a2 l4 pre) (oC l0 a1 a2 l4 x.1) := by
 simp [mP, List.foldl_append]
def EN (l0 : List S66) (a1 a2 a3 : Int) (l4 : List (List S27)) : Int × Int :=
 if nC l0 a1 a2 a3 l4 = 0 then (if mP l0 a1 a2 l4 (List.finRange l0.length) ≥ 1048576 then (0, 9) else (mP l0 a1 a2 l4 (List.finRange l0.length), 0)) else (0, nC l0 a1 a2 a3 l4)
def ib.f (bH : List (S66)) (bM : Int) (dG : Int) (dO : Int) (bD : List (List (S27))) : Option (Int × Int) := some (EN bH bM dG dO bD)
set_option maxRecDepth 100000 in
set_option maxHeartbeats 4000000 in
theorem ib.calls (gF : Option Addr) (fV : Nat) (bH : List (S66)) (bM : Int) (dG : Int) (dO : Int) (gB : Option Addr) (fZ : Nat) (bD : List (List (S27))) (r1 : Int) (r2 : Int) (w : World) (og : Kd.C k66 w gF bH.length bH) (qI : bH.length ≤ fV) (ol : Kd.C (Kd.slice 27 k27) w gB bD.length bD) (qJ : bD.length ≤ fZ) (h : ib.f bH bM dG dO bD = some (r1, r2)) :
 Calls Try.prog 21 #[.agg #[.slice gF bH.length fV, .int .i64 bM, .int .i64 dG, .int .i64 dO, .slice gB bD.length fZ]] w fun e w' => e = .returned (.tuple #[.int .i64 r1, .int .i64 r2]) ∧ Below w.heap.size w w' := by
 have h' := Option.some.inj h; clear h; obtain ⟨ch, hch⟩ : ∃ ch, ch = nC bH bM dG dO bD := ⟨_, rfl⟩; rw [EN, ← hch] at h'; have HC := Ab gF fV bH bM dG dO gB fZ bD (w.alloc (.cells #[.slice gF bH.length fV, .int .i64 bM, .int .i64 dG, .int .i64 dO, .slice gB bD.length fZ] 25)) (Kd.iK og (bv (Below.refl _ _) _)) qI (Kd.iK ol (bv (Below.refl _ _) _)) qJ; rw [← hch] at HC; refine callsIn_wide (n := 10).1 ?_; refine callsIn_of_wp_marks Try.func21 rfl trivial ?_ rfl; simp only [Try.ntmps21, List.size_toArray, List.length_cons, List.length_nil, Nat.reduceAdd, Nat.reduceSub, Array.replicate_succ, Array.replicate_zero, List.push_toArray, List.append_toArray, List.nil_append, List.cons_append]
 gi_wp2_with (fail)
 refine ⟨trivial, ?_⟩; refine (callsIn_wide.2 HC).mono ?_; rintro e w1 ⟨rfl, hb⟩; have HW1 := aa.mk (jg (bv (Below.refl _ _) _) (by simp) hb); have hBx := (hb.block _ (bY (heap_alloc_new w (.cells #[.slice gF bH.length fV, .int .i64 bM, .int .i64 dG, .int .i64 dO, .slice gB bD.length fZ] 25)))).trans (heap_alloc_new w _); have HBX := aa.mk hBx; have HR0 := aa.mk og; have HR4 := aa.mk ol; clear hBx hb HC og ol; by_cases h0 : ch = 0
 ·rw [if_pos h0] at h'; have hv := uF (hch.symm.trans h0); have HV := aa.mk hv; have HS := aa.mk (uM hv.2.2.2.2.1); subst h0; have HH := aa.mk h'; clear h' hv hch; have hz0 : w1.cell? ⟨w.heap.size, 0, none⟩ = some (.slice gF bH.length fV) := (ai HBX.out 0).trans rfl; have hz1 : w1.cell? ⟨w.heap.size, 1, none⟩ = some (.int .i64 bM) := (ai HBX.out 1).trans rfl; have hz2 : w1.cell? ⟨w.heap.size, 2, none⟩ = some (.int .i64 dG) := (ai HBX.out 2).trans rfl; have hz3 : w1.cell? ⟨w.heap.size, 3, none⟩ = some (.int .i64 dO) := (ai HBX.out 3).trans rfl; have hz4 : w1.cell? ⟨w.heap.size, 4, none⟩ = some (.slice gB bD.length fZ) := (ai HBX.out 4).trans rfl; have hlt1 : w.heap.size < w1.heap.size := bY HBX.out
  gi_wp2_with (fail)
  refine ⟨trivial, ?_⟩; refine (Bv _ _ _ _ _ _ _ _ _ _ _).mono ?_; rintro e w2 ⟨rfl, rfl⟩
  gi_wp2_with (fail)
  obtain ⟨bo, hbo⟩ : ∃ bo, bo = w1.heap.size := ⟨_, rfl⟩; have bO := (Boxed.new w1 3 (.int .i64 1048576)).alloc (.cells #[.slice gF bH.length fV, .int .i64 bM, .int .i64 dG, .int .i64 dO, .slice gB bD.length fZ] 25)
  have bL : ((w1.alloc (.cells #[.int .i64 1048576] 3)).alloc (.cells #[.slice gF bH.length fV, .int .i64 bM, .int .i64 dG, .int .i64 dO, .slice gB bD.length fZ] 25)).heap[w1.heap.size + 1]? = some (.cells #[.slice gF bH.length fV, .int .i64 bM, .int .i64 dG, .int .i64 dO, .slice gB bD.length fZ] 25 (0, 0)) := by
   have := heap_alloc_new (w1.alloc (.cells #[.int .i64 1048576] 3)) (.cells #[.slice gF bH.length fV, .int .i64 bM, .int .i64 dG, .int .i64 dO, .slice gB bD.length fZ] 25)
   rwa [World.size_alloc] at this
  have bX : ((w1.alloc (.cells #[.int .i64 1048576] 3)).alloc (.cells #[.slice gF bH.length fV, .int .i64 bM, .int .i64 dG, .int .i64 dO, .slice gB bD.length fZ] 25)).heap[w.heap.size]? = some (.cells #[.slice gF bH.length fV, .int .i64 bM, .int .i64 dG, .int .i64 dO, .slice gB bD.length fZ] 25 (0, 0)) := dF (dF HBX.out _) _; (have hsz : ((w1.alloc (.cells #[.int .i64 1048576] 3)).alloc (.cells #[.slice gF bH.length fV, .int .i64 bM, .int .i64 dG, .int .i64 dO, .slice gB bD.length fZ] 25)).heap.size = bo + 2 := by simp [hbo]); have hB0 : Below w.heap.size w ((w1.alloc (.cells #[.int .i64 1048576] 3)).alloc (.cells #[.slice gF bH.length fV, .int .i64 bM, .int .i64 dG, .int .i64 dO, .slice gB bD.length fZ] 25)) := bv (bv HW1.out _) _; (have hwb : w.heap.size < bo := by rw [hbo]; exact hlt1); rw [← hbo] at bL bO ⊢; obtain ⟨W0, hW0⟩ : ∃ W0, W0 = ((w1.alloc (.cells #[.int .i64 1048576] 3)).alloc (.cells #[.slice gF bH.length fV, .int .i64 bM, .int .i64 dG, .int .i64 dO, .slice gB bD.length fZ] 25)) := ⟨_, rfl⟩; rw [← hW0] at bO bL bX hsz hB0 ⊢; clear hW0 hz0 hz1 hz2 hz3 hz4 hlt1 HBX hbo HW1
  refine wpIn_rangeFunc_ownH rfl (by omega) (gf := 73) (lb := #[.pointer (some ⟨bo + 1, 0, none⟩)]) rfl trivial (enters_of Try.func73 (by kernel_rfl) rfl)
   (wu 9 (by omega) (bo + 1) w.heap.size gF fV bH bM dG dO gB fZ bD HV.out.2.2.2.1 HS.out w W0 (Nat.le_refl _) HR0.out HR4.out hB0 (by omega) bL) MK (Oi (by omega)) (Below.refl _ _) (fun _ => rfl)
   (fun pre W => (Boxed W bo 3 (.int .i64 (mP bH bM dG bD pre)) ∧ W.heap[bo + 1]? = some (.cells #[.slice gF bH.length fV, .int .i64 bM, .int .i64 dG, .int .i64 dO, .slice gB bD.length fZ] 25 (0, 0)) ∧ W.heap[w.heap.size]? = some (.cells #[.slice gF bH.length fV, .int .i64 bM, .int .i64 dG, .int .i64 dO, .slice gB bD.length fZ] 25 (0, 0))) ∧ Below w.heap.size w W)
   (fun _ _ _ => False)
   (OwnFrom.and (OwnFrom.and (Own.from (boxed_own bo 3 (fun pre => .int .i64 (mP bH bM dG bD pre))) _) (OwnFrom.and (Own.from (uU _ _ _) _) (Own.from (uU _ _ _) _))) (ownFrom_below (Nat.le_refl _) (by omega)))
   (fun _ _ _ _ _ hs _ _ => hs)
   ⟨⟨bO, bL, bX⟩, hB0⟩
   (fun x a' W => ∃ Bx, bo + 1 < Bx ∧ oJ W Bx (ek bM dG bH bD x.1) ∧ a' = { tmps := #[.agg #[.slice gF bH.length fV, .int .i64 bM, .int .i64 dG, .int .i64 dO, .slice gB bD.length fZ], .pointer (some ⟨w.heap.size, 0, none⟩), .int .i64 0, .int .i64 0, .int .i64 0, .pointer (some ⟨bo, 0, none⟩), .int .i64 (x.1 : Int), .pointer (some ⟨Bx, 0, none⟩), undef, undef, .agg #[.slice gF bH.length fV, .int .i64 bM, .int .i64 dG, .int .i64 dO, .slice gB bD.length fZ], .int .i64 0, .int .i64 0, .bool false, undef, .agg #[.slice gF bH.length fV, .int .i64 bM, .int .i64 dG, .int .i64 dO, .slice gB bD.length fZ], .func (.func 73) #[] #[.pointer (some ⟨bo + 1, 0, none⟩)], .int .i64 (x.1 : Int), .agg (nums .i64 (ek bM dG bH bD x.1)).toArray, undef, undef, undef, undef, undef, undef, undef, undef, undef, undef, undef, undef, undef, undef, undef], defers := [] })
   (fun x a' _ X Y row hs hg hr => by obtain ⟨Bx, h1, h2, h3⟩ := hs; exact ⟨Bx, h1, ⟨h2.1, uU (β := Unit) Bx _ 97 () X Y row h2.2 hg (fun r e => (hr r e).2)⟩, h3⟩)
   ?assign ?body ?done ?stop
  case assign =>
   rintro l pre x W K ⟨⟨hv, hL, hX⟩, hB⟩ hK; dsimp only [LP]; have hlen := jC bM dG bD (ah bH (x.1 : Int)).f1 bD.length; (have hin : (Try.prog.info? 97).map (·.size) = some 64 := by kernel_rfl); have H64 := aa.mk (show (nums .i64 (ek bM dG bH bD x.1)).toArray.size = 64 by simp [nums, ek, hlen]); have HIN := aa.mk hin; have HA := aa.mk (tZ (ek bM dG bH bD x.1)); clear hlen hin; have hK2 := aa.mk hK; clear hK
   gi_wp2_with (refine jh rfl 97 (.tmp 7) (.tmp 18) rfl W.heap.size _ rfl rfl 97 _ (heap_alloc_new W _) (by rw [H64.out]; exact HIN.out) (by rw [H64.out]; rfl) HA.out ?_)
   rw [mK]; refine hK2.out _ _ ((KeepsOthers.alloc _ _).from _) ⟨(Below.refl _ W).alloc hB.size _, fun o ho hc => dF ho _⟩ ⟨⟨hv.alloc _, dF hL _, dF hX _⟩, bv hB _⟩ ⟨W.heap.size, bY hL, ⟨jC _ _ _ _ _, heap_alloc_new W _⟩, rfl⟩
  case body =>
   rintro l pre x a' W hl ⟨r, hr⟩ ⟨⟨hv, hL, hX⟩, hB⟩ ⟨Bx, hBx, bN, rfl⟩ hlt; (have hin : (Try.prog.info? 97).map (·.size) = some 64 := by kernel_rfl); (have hin5 : (Try.prog.info? 95).map (·.size) = some 8 := by kernel_rfl); have H64 := aa.mk (show (nums .i64 (ek bM dG bH bD x.1)).toArray.size = 64 by simp [nums, bN.1]); have HIN := aa.mk hin; have HIN5 := aa.mk hin5; have HV' := aa.mk hv; have HL := aa.mk hL; have HX := aa.mk hX; have HB := aa.mk hB; have HN := aa.mk bN; clear hin hin5 hv hL hB bN; have hz0 : W.cell? ⟨w.heap.size, 0, none⟩ = some (.slice gF bH.length fV) := (ai hX 0).trans rfl; have hz1 : W.cell? ⟨w.heap.size, 1, none⟩ = some (.int .i64 bM) := (ai hX 1).trans rfl; have hz2 : W.cell? ⟨w.heap.size, 2, none⟩ = some (.int .i64 dG) := (ai hX 2).trans rfl; have hz3 : W.cell? ⟨w.heap.size, 3, none⟩ = some (.int .i64 dO) := (ai hX 3).trans rfl; have hz4 : W.cell? ⟨w.heap.size, 4, none⟩ = some (.slice gB bD.length fZ) := (ai hX 4).trans rfl; clear hX
   gi_wp2_with (refine pq rfl 97 (.tmp 7) rfl Bx rfl 97 _ (0, 0) _ HN.out.2 Try.underlying97 rfl (by rw [H64.out]; exact HIN.out) ?_)
   refine ⟨trivial, (CallsIn.inRound l (callsIn_wide.2 (sums.calls (-1) 0 gF fV bH bM dG dO gB bD.length fZ x.1 (ek bM dG bH bD x.1) W (Kd.iK HR0.out HB.out) x.2 HN.out.1 HV.out.2.2.2.1 (HS.out x.1 x.2)))).mono ?_⟩; rintro e w2 ⟨rfl, hb⟩; obtain ⟨es, hes⟩ : ∃ es, es = (gT (-1) 0 (ek bM dG bH bD x.1) (ah bH (x.1 : Int)).f1 bD.length).1 := ⟨_, rfl⟩; obtain ⟨tot, htot⟩ : ∃ tot, tot = (gT (-1) 0 (ek bM dG bH bD x.1) (ah bH (x.1 : Int)).f1 bD.length).2 := ⟨_, rfl⟩; rw [← hes, ← htot]; (have hel : es.length = 8 := by rw [hes]; exact kP _ _ _ _ _); have HE := aa.mk (show (nums .i64 es).toArray.size = 8 by simp [nums, hel]); have HA := aa.mk (tZ es); have HT := aa.mk (show tot = oC bH bM dG bD x.1 from htot); have hbw : Below W.heap.size W w2 := hb; have HBW := aa.mk hbw; have HX2 := aa.mk ((hb.block _ (bY HX.out)).trans HX.out); have hz3 : w2.cell? ⟨w.heap.size, 3, none⟩ = some (.int .i64 dO) := (ai HX2.out 3).trans rfl; have hlt3 : w.heap.size < w2.heap.size := bY HX2.out; clear hes htot hel hb hbw hz0 hz1 hz2 hz4; have HK2 := HV'.out.kept (kr HBW.out none) (by simp); have hv2 := HK2.alloc (.cells (nums .i64 es).toArray 95); (have hsz2 : (w2.alloc (.cells (nums .i64 es).toArray 95)).heap.size = w2.heap.size + 1 := by simp); have hBW2 : Below W.heap.size W (w2.alloc (.cells (nums .i64 es).toArray 95)) := bv HBW.out _; have hKO2 : KeepsOthers W (w2.alloc (.cells (nums .i64 es).toArray 95)) := lw hBW2; have HB2 := aa.mk (jg HB.out HB.out.size hBW2); have HL2 := aa.mk ((hBW2.block _ (bY HL.out)).trans HL.out); have HX3 := aa.mk ((hBW2.block _ (bY HX.out)).trans HX.out); have HBW2 := aa.mk hBW2; have HKO2 := aa.mk hKO2; have hcO := HK2.cell; have hltO : bo < w2.heap.size := HK2.lt; have HKO := aa.mk HK2; clear hKO2 hBW2 HK2 hv2
   gi_wp2_with (refine jh rfl 95 (.tmp 8) (.tmp 25) rfl w2.heap.size _ rfl rfl 95 _ (heap_alloc_new w2 _) (by rw [HE.out]; exact HIN5.out) (by rw [HE.out]; rfl) HA.out ?_; rw [mK])
   refine ⟨trivial, (CallsIn.inRound l (callsIn_wide.2 (Af (mP bH bM dG bD pre) tot (w2.heap.size + 1) _ ?_))).mono ?_⟩
   ·have h := World.cell?_alloc_at (w := w2.alloc (.cells (nums .i64 es).toArray 95)) #[.int .i64 tot] 3 (w2.heap.size + 1) 0 (by simp); exact h.trans rfl
   rintro e w3 ⟨rfl, hb3⟩; have hb3' : Below (w2.alloc (.cells (nums .i64 es).toArray 95)).heap.size (w2.alloc (.cells (nums .i64 es).toArray 95)) w3 := jg (bv (Below.refl _ _) _) (by simp) hb3; have hv3 : Boxed w3 bo 3 (.int .i64 (mP bH bM dG bD pre)) := (HKO.out.alloc (.cells (nums .i64 es).toArray 95)).kept (kr hb3' none) (by simp); have hBW3 := jg HBW2.out HBW2.out.size hb3'; have HB3 := aa.mk (jg HB.out HB.out.size hBW3); have HL3 := aa.mk ((hBW3.block _ (bY HL.out)).trans HL.out); have HX4 := aa.mk ((hBW3.block _ (bY HX.out)).trans HX.out); have HBW3 := aa.mk hBW3; have HV3 := aa.mk hv3; have hc3 := hv3.cell; have hf3 := hv3.frozen; clear hb3 hb3' hBW3 hv3 hcO hltO
   gi_wp2_with (fail)
   refine ⟨((lw HBW3.out).trans (KeepsOthers.setCell _ _ _)).from _, ⟨(HBW3.out.mono HB.out.size).setCell (p := ⟨bo, 0, none⟩) (by simp; omega) _, fun o ho hc => ?_⟩, ⟨?_, bA HL3.out (by simp) _, bA HX4.out (by simp; omega) _⟩, HB3.out.setCell (p := ⟨bo, 0, none⟩) (by simp; omega) _⟩
   ·rw [HL.out] at ho; cases ho; exact bA HL3.out (by simp) _
   ·rw [G6, ← HT.out]; exact HV3.out.set _
  case done =>
   rintro D ys W hD rfl ⟨⟨hv, hL, hX⟩, hB⟩ hK; have hc := hv.cell; have HB := aa.mk hB; obtain ⟨bs, hbs⟩ : ∃ bs, bs = mP bH bM dG bD (List.finRange bH.length) := ⟨_, rfl⟩; rw [← hbs] at hc; have HH' := HH; rw [← hbs] at HH'; have HKD := aa.mk hK; clear hbs hX hL hB HH hK hv; have hh := HH'.out; by_cases h0 : bs ≥ 1048576
   ·rw [if_pos h0] at hh; simp only [Prod.mk.injEq] at hh; obtain ⟨rfl, rfl⟩ := hh; have hz : decide (1048576 ≤ bs) = true := decide_eq_true h0; clear h0 HH'
    gi_wp2_with (fail)
    refine ⟨by simp, .inl ⟨_, _, rfl, run_takeDeferred HKD.out, ?_⟩⟩; exact ⟨_, results_tmp2 rfl _ _ _, rfl, HB.out.trans (belowK_b (w := w) (Nat.le_refl _) W D _ _ (by omega) HKD.out rfl rfl)⟩
   ·rw [if_neg h0] at hh; simp only [Prod.mk.injEq] at hh; obtain ⟨rfl, rfl⟩ := hh; have hz : decide (1048576 ≤ bs) = false := decide_eq_false h0; clear h0 HH'
    gi_wp2_with (fail)
    refine ⟨by simp, .inl ⟨_, _, rfl, run_takeDeferred HKD.out, ?_⟩⟩; exact ⟨_, results_tmp2 rfl _ _ _, rfl, HB.out.trans (belowK_b (w := w) (Nat.le_refl _) W D _ _ (by omega) HKD.out rfl rfl)⟩
  case stop =>
   rintro D c pre W _ _ h _; exact h.elim
 ·rw [if_neg h0] at h'; simp only [Prod.mk.injEq] at h'; obtain ⟨rfl, rfl⟩ := h'; (have hd : (ch == 0) = false := by simp [h0]); (have hd2 : (ch != 0) = true := by simp [h0]); clear h0 hch
  gi_wp2_with (fail)
  exact ⟨_, results_tmp2 rfl _ _ _, rfl, HW1.out⟩
end Go.Proofs.Ytihedeofkhapiaa.Pr
end
section
namespace Go.Proofs.Ytihedeofkhapiaa.Pr
open Go.RowKit Go.Proofs.YtihedeofkhapiaaW.PrintWords Go.Proofs.YtihedeofkhapiaaW.PrintLast Go.Proofs.YtihedeofkhapiaaW.PrintMore
attribute [local go_sem] nP nM oZ pE mi mq nL nJ
def jP.f (bH : List (S66)) (bM : Int) (dG : Int) (dO : Int) (bD : List (List (S27))) : Option (List Int × Int) := (iH.f bH bM dG dO bD).bind fun FR => (some (FR.1, FR.2))
set_option maxHeartbeats 8000000 in
set_option maxRecDepth 100000 in
theorem jP.calls (gF : Option Addr) (fV : Nat) (bH : List (S66)) (bM : Int) (dG : Int) (dO : Int) (gB : Option Addr) (fZ : Nat) (bD : List (List (S27))) (r1 : List Int) (r2 : Int) (w : World) (og : Kd.C k66 w gF bH.length bH) (qI : bH.length ≤ fV) (ol : Kd.C (Kd.slice 27 k27) w gB bD.length bD) (qJ : bD.length ≤ fZ) (h : jP.f bH bM dG dO bD = some (r1, r2)) :
 Calls Try.prog 27 #[.agg #[.slice gF bH.length fV, .int .i64 bM, .int .i64 dG, .int .i64 dO, .slice gB bD.length fZ]] w fun e w' => ∃ v0_ : Value, e = .returned (.tuple #[v0_, .int .i64 r2]) ∧ Kd.R (Kd.int .i64) 3 w' w.heap.size (fun _ => True) v0_ r1 ∧ Below w.heap.size w w' := by
 have hu25 := Try.underlying25; have wz := aa.mk og; have yJ := aa.mk qI; clear og qI; have wH := aa.mk ol; have yh := aa.mk qJ; clear ol qJ; have HB := aa.mk (Below.refl w.heap.size w); have H : ((iH.f bH bM dG dO bD).bind fun FR => (some (FR.1, FR.2))) = some (r1, r2) := h; clear h; replace H := Option.bind_eq_some_iff.mp H; obtain ⟨⟨agF, ag1⟩, A20, H⟩ := H; dsimp only at H; have A2 := aa.mk A20; clear A20; simp only [Option.some.injEq, Prod.mk.injEq] at H; obtain ⟨rfl, rfl⟩ := H; go_enter Try.func27, Try.ntmps27; go_wp2_with (first | ((with_reducible refine dL (N := 1) rfl ?_); refine eG ?hg (N := 1) ?hd (cs := #[.slice gF bH.length fV, .int .i64 bM, .int .i64 dG, .int .i64 dO, .slice gB bD.length fZ]) (t := 25) ?hr ?_; (case hd => rfl); (case hg => rfl); (case hr => (go_simp; done)); intro WB hg w3 hbox hb; have Ph := aa.mk (hbox); have ajY := aa.mk ((by rw [hg]; exact (aK (by exact HB.out)) : w.heap.size ≤ WB)); have aim := aa.mk ((by rw [hg]; exact (aK (by exact HB.out)) : w.heap.size ≤ WB)); replace HB := aa.mk (bn (by exact HB.out) hb); clear hb hbox hg; obtain ⟨XA, ZJ, Zh, X0, Zp, Zq, Za, YP, ZM, ZH⟩ := cells5 Ph.out) | ((with_reducible refine bC (f := 58) rfl ?_); refine fA (some 5) rfl rfl Try.func58 (by kernel_rfl) rfl #[.agg #[.slice gF bH.length fV, .int .i64 bM, .int .i64 dG, .int .i64 dO, .slice gB bD.length fZ]] rfl (by (simp only [List.map_toArray, List.map_cons, List.map_nil]); rfl) ?_; (with_reducible refine (iH.calls _ _ bH bM dG dO _ _ bD agF ag1 _ ?side1 ?side2 ?side3 ?side4 A2.out).mono ?_); (case side1 => repeat (exact (Kd.iK wz.out HB.out))); (case side2 => exact yJ.out); (case side3 => repeat (exact (Kd.iK wH.out HB.out))); (case side4 => exact yh.out); rintro e w5 ⟨ak1, rfl, ho0, hb⟩; refine ⟨_, rfl, ?_⟩; have adn := aa.mk (Kd.fU ho0 (aK (by exact HB.out))); replace Ph := aa.mk (aN (bU Ph.out) hb); replace HB := aa.mk (bn (by exact HB.out) hb); clear hb; (clear ho0)))
 go_ret2
 exact ⟨_, by rfl, by (with_reducible skip); exact adn.out, by exact HB.out⟩
end Go.Proofs.Ytihedeofkhapiaa.Pr
end
section
namespace Go.Proofs.Ytihedeofkhapiaa.Pr
open Go.RowKit Go.Proofs.YtihedeofkhapiaaW.PrintWords Go.Proofs.YtihedeofkhapiaaW.PrintLast Go.Proofs.YtihedeofkhapiaaW.PrintMore
theorem Lg (v : Nat) (hv : v < 32) : ∀ (q : List S27) (h : Nat), h < 32 → (∀ x ∈ q, Aq v x) →
 ∃ g : Nat, g < 32 ∧ q.foldl seenStep ((h : Int), ((v &&& h : Nat) : Int)) = ((g : Int), ((v &&& g : Nat) : Int)) ∧ (∀ a : Nat, a < 32 → a &&& h = a → a &&& g = a) ∧ ∀ x ∈ q, ∃ a : Nat, a < 32 ∧ x = ⟨(a : Int), ((v &&& a : Nat) : Int)⟩ ∧ a &&& g = a := by
 intro q
 induction q with
 | nil => exact fun h hh _ => ⟨h, hh, rfl, fun a _ e => e, fun x hx => absurd hx List.not_mem_nil⟩
 | cons x r ih =>
  intro h hh hx; obtain ⟨a, ha, rfl⟩ := hx x List.mem_cons_self; have hva : v &&& a < 32 := Nat.lt_of_le_of_lt Nat.and_le_left hv; have hvh : v &&& h < 32 := Nat.lt_of_le_of_lt Nat.and_le_left hv
  have e : seenStep ((h : Int), ((v &&& h : Nat) : Int)) ⟨(a : Int), ((v &&& a : Nat) : Int)⟩ = (((h ||| a : Nat) : Int), ((v &&& (h ||| a) : Nat) : Int)) := by
   simp only [seenStep]; rw [KZ ⟨h, hh⟩ ⟨a, ha⟩, KZ ⟨v &&& h, hvh⟩ ⟨v &&& a, hva⟩]; have := Zv ⟨v, hv⟩ ⟨h, hh⟩ ⟨a, ha⟩; simp only [] at this ⊢; rw [this]
  obtain ⟨g, hg, hf, hs, hq⟩ := ih (h ||| a) (yC ⟨h, hh⟩ ⟨a, ha⟩) (fun y hy => hx y (List.mem_cons_of_mem _ hy)); refine ⟨g, hg, by rw [List.foldl_cons, e, hf], fun b hb e => hs b hb (Zr ⟨b, hb⟩ ⟨h, hh⟩ ⟨a, ha⟩ e), fun y hy => ?_⟩; rcases List.mem_cons.1 hy with rfl | hy
  ·exact ⟨a, ha, rfl, hs a ha (Qx ⟨a, ha⟩ ⟨h, hh⟩)⟩
  ·exact hq y hy
theorem FJ (v : Nat) (hv : v < 32) (q : List S27) (hx : ∀ x ∈ q, Aq v x) : ∃ g : Nat, g < 32 ∧ jY q = ((g : Int), ((v &&& g : Nat) : Int), true) := by
 obtain ⟨g, hg, hf, _, hq⟩ := Lg v hv q 0 (by omega) hx
 have hA : yY q = ((g : Int), ((v &&& g : Nat) : Int)) := by
  rw [← hf]; simp [yY]
 have hok : ∀ r : List S27, (∀ x ∈ r, x ∈ q) → r.foldl (tT ((v &&& g : Nat) : Int)) true = true := by
  intro r
  induction r with
  | nil => exact fun _ => rfl
  | cons x r ih =>
   intro hr; obtain ⟨a, ha, rfl, hag⟩ := hq x (hr x List.mem_cons_self); have hvg : v &&& g < 32 := Nat.lt_of_le_of_lt Nat.and_le_left hv
   have e : tT ((v &&& g : Nat) : Int) true ⟨(a : Int), ((v &&& a : Nat) : Int)⟩ = true := by
    simp only [tT, if_true]; rw [Dq ⟨v &&& g, hvg⟩ ⟨a, ha⟩]; have := RI ⟨v, hv⟩ ⟨g, hg⟩ ⟨a, ha⟩ hag; simp only [] at this ⊢; rw [this]; exact beq_self_eq_true _
   rw [List.foldl_cons, e]; exact ih (fun y hy => hr y (List.mem_cons_of_mem _ hy))
 refine ⟨g, hg, ?_⟩; rw [jY, hA]; simp only []; rw [hok q (fun x hx => hx)]
theorem Lu {W S : Int} {sh : List S86} (hasc : Asc sh) {q : List S27} {k v : Nat} (hk : k < sh.length) (hv : v < 32) (hx : ∀ x ∈ q, Aq v x) (hl : (lost (df sh k) v : Int) ≤ W) (hm : (made (df sh k) v : Int) ≤ S) :
 0 ≤ cellP W S (jY q) (au sh (k : Int)) ∧ cellP W S (jY q) (au sh (k : Int)) ≤ (lost (df sh k) v : Int) + (made (df sh k) v : Int) ∧ cellP W S (jY q) (au sh (k : Int)) < 1048576 := by
 obtain ⟨g, hg, hs⟩ := FJ v hv q hx
 have hmem : sh.getD k z86 ∈ sh := by
  rw [List.getD_eq_getElem?_getD, List.getElem?_eq_getElem hk]; exact List.getElem_mem _
 have hst := hasc.1 _ hmem; (have hs32 : df sh k < 32 := by unfold df; omega); (have es : (sh.getD k z86).f1 = (df sh k : Int) := by unfold df; omega); have b1 : df sh k &&& g < 32 := Nat.lt_of_le_of_lt Nat.and_le_left hs32; have b2 : v &&& g < 32 := Nat.lt_of_le_of_lt Nat.and_le_left hv; have b3 : (df sh k &&& g) &&& (31 ^^^ (v &&& g)) < 32 := Nat.lt_of_le_of_lt Nat.and_le_left b1; have b4 : (v &&& g) &&& (31 ^^^ df sh k) < 32 := Nat.lt_of_le_of_lt Nat.and_le_left b2
 have e1 : oP (iM (Go.bits .and .i64 (sh.getD k z86).f1 (g : Int)) ((v &&& g : Nat) : Int)) = (pop ((df sh k &&& g) &&& (31 ^^^ (v &&& g))) : Int) := by
  rw [es, Dq ⟨df sh k, hs32⟩ ⟨g, hg⟩, DK ⟨df sh k &&& g, b1⟩ ⟨v &&& g, b2⟩, zH ⟨_, b3⟩]
 have e2 : oP (iM ((v &&& g : Nat) : Int) (sh.getD k z86).f1) = (pop ((v &&& g) &&& (31 ^^^ df sh k)) : Int) := by
  rw [es, DK ⟨v &&& g, b2⟩ ⟨df sh k, hs32⟩, zH ⟨_, b4⟩]
 have hsl := LC ⟨df sh k, hs32⟩ ⟨v, hv⟩ ⟨g, hg⟩; simp only [] at hsl; have p1 := zP ⟨_, b3⟩; have p2 := zP ⟨_, b4⟩; simp only [] at p1 p2
 have ec : cellP W S (jY q) (au sh (k : Int)) = (pop ((df sh k &&& g) &&& (31 ^^^ (v &&& g))) : Int) + (pop ((v &&& g) &&& (31 ^^^ df sh k)) : Int) := by
  rw [cellP, hs, Bu, if_pos ⟨rfl, by simp only []; rw [e1]; omega, by simp only []; rw [e2]; omega⟩]; simp only []; rw [e1, e2, fE (by omega) (by omega)]
 rw [ec]; omega
theorem ME (W S : Int) {sh : List S86} (hasc : Asc sh) {q : List S27} {k v : Nat} (hk : k < sh.length) (hv : v < 32) (hx : ∀ x ∈ q, Aq v x) :
 0 ≤ cellP W S (jY q) (au sh (k : Int)) ∧ cellP W S (jY q) (au sh (k : Int)) ≤ 1048576 := by
 obtain ⟨g, hg, hs⟩ := FJ v hv q hx
 have hmem : sh.getD k z86 ∈ sh := by
  rw [List.getD_eq_getElem?_getD, List.getElem?_eq_getElem hk]; exact List.getElem_mem _
 have hst := hasc.1 _ hmem; (have hs32 : df sh k < 32 := by unfold df; omega); (have es : (sh.getD k z86).f1 = (df sh k : Int) := by unfold df; omega); have b1 : df sh k &&& g < 32 := Nat.lt_of_le_of_lt Nat.and_le_left hs32; have b2 : v &&& g < 32 := Nat.lt_of_le_of_lt Nat.and_le_left hv; have b3 : (df sh k &&& g) &&& (31 ^^^ (v &&& g)) < 32 := Nat.lt_of_le_of_lt Nat.and_le_left b1; have b4 : (v &&& g) &&& (31 ^^^ df sh k) < 32 := Nat.lt_of_le_of_lt Nat.and_le_left b2
 have e1 : oP (iM (Go.bits .and .i64 (sh.getD k z86).f1 (g : Int)) ((v &&& g : Nat) : Int)) = (pop ((df sh k &&& g) &&& (31 ^^^ (v &&& g))) : Int) := by
  rw [es, Dq ⟨df sh k, hs32⟩ ⟨g, hg⟩, DK ⟨df sh k &&& g, b1⟩ ⟨v &&& g, b2⟩, zH ⟨_, b3⟩]
 have e2 : oP (iM ((v &&& g : Nat) : Int) (sh.getD k z86).f1) = (pop ((v &&& g) &&& (31 ^^^ df sh k)) : Int) := by
  rw [es, DK ⟨v &&& g, b2⟩ ⟨df sh k, hs32⟩, zH ⟨_, b4⟩]
 have p1 := zP ⟨_, b3⟩; have p2 := zP ⟨_, b4⟩; simp only [] at p1 p2; rw [cellP, hs, Bu]; split
 ·simp only []; rw [e1, e2, fE (by omega) (by omega)]; omega
 ·exact ⟨by decide, by decide⟩
theorem IQ (W S : Int) (q : Int × Int × Bool) (sh : List S86) (i : Nat) (m : List Int) (hi : i < 8) (hm : m.length = 64) : ∀ K, K ≤ 8 → ∀ i' k, i' < 8 → k < 8 →
 (vo W S q sh i m K).getD (i' * 8 + k) 0 = if i' = i ∧ k < K then cellP W S q (au sh (k : Int)) else m.getD (i' * 8 + k) 0 := by
 intro K
 induction K with
 | zero => intro _ i' k _ _; rw [vo, if_neg (by omega)]
 | succ K ih =>
  intro hK i' k hi' hk; (have hlen : (vo W S q sh i m K).length = 64 := by rw [uO, hm]); rw [vo, List.getD_eq_getElem?_getD, List.getElem?_set]; by_cases he : i * 8 + K = i' * 8 + k
  ·(obtain ⟨rfl, rfl⟩ : i = i' ∧ K = k := by omega); rw [if_pos rfl, if_pos (by omega), if_pos (by omega)]; rfl
  ·rw [if_neg he, ← List.getD_eq_getElem?_getD, ih (by omega) i' k hi' hk]; by_cases h1 : i' = i ∧ k < K
   ·rw [if_pos h1, if_pos (by omega)]
   ·rw [if_neg h1, if_neg (by omega)]
theorem rq (W S : Int) (l4 : List (List S27)) (sh : List S86) (hsh : sh.length ≤ 8) : ∀ n, n ≤ 8 → ∀ i k, i < n → k < sh.length →
 (fB W S l4 sh n).getD (i * 8 + k) 0 = cellP W S (jY (eH l4 (i : Int))) (au sh (k : Int)) := by
 intro n
 induction n with
 | zero => intro _ i k hi; omega
 | succ n ih =>
  intro hn i k hi hk; rw [fB, IQ _ _ _ _ _ _ (by omega) (jC _ _ _ _ _) _ hsh i k (by omega) (by omega)]; by_cases he : i = n
  ·subst he; rw [if_pos ⟨rfl, hk⟩]
  ·rw [if_neg (by omega)]; exact ih (by omega) i k (by omega) hk
theorem SG (m : List Int) (i : Nat) (sh : List S86) : ∀ K k, k < K → jd (-1) 0 m i sh K ≤ m.getD (i * 8 + k) 0 := by
 intro K
 induction K with
 | zero => intro k hk; omega
 | succ K ih =>
  intro k hk; (have hm : vP (-1) 0 (i : Int) (au sh (K : Int)) = true := by rw [vP, if_neg (by omega)]); rw [jd, if_pos hm]; unfold mn; by_cases he : k = K
  ·subst he; split <;> omega
  ·have := ih k (by omega); split <;> omega
theorem vR (m : List Int) (i : Nat) (sh : List S86) : ∀ K, (∀ k, k < K → 0 ≤ m.getD (i * 8 + k) 0) → 0 ≤ jd (-1) 0 m i sh K ∧ jd (-1) 0 m i sh K ≤ 1048576 := by
 intro K
 induction K with
 | zero => intro _; exact ⟨by simp [jd, lH], by simp [jd, lH]⟩
 | succ K ih =>
  intro h; (have hm : vP (-1) 0 (i : Int) (au sh (K : Int)) = true := by rw [vP, if_neg (by omega)]); have h1 := ih (fun k hk => h k (by omega)); have h2 := h K (by omega); rw [jd, if_pos hm]; unfold mn; split <;> omega
def tJ (f : Nat → Int) : Nat → Int
 | 0 => 0
 | n + 1 => tJ f n + f n
theorem EB {f g : Nat → Int} : ∀ n, (∀ i, i < n → f i ≤ g i) → tJ f n ≤ tJ g n
 | 0, _ => Int.le_refl _
 | n + 1, h => by
  have h1 := EB n (fun i hi => h i (by omega)); have h2 := h n (by omega); simp only [tJ]; omega
theorem Du {f g : Nat → Int} : ∀ n, (∀ i, i < n → f i ≤ g i) → ∀ i, i < n → tJ f n - f i ≤ tJ g n - g i
 | 0, _, i, hi => by omega
 | n + 1, h, i, hi => by
  simp only [tJ]; have h2 := h n (by omega); by_cases he : i = n
  ·subst he; have h1 := EB i (fun j hj => h j (by omega)); omega
  ·have h1 := Du n (fun j hj => h j (by omega)) i (by omega); omega
theorem vO {f : Nat → Int} : ∀ n, n ≤ 8 → (∀ i, i < n → 0 ≤ f i ∧ f i ≤ 1048576) → 0 ≤ tJ f n ∧ tJ f n ≤ 1048576 * n
 | 0, _, _ => by simp [tJ]
 | n + 1, hn, h => by
  have h1 := vO n (by omega) (fun i hi => h i (by omega)); have h2 := h n (by omega); simp only [tJ]; push_cast; omega
theorem Gq : ∀ ms : List Int, tJ (fun j => ms.getD j 0) ms.length = ms.sum := by
 have h : ∀ (ms : List Int) (n : Nat), n ≤ ms.length → tJ (fun j => ms.getD j 0) n = (ms.take n).sum := by
  intro ms n
  induction n with
  | zero => intro _; simp [tJ]
  | succ n ih =>
   intro hn; rw [tJ, ih (by omega), ← List.take_append_getElem (by omega), List.sum_append]; simp [List.getD_eq_getElem?_getD, show n < ms.length by omega]
 intro ms; rw [h ms _ (Nat.le_refl _), List.take_length]
theorem KA (m : List Int) (sh : List S86) : ∀ n, n ≤ 8 → (∀ i k, i < n → k < sh.length → 0 ≤ m.getD (i * 8 + k) 0) →
 (gT (-1) 0 m sh n).2 = tJ (fun i => jd (-1) 0 m i sh sh.length) n ∧ ∀ i, i < n → (gT (-1) 0 m sh n).1.getD i 0 = jd (-1) 0 m i sh sh.length := by
 intro n
 induction n with
 | zero => intro _ _; exact ⟨rfl, fun i hi => by omega⟩
 | succ n ih =>
  intro hn h; obtain ⟨h1, h2⟩ := ih (by omega) (fun i k hi hk => h i k (by omega) hk); have hb := vO (f := fun i => jd (-1) 0 m i sh sh.length) n (by omega) (fun i hi => vR m i sh _ (fun k hk => h i k (by omega) hk)); have hb2 := vR m n sh _ (fun k hk => h n k (by omega) hk); refine ⟨?_, fun i hi => ?_⟩
  ·rw [gT]; simp only [tJ]; rw [h1, fE (by omega) (by omega)]
  ·rw [gT]; simp only []; rw [List.getD_eq_getElem?_getD, List.getElem?_set]; have hl := kP (-1) 0 m sh n; by_cases he : n = i
   ·subst he; rw [if_pos rfl, if_pos (by omega)]; rfl
   ·rw [if_neg he, ← List.getD_eq_getElem?_getD]; exact h2 i (by omega)
end Go.Proofs.Ytihedeofkhapiaa.Pr
end
