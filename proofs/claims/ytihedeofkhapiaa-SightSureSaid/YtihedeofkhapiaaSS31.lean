/- Part 31 of 34 of the proof of: SightSure: for every slice of numbers, the law returns true: of a line made of them, a printed letter that stands alone fits alone, the letters in braces are all that fit, and there is a dash where more than three do; no condition beyond the statement's own. -/
import Derived.RangeFuncBox
import Derived.Maps.AppendAt
import Derived.Test.YtihedeofkhapiaaSS5
import Derived.Test.YtihedeofkhapiaaSS21
import Derived.Test.YtihedeofkhapiaaSS24
import Derived.Test.YtihedeofkhapiaaSS30
set_option linter.unusedVariables false
set_option linter.unusedSimpArgs false
section
namespace Go.Proofs.Ytihedeofkhapiaa.Pr
open Go.RowKit Go.Shelf Go.Proofs.YtihedeofkhapiaaW.PrintWords Go.Proofs.YtihedeofkhapiaaW.PrintLast Go.Proofs.YtihedeofkhapiaaW.PrintMore
attribute [local go_sem] Oper.semAt_some
def totalP (l0 : List S66) (a1 a2 : Int) (l4 : List (List S27)) (x : Nat) : Int := (sumsTo (-1) 0 (needsHand a1 a2 l0 l4 x) (aA l0 (x : Int)).f1 l4.length).2
def fitUp (l0 : List S66) (a1 a2 a3 : Int) (l4 : List (List S27)) (pre : List (Fin l0.length)) : List Int := (pre.filter fun x => decide (totalP l0 a1 a2 l4 x.1 ≤ a3)).map fun x => (x.1 : Int)
theorem fitUp_hit {l0 : List S66} {a1 a2 a3 : Int} {l4 : List (List S27)} (pre : List (Fin l0.length)) {x : Fin l0.length} (h : totalP l0 a1 a2 l4 x.1 ≤ a3) : fitUp l0 a1 a2 a3 l4 (pre ++ [x]) = fitUp l0 a1 a2 a3 l4 pre ++ [(x.1 : Int)] := by
 simp [fitUp, List.filter_append, h]
theorem fitUp_miss {l0 : List S66} {a1 a2 a3 : Int} {l4 : List (List S27)} (pre : List (Fin l0.length)) {x : Fin l0.length} (h : ¬ totalP l0 a1 a2 l4 x.1 ≤ a3) : fitUp l0 a1 a2 a3 l4 (pre ++ [x]) = fitUp l0 a1 a2 a3 l4 pre := by
 simp [fitUp, List.filter_append, h]
theorem fitUp_length {l0 : List S66} {a1 a2 a3 : Int} {l4 : List (List S27)} (pre : List (Fin l0.length)) : (fitUp l0 a1 a2 a3 l4 pre).length ≤ pre.length := by
 simp only [fitUp, List.length_map]; exact List.length_filter_le _ _
def fittingP (l0 : List S66) (a1 a2 a3 : Int) (l4 : List (List S27)) : List Int × Int :=
 if checkP l0 a1 a2 a3 l4 = 0 then (if fitUp l0 a1 a2 a3 l4 (List.finRange l0.length) = [] then ([], 9) else (fitUp l0 a1 a2 a3 l4 (List.finRange l0.length), 0)) else ([], checkP l0 a1 a2 a3 l4)
def ig.f (bH : List (S66)) (bC : Int) (bS : Int) (bW : Int) (bA : List (List (S27))) : Option (List Int × Int) := some (fittingP bH bC bS bW bA)
theorem nums_one (m : List Int) : ((nums .i64 m).toArray.all (·.oneCell')) = true := by
 rw [Array.all_eq_true_iff_forall_mem]; intro v hv; simp only [nums, List.mem_toArray, List.mem_map] at hv; obtain ⟨x, _, rfl⟩ := hv; rfl
theorem alloc_setRow (W : World) (cs cs' : Array Value) (t : TypeId) : (W.alloc (.cells cs t (0, 0))).setRow W.heap.size cs' = W.alloc (.cells cs' t (0, 0)) := by
 have h : (W.heap.push (.cells cs t (0, 0))).modify W.heap.size (fun | .cells _ elem frozen => .cells cs' elem frozen | o => o) = W.heap.push (.cells cs' t (0, 0)) := by
  apply Array.ext_getElem?; intro i; rw [Array.getElem?_modify]; by_cases hi : W.heap.size = i
  ·subst hi; rw [if_pos rfl, Array.getElem?_push_size, Array.getElem?_push_size]; rfl
  ·rw [if_neg hi, Array.getElem?_push, Array.getElem?_push, if_neg (fun e => hi e.symm), if_neg (fun e => hi e.symm)]
 unfold World.setRow World.alloc; dsimp only; congr 1
theorem keepsOthers_below {W W' : World} (h : Below W.heap.size W W') : KeepsOthers W W' := ⟨h.size, fun k o hk _ => (h.block k (bM hk)).trans hk⟩
theorem qU {W : World} {g : Nat} {cs : Array Value} {t : TypeId} {base e size n : Nat} {v : Value} {xs : List Value} (h : W.heap[g]? = some (.cells cs t (0, 0))) (hr : W.ownsRow base e size v n xs) (hte : t ≠ e) : some g ≠ v.ownBlock := by
 intro hk; obtain ⟨cells, hc⟩ := own_typed hr g hk.symm; rw [h] at hc; injection hc with hc; injection hc with _ hc; exact hte hc
theorem R_putObj {α : Type} {d : Kd α} {e : Nat} {W : World} {base : Nat} {ok : Nat → Prop} {v : Value} {xs : List α} (h : Kd.R d e W base ok v xs) {l : Nat} {o o' : Obj} (hl : W.heap[l]? = some o) (ho : o.isCells = false) : Kd.R d e (W.putObj l o') base ok v xs :=
 Kd.R_mono (Kd.R_grown (Kd.R_bound h) (grownBy_putObj' W l o') (fun k hk e => by
  obtain ⟨_, _, _, q, _, cells, hc⟩ := hk; cases e; rw [hl] at hc; cases hc
  cases ho)) (fun _ hk => hk.1)
theorem mY {β : Type} (g : Nat) (cs : Array Value) (t : TypeId) : Own (fun (_ : β) W => W.heap[g]? = some (.cells cs t (0, 0))) := fun s X Y row hs hg hr =>
 (hg.block g (bM hs) (fun e => by obtain ⟨o, ho, hc⟩ := hr g e.symm; rw [hs] at ho; cases ho; cases hc)).trans hs
set_option maxRecDepth 100000 in
set_option maxHeartbeats 4000000 in
theorem ig.calls (dS : Option Addr) (dO : Nat) (bH : List (S66)) (bC : Int) (bS : Int) (bW : Int) (dP : Option Addr) (dN : Nat) (bA : List (List (S27))) (r1 : List Int) (r2 : Int) (w : World) (kL : Kd.C k66 w dS bH.length bH) (mo : bH.length ≤ dO) (kP : Kd.C (Kd.slice 27 k27) w dP bA.length bA) (mq : bA.length ≤ dN) (h : ig.f bH bC bS bW bA = some (r1, r2)) :
 Calls Try.prog 58 #[.agg #[.slice dS bH.length dO, .int .i64 bC, .int .i64 bS, .int .i64 bW, .slice dP bA.length dN]] w fun e w' => ∃ v0_ : Value, e = .returned (.tuple #[v0_, .int .i64 r2]) ∧ Kd.R (Kd.int .i64) 3 w' w.heap.size (fun _ => True) v0_ r1 ∧ Below w.heap.size w w' := by
 have h' := Option.some.inj h; clear h; obtain ⟨ch, hch⟩ : ∃ ch, ch = checkP bH bC bS bW bA := ⟨_, rfl⟩; rw [fittingP, ← hch] at h'; have HC := check_calls dS dO bH bC bS bW dP dN bA (w.alloc (.cells #[.slice dS bH.length dO, .int .i64 bC, .int .i64 bS, .int .i64 bW, .slice dP bA.length dN] 25)) (Kd.C_below kL (ah (Below.refl _ _) _)) mo (Kd.C_below kP (ah (Below.refl _ _) _)) mq; rw [← hch] at HC; refine callsIn_wide (n := 10).1 ?_; refine callsIn_of_wp_marks Try.func58 rfl trivial ?_ rfl; simp only [Try.ntmps58, List.size_toArray, List.length_cons, List.length_nil, Nat.reduceAdd, Nat.reduceSub, Array.replicate_succ, Array.replicate_zero, List.push_toArray, List.append_toArray, List.nil_append, List.cons_append]
 gi_wp2_with (fail)
 refine ⟨trivial, ?_⟩; refine (callsIn_wide.2 HC).mono ?_; rintro e w1 ⟨rfl, hb⟩; have HW1 := aa.mk (fM (ah (Below.refl _ _) _) (by simp) hb); have hBx := (hb.block _ (bM (heap_alloc_new w (.cells #[.slice dS bH.length dO, .int .i64 bC, .int .i64 bS, .int .i64 bW, .slice dP bA.length dN] 25)))).trans (heap_alloc_new w _); have HBX := aa.mk hBx; have HR0 := aa.mk kL; have HR4 := aa.mk kP; clear hBx hb HC kL kP; by_cases h0 : ch = 0
 ·rw [if_pos h0] at h'; have hv := check_bounds (hch.symm.trans h0); have HV := aa.mk hv; have HS := aa.mk (check_shapes hv.2.2.2.2.1); subst h0; have HH := aa.mk h'; clear h' hv hch; have hz0 : w1.cell? ⟨w.heap.size, 0, none⟩ = some (.slice dS bH.length dO) := (ai HBX.out 0).trans rfl; have hz1 : w1.cell? ⟨w.heap.size, 1, none⟩ = some (.int .i64 bC) := (ai HBX.out 1).trans rfl; have hz2 : w1.cell? ⟨w.heap.size, 2, none⟩ = some (.int .i64 bS) := (ai HBX.out 2).trans rfl; have hz3 : w1.cell? ⟨w.heap.size, 3, none⟩ = some (.int .i64 bW) := (ai HBX.out 3).trans rfl; have hz4 : w1.cell? ⟨w.heap.size, 4, none⟩ = some (.slice dP bA.length dN) := (ai HBX.out 4).trans rfl; have hlt1 : w.heap.size < w1.heap.size := bM HBX.out
  gi_wp2_with (fail)
  refine ⟨trivial, ?_⟩; refine (hands_in _ _ _ _ _ _ _ _ _ _ _).mono ?_; rintro e w2 ⟨rfl, rfl⟩
  gi_wp2_with (fail)
  obtain ⟨bo, hbo⟩ : ∃ bo, bo = w1.heap.size := ⟨_, rfl⟩; have bO := (Boxed.new w1 28 (.slice none 0 0)).alloc (.cells #[.slice dS bH.length dO, .int .i64 bC, .int .i64 bS, .int .i64 bW, .slice dP bA.length dN] 25)
  have bL : ((w1.alloc (.cells #[.slice none 0 0] 28)).alloc (.cells #[.slice dS bH.length dO, .int .i64 bC, .int .i64 bS, .int .i64 bW, .slice dP bA.length dN] 25)).heap[w1.heap.size + 1]? = some (.cells #[.slice dS bH.length dO, .int .i64 bC, .int .i64 bS, .int .i64 bW, .slice dP bA.length dN] 25 (0, 0)) := by
   have := heap_alloc_new (w1.alloc (.cells #[.slice none 0 0] 28)) (.cells #[.slice dS bH.length dO, .int .i64 bC, .int .i64 bS, .int .i64 bW, .slice dP bA.length dN] 25)
   rwa [World.size_alloc] at this
  have bX : ((w1.alloc (.cells #[.slice none 0 0] 28)).alloc (.cells #[.slice dS bH.length dO, .int .i64 bC, .int .i64 bS, .int .i64 bW, .slice dP bA.length dN] 25)).heap[w.heap.size]? = some (.cells #[.slice dS bH.length dO, .int .i64 bC, .int .i64 bS, .int .i64 bW, .slice dP bA.length dN] 25 (0, 0)) := ak (ak HBX.out _) _; (have hsz : ((w1.alloc (.cells #[.slice none 0 0] 28)).alloc (.cells #[.slice dS bH.length dO, .int .i64 bC, .int .i64 bS, .int .i64 bW, .slice dP bA.length dN] 25)).heap.size = bo + 2 := by simp [hbo]); have hB0 : Below w.heap.size w ((w1.alloc (.cells #[.slice none 0 0] 28)).alloc (.cells #[.slice dS bH.length dO, .int .i64 bC, .int .i64 bS, .int .i64 bW, .slice dP bA.length dN] 25)) := ah (ah HW1.out _) _; (have hwb : w.heap.size < bo := by rw [hbo]; exact hlt1); rw [← hbo] at bL bO ⊢; obtain ⟨W0, hW0⟩ : ∃ W0, W0 = ((w1.alloc (.cells #[.slice none 0 0] 28)).alloc (.cells #[.slice dS bH.length dO, .int .i64 bC, .int .i64 bS, .int .i64 bW, .slice dP bA.length dN] 25)) := ⟨_, rfl⟩; rw [← hW0] at bO bL bX hsz hB0 ⊢; clear hW0 hz0 hz1 hz2 hz3 hz4 hlt1 HBX hbo HW1
  refine wpIn_rangeFunc_ownH rfl (by omega) (gf := 73) (lb := #[.pointer (some ⟨bo + 1, 0, none⟩)]) rfl trivial (enters_of Try.func73 (by kernel_rfl) rfl)
   (hands_stops 9 (by omega) (bo + 1) w.heap.size dS dO bH bC bS bW dP dN bA HV.out.2.2.2.1 HS.out w W0 (Nat.le_refl _) HR0.out HR4.out hB0 (by omega) bL) KpB_t (KpB_b (by omega)) (Below.refl _ _) (fun _ => rfl)
   (fun pre W => ((∃ v, Boxed W bo 28 v ∧ W.ownsRow w.heap.size 3 1 v (fitUp bH bC bS bW bA pre).length (nums .i64 (fitUp bH bC bS bW bA pre)) ∧ True) ∧ W.heap[bo + 1]? = some (.cells #[.slice dS bH.length dO, .int .i64 bC, .int .i64 bS, .int .i64 bW, .slice dP bA.length dN] 25 (0, 0)) ∧ W.heap[w.heap.size]? = some (.cells #[.slice dS bH.length dO, .int .i64 bC, .int .i64 bS, .int .i64 bW, .slice dP bA.length dN] 25 (0, 0))) ∧ Below w.heap.size w W)
   (fun _ _ _ => False)
   (OwnFrom.and (OwnFrom.and (Own.from (holdsRow_own w.heap.size bo 28 3 1 (fun pre => (fitUp bH bC bS bW bA pre).length) (fun pre => nums .i64 (fitUp bH bC bS bW bA pre)) (fun _ _ => True)) _) (OwnFrom.and (Own.from (mY _ _ _) _) (Own.from (mY _ _ _) _))) (ownFrom_below (Nat.le_refl _) (by omega)))
   (fun _ _ _ _ _ hs _ _ => hs)
   ⟨⟨⟨_, bO, World.ownsRow_nil _ _ _ _, trivial⟩, bL, bX⟩, hB0⟩
   (fun x a' W => ∃ Bx, bo + 1 < Bx ∧ Arr97 W Bx (needsHand bC bS bH bA x.1) ∧ a' = { tmps := #[.agg #[.slice dS bH.length dO, .int .i64 bC, .int .i64 bS, .int .i64 bW, .slice dP bA.length dN], .pointer (some ⟨w.heap.size, 0, none⟩), .slice none 0 0, .int .i64 0, .int .i64 0, .pointer (some ⟨bo, 0, none⟩), .int .i64 (x.1 : Int), .pointer (some ⟨Bx, 0, none⟩), undef, undef, .agg #[.slice dS bH.length dO, .int .i64 bC, .int .i64 bS, .int .i64 bW, .slice dP bA.length dN], .int .i64 0, .int .i64 0, .bool false, undef, .agg #[.slice dS bH.length dO, .int .i64 bC, .int .i64 bS, .int .i64 bW, .slice dP bA.length dN], .func (.func 73) #[] #[.pointer (some ⟨bo + 1, 0, none⟩)], .int .i64 (x.1 : Int), .agg (nums .i64 (needsHand bC bS bH bA x.1)).toArray, undef, undef, undef, undef, undef, undef, undef, undef, undef, undef, undef, undef, undef, undef, undef, undef, undef, undef, undef, undef], defers := [] })
   (fun x a' _ X Y row hs hg hr => by obtain ⟨Bx, h1, h2, h3⟩ := hs; exact ⟨Bx, h1, ⟨h2.1, mY (β := Unit) Bx _ 97 () X Y row h2.2 hg (fun r e => (hr r e).2)⟩, h3⟩)
   ?assign ?body ?done ?stop
  case assign =>
   rintro l pre x W K ⟨⟨⟨v, hv, hrow, _⟩, hL, hX⟩, hB⟩ hK; dsimp only [encH]; have hlen := needsTo_length bC bS bA (aA bH (x.1 : Int)).f1 bA.length; (have hin : (Try.prog.info? 97).map (·.size) = some 64 := by kernel_rfl); have H64 := aa.mk (show (nums .i64 (needsHand bC bS bH bA x.1)).toArray.size = 64 by simp [nums, needsHand, hlen]); have HIN := aa.mk hin; have HA := aa.mk (nums_one (needsHand bC bS bH bA x.1)); clear hlen hin; have hK2 := aa.mk hK; clear hK
   gi_wp2_with (refine wpListIn_store_row rfl 97 (.tmp 7) (.tmp 18) rfl W.heap.size _ rfl rfl 97 _ (heap_alloc_new W _) (by rw [H64.out]; exact HIN.out) (by rw [H64.out]; rfl) HA.out ?_)
   rw [alloc_setRow]; refine hK2.out _ _ ((KeepsOthers.alloc _ _).from _) ⟨(Below.refl _ W).alloc hB.size _, fun o ho hc => ak ho _⟩ ⟨⟨⟨v, hv.alloc _, hrow.alloc _, trivial⟩, ak hL _, ak hX _⟩, ah hB _⟩ ⟨W.heap.size, bM hL, ⟨needsTo_length _ _ _ _ _, heap_alloc_new W _⟩, rfl⟩
  case body =>
   rintro l pre x a' W hl ⟨r, hr⟩ ⟨⟨⟨v, hv, hrow, _⟩, hL, hX⟩, hB⟩ ⟨Bx, hBx, bN, rfl⟩ hlt; (have hin : (Try.prog.info? 97).map (·.size) = some 64 := by kernel_rfl); (have hin5 : (Try.prog.info? 95).map (·.size) = some 8 := by kernel_rfl); have H64 := aa.mk (show (nums .i64 (needsHand bC bS bH bA x.1)).toArray.size = 64 by simp [nums, bN.1]); have HIN := aa.mk hin; have HIN5 := aa.mk hin5; have HV' := aa.mk hv; have HRow := aa.mk hrow; have HL := aa.mk hL; have HX := aa.mk hX; have HB := aa.mk hB; have HN := aa.mk bN; clear hin hin5 hv hrow hL hB bN; have hz0 : W.cell? ⟨w.heap.size, 0, none⟩ = some (.slice dS bH.length dO) := (ai hX 0).trans rfl; have hz1 : W.cell? ⟨w.heap.size, 1, none⟩ = some (.int .i64 bC) := (ai hX 1).trans rfl; have hz2 : W.cell? ⟨w.heap.size, 2, none⟩ = some (.int .i64 bS) := (ai hX 2).trans rfl; have hz3 : W.cell? ⟨w.heap.size, 3, none⟩ = some (.int .i64 bW) := (ai hX 3).trans rfl; have hz4 : W.cell? ⟨w.heap.size, 4, none⟩ = some (.slice dP bA.length dN) := (ai hX 4).trans rfl; clear hX
   gi_wp2_with (refine wpListIn_load_row rfl 97 (.tmp 7) rfl Bx rfl 97 _ (0, 0) _ HN.out.2 Try.underlying97 rfl (by rw [H64.out]; exact HIN.out) ?_)
   refine ⟨trivial, (CallsIn.inRound l (callsIn_wide.2 (sums.calls (-1) 0 dS dO bH bC bS bW dP bA.length dN x.1 (needsHand bC bS bH bA x.1) W (Kd.C_below HR0.out HB.out) x.2 HN.out.1 HV.out.2.2.2.1 (HS.out x.1 x.2)))).mono ?_⟩; rintro e w2 ⟨rfl, hb⟩; obtain ⟨es, hes⟩ : ∃ es, es = (sumsTo (-1) 0 (needsHand bC bS bH bA x.1) (aA bH (x.1 : Int)).f1 bA.length).1 := ⟨_, rfl⟩; obtain ⟨tot, htot⟩ : ∃ tot, tot = (sumsTo (-1) 0 (needsHand bC bS bH bA x.1) (aA bH (x.1 : Int)).f1 bA.length).2 := ⟨_, rfl⟩; rw [← hes, ← htot]; (have hel : es.length = 8 := by rw [hes]; exact sumsTo_length _ _ _ _ _); have HE := aa.mk (show (nums .i64 es).toArray.size = 8 by simp [nums, hel]); have HA := aa.mk (nums_one es); have HT := aa.mk (show tot = totalP bH bC bS bA x.1 from htot); have hbw : Below W.heap.size W w2 := hb; have HBW := aa.mk hbw; have HX2 := aa.mk ((hb.block _ (bM HX.out)).trans HX.out); have hz3 : w2.cell? ⟨w.heap.size, 3, none⟩ = some (.int .i64 bW) := (ai HX2.out 3).trans rfl; have hlt3 : w.heap.size < w2.heap.size := bM HX2.out; clear hes htot hel hb hbw hz0 hz1 hz2 hz4; have HK2 := HV'.out.kept (grown_of_below HBW.out none) (by simp); have hv2 : Boxed (w2.alloc (.cells (nums .i64 es).toArray 95)) bo 28 v := HK2.alloc _; have hrow2 := (pw_own_below HRow.out HBW.out).alloc (.cells (nums .i64 es).toArray 95); (have hsz2 : (w2.alloc (.cells (nums .i64 es).toArray 95)).heap.size = w2.heap.size + 1 := by simp); have hBW2 : Below W.heap.size W (w2.alloc (.cells (nums .i64 es).toArray 95)) := ah HBW.out _; have hKO2 : KeepsOthers W (w2.alloc (.cells (nums .i64 es).toArray 95)) := keepsOthers_below hBW2; have HB2 := aa.mk (fM HB.out HB.out.size hBW2); have HL2 := aa.mk ((hBW2.block _ (bM HL.out)).trans HL.out); have HX3 := aa.mk ((hBW2.block _ (bM HX.out)).trans HX.out); have HBW2 := aa.mk hBW2; have HKO2 := aa.mk hKO2; obtain ⟨i0, hi, hz0, hz1, hz2⟩ := info_parts info3; have hpl := fitUp_length (a1 := bC) (a2 := bS) (a3 := bW) (l4 := bA) pre; have hl0 := HV.out.2.1; have hcO := HK2.cell; have hltO : bo < w2.heap.size := HK2.lt; clear hKO2 hBW2 HK2; have HCN := aa.mk (cell_one_new (w2.alloc (.cells (nums .i64 es).toArray 95)) (.int .i64 (x.1 : Int)) 3); rw [World.size_alloc] at HCN; by_cases ht : tot ≤ bW
   ·have hdt : decide (tot ≤ bW) = true := decide_eq_true ht; have HTT := aa.mk (show totalP bH bC bS bA x.1 ≤ bW by rw [← HT.out]; exact ht); clear ht
    gi_wp2_with (first
     | (refine wpListIn_store_row rfl 95 (.tmp 8) (.tmp 25) rfl w2.heap.size _ rfl rfl 95 _ (heap_alloc_new w2 _) (by rw [HE.out]; exact HIN5.out) (by rw [HE.out]; rfl) HA.out ?_; rw [alloc_setRow])
     | (gi_at_builtin; go_loud (refine wpListIn_append_own _ rfl _ _ 28 rfl w.heap.size 3 i0 (.int .i64 0) 1 8 Try.underlying28 hi hz0 hz1 hz2 rfl (by decide) _ _ _ rfl (hrow2.alloc _) ⟨w2.heap.size + 1, 0, none⟩ 1 1 [.int .i64 (x.1 : Int)] rfl rfl HCN.out (by simp [Value.oneCell']) (by unfold maxLen; omega) (by omega) (by have := HB2.out.size; simp at this ⊢; omega) ?_); intro v' w3 hown' hgrow _; obtain ⟨g', cap', rfl⟩ := ownsRow_succ hown'; obtain ⟨hv1, hv2', hr2, hk2, hb2⟩ := hv2.appended (by decide) hrow2 HB2.out.size (by omega) hown' hgrow; have hc1 := hv1.cell; have hf1 := hv1.frozen))
    have hLf := bK (dE (ak HL2.out (.cells #[.int .i64 (x.1 : Int)] 3)) hgrow (show some (bo + 1) ≠ v.ownBlock from qU HL2.out hrow2 (by decide))) (p := ⟨bo, 0, none⟩) (by simp) (.slice (some ⟨g', 0, none⟩) ((fitUp bH bC bS bW bA pre).length + 1) cap'); have hXf := bK (dE (ak HX3.out (.cells #[.int .i64 (x.1 : Int)] 3)) hgrow (show some w.heap.size ≠ v.ownBlock from qU HX3.out hrow2 (by decide))) (p := ⟨bo, 0, none⟩) (by simp; omega) (.slice (some ⟨g', 0, none⟩) ((fitUp bH bC bS bW bA pre).length + 1) cap'); refine ⟨(HKO2.out.trans hk2).from _, ⟨(HBW2.out.mono HB.out.size).trans hb2, fun o ho hc => ?_⟩, ⟨⟨_, hv2', ?_, trivial⟩, hLf, hXf⟩, HB2.out.trans hb2⟩
    ·rw [HL.out] at ho; cases ho; exact hLf
    ·rw [fitUp_hit pre HTT.out]
     simpa [nums] using hr2
   ·have hdt : decide (tot ≤ bW) = false := decide_eq_false ht; have HTT := aa.mk (show ¬ totalP bH bC bS bA x.1 ≤ bW by rw [← HT.out]; exact ht); clear ht
    gi_wp2_with (refine wpListIn_store_row rfl 95 (.tmp 8) (.tmp 25) rfl w2.heap.size _ rfl rfl 95 _ (heap_alloc_new w2 _) (by rw [HE.out]; exact HIN5.out) (by rw [HE.out]; rfl) HA.out ?_; rw [alloc_setRow])
    refine ⟨HKO2.out.from _, ⟨HBW2.out.mono HB.out.size, fun o ho hc => (HBW2.out.block _ (bM ho)).trans ho⟩, ⟨⟨v, hv2, ?_, trivial⟩, HL2.out, HX3.out⟩, HB2.out⟩; rw [fitUp_miss pre (Int.not_le.mpr (Int.not_le.mp (by have := HTT.out; omega)))]; exact hrow2
  case done =>
   rintro D ys W hD rfl ⟨⟨⟨v, hv, hrow, _⟩, hL, hX⟩, hB⟩ hK; have hc := hv.cell; have HRW := aa.mk (show Kd.R (Kd.int .i64) 3 W w.heap.size (fun _ => True) v (fitUp bH bC bS bW bA (List.finRange bH.length)) from Kd.R_of_own hrow (fun _ _ => trivial)); have HB := aa.mk hB; have hl := hrow.1; have hl2 := fitUp_length (a1 := bC) (a2 := bS) (a3 := bW) (l4 := bA) (List.finRange bH.length); rw [List.length_finRange] at hl2; obtain ⟨fs, hfs⟩ : ∃ fs, fs = fitUp bH bC bS bW bA (List.finRange bH.length) := ⟨_, rfl⟩; rw [← hfs] at HRW hl2; have HH' := HH; rw [← hfs] at HH'; obtain ⟨A, cap, rfl, _, _⟩ := Kd.R_reads HRW.out; have HKD := aa.mk hK; clear hfs hrow hX hL hB HH hl hK; have hh := HH'.out; by_cases h0 : fs = []
   ·rw [if_pos h0] at hh; simp only [Prod.mk.injEq] at hh; obtain ⟨rfl, rfl⟩ := hh; (have hz : ((fs.length : Int) == 0) = true := by simp [h0]); (have hz2 : (fs.length == 0) = true := by simp [h0]); have HF := aa.mk h0; clear h0 HH'
    gi_wp2_with (fail)
    refine ⟨by simp, .inl ⟨_, _, rfl, run_takeDeferred HKD.out, ?_⟩⟩; exact ⟨_, results_tmp2 rfl _ _ _, _, rfl, Kd.R_nil _ _ _ _ _, HB.out.trans (belowK_b (w := w) (Nat.le_refl _) W D _ _ (by omega) HKD.out rfl rfl)⟩
   ·rw [if_neg h0] at hh; simp only [Prod.mk.injEq] at hh; obtain ⟨rfl, rfl⟩ := hh; (have hz : ((fs.length : Int) == 0) = false := by simp [h0]); (have hz2 : (fs.length == 0) = false := by simp [h0]); clear h0 HH'
    gi_wp2_with (fail)
    refine ⟨by simp, .inl ⟨_, _, rfl, run_takeDeferred HKD.out, ?_⟩⟩; exact ⟨_, results_tmp2 rfl _ _ _, _, rfl, R_putObj HRW.out HKD.out rfl, HB.out.trans (belowK_b (w := w) (Nat.le_refl _) W D _ _ (by omega) HKD.out rfl rfl)⟩
  case stop =>
   rintro D c pre W _ _ h _; exact h.elim
 ·rw [if_neg h0] at h'; simp only [Prod.mk.injEq] at h'; obtain ⟨rfl, rfl⟩ := h'; (have hd : (ch == 0) = false := by simp [h0]); (have hd2 : (ch != 0) = true := by simp [h0]); clear h0 hch
  gi_wp2_with (fail)
  exact ⟨_, results_tmp2 rfl _ _ _, _, rfl, Kd.R_nil _ _ _ _ _, HW1.out⟩
def bestUp (l0 : List S66) (a1 a2 : Int) (l4 : List (List S27)) (pre : List (Fin l0.length)) : Int := pre.foldl (fun b x => mn b (totalP l0 a1 a2 l4 x.1)) neverP
theorem bestUp_snoc {l0 : List S66} {a1 a2 : Int} {l4 : List (List S27)} (pre : List (Fin l0.length)) (x : Fin l0.length) : bestUp l0 a1 a2 l4 (pre ++ [x]) = mn (bestUp l0 a1 a2 l4 pre) (totalP l0 a1 a2 l4 x.1) := by
 simp [bestUp, List.foldl_append]
def marksP (l0 : List S66) (a1 a2 a3 : Int) (l4 : List (List S27)) : Int × Int :=
 if checkP l0 a1 a2 a3 l4 = 0 then (if bestUp l0 a1 a2 l4 (List.finRange l0.length) ≥ 1048576 then (0, 9) else (bestUp l0 a1 a2 l4 (List.finRange l0.length), 0)) else (0, checkP l0 a1 a2 a3 l4)
def gL.f (bH : List (S66)) (bC : Int) (bS : Int) (bW : Int) (bA : List (List (S27))) : Option (Int × Int) := some (marksP bH bC bS bW bA)
set_option maxRecDepth 100000 in
set_option maxHeartbeats 4000000 in
theorem gL.calls (dS : Option Addr) (dO : Nat) (bH : List (S66)) (bC : Int) (bS : Int) (bW : Int) (dP : Option Addr) (dN : Nat) (bA : List (List (S27))) (r1 : Int) (r2 : Int) (w : World) (kL : Kd.C k66 w dS bH.length bH) (mo : bH.length ≤ dO) (kP : Kd.C (Kd.slice 27 k27) w dP bA.length bA) (mq : bA.length ≤ dN) (h : gL.f bH bC bS bW bA = some (r1, r2)) :
 Calls Try.prog 21 #[.agg #[.slice dS bH.length dO, .int .i64 bC, .int .i64 bS, .int .i64 bW, .slice dP bA.length dN]] w fun e w' => e = .returned (.tuple #[.int .i64 r1, .int .i64 r2]) ∧ Below w.heap.size w w' := by
 have h' := Option.some.inj h; clear h; obtain ⟨ch, hch⟩ : ∃ ch, ch = checkP bH bC bS bW bA := ⟨_, rfl⟩; rw [marksP, ← hch] at h'; have HC := check_calls dS dO bH bC bS bW dP dN bA (w.alloc (.cells #[.slice dS bH.length dO, .int .i64 bC, .int .i64 bS, .int .i64 bW, .slice dP bA.length dN] 25)) (Kd.C_below kL (ah (Below.refl _ _) _)) mo (Kd.C_below kP (ah (Below.refl _ _) _)) mq; rw [← hch] at HC; refine callsIn_wide (n := 10).1 ?_; refine callsIn_of_wp_marks Try.func21 rfl trivial ?_ rfl; simp only [Try.ntmps21, List.size_toArray, List.length_cons, List.length_nil, Nat.reduceAdd, Nat.reduceSub, Array.replicate_succ, Array.replicate_zero, List.push_toArray, List.append_toArray, List.nil_append, List.cons_append]
 gi_wp2_with (fail)
 refine ⟨trivial, ?_⟩; refine (callsIn_wide.2 HC).mono ?_; rintro e w1 ⟨rfl, hb⟩; have HW1 := aa.mk (fM (ah (Below.refl _ _) _) (by simp) hb); have hBx := (hb.block _ (bM (heap_alloc_new w (.cells #[.slice dS bH.length dO, .int .i64 bC, .int .i64 bS, .int .i64 bW, .slice dP bA.length dN] 25)))).trans (heap_alloc_new w _); have HBX := aa.mk hBx; have HR0 := aa.mk kL; have HR4 := aa.mk kP; clear hBx hb HC kL kP; by_cases h0 : ch = 0
 ·rw [if_pos h0] at h'; have hv := check_bounds (hch.symm.trans h0); have HV := aa.mk hv; have HS := aa.mk (check_shapes hv.2.2.2.2.1); subst h0; have HH := aa.mk h'; clear h' hv hch; have hz0 : w1.cell? ⟨w.heap.size, 0, none⟩ = some (.slice dS bH.length dO) := (ai HBX.out 0).trans rfl; have hz1 : w1.cell? ⟨w.heap.size, 1, none⟩ = some (.int .i64 bC) := (ai HBX.out 1).trans rfl; have hz2 : w1.cell? ⟨w.heap.size, 2, none⟩ = some (.int .i64 bS) := (ai HBX.out 2).trans rfl; have hz3 : w1.cell? ⟨w.heap.size, 3, none⟩ = some (.int .i64 bW) := (ai HBX.out 3).trans rfl; have hz4 : w1.cell? ⟨w.heap.size, 4, none⟩ = some (.slice dP bA.length dN) := (ai HBX.out 4).trans rfl; have hlt1 : w.heap.size < w1.heap.size := bM HBX.out
  gi_wp2_with (fail)
  refine ⟨trivial, ?_⟩; refine (hands_in _ _ _ _ _ _ _ _ _ _ _).mono ?_; rintro e w2 ⟨rfl, rfl⟩
  gi_wp2_with (fail)
  obtain ⟨bo, hbo⟩ : ∃ bo, bo = w1.heap.size := ⟨_, rfl⟩; have bO := (Boxed.new w1 3 (.int .i64 1048576)).alloc (.cells #[.slice dS bH.length dO, .int .i64 bC, .int .i64 bS, .int .i64 bW, .slice dP bA.length dN] 25)
  have bL : ((w1.alloc (.cells #[.int .i64 1048576] 3)).alloc (.cells #[.slice dS bH.length dO, .int .i64 bC, .int .i64 bS, .int .i64 bW, .slice dP bA.length dN] 25)).heap[w1.heap.size + 1]? = some (.cells #[.slice dS bH.length dO, .int .i64 bC, .int .i64 bS, .int .i64 bW, .slice dP bA.length dN] 25 (0, 0)) := by
   have := heap_alloc_new (w1.alloc (.cells #[.int .i64 1048576] 3)) (.cells #[.slice dS bH.length dO, .int .i64 bC, .int .i64 bS, .int .i64 bW, .slice dP bA.length dN] 25)
   rwa [World.size_alloc] at this
  have bX : ((w1.alloc (.cells #[.int .i64 1048576] 3)).alloc (.cells #[.slice dS bH.length dO, .int .i64 bC, .int .i64 bS, .int .i64 bW, .slice dP bA.length dN] 25)).heap[w.heap.size]? = some (.cells #[.slice dS bH.length dO, .int .i64 bC, .int .i64 bS, .int .i64 bW, .slice dP bA.length dN] 25 (0, 0)) := ak (ak HBX.out _) _; (have hsz : ((w1.alloc (.cells #[.int .i64 1048576] 3)).alloc (.cells #[.slice dS bH.length dO, .int .i64 bC, .int .i64 bS, .int .i64 bW, .slice dP bA.length dN] 25)).heap.size = bo + 2 := by simp [hbo]); have hB0 : Below w.heap.size w ((w1.alloc (.cells #[.int .i64 1048576] 3)).alloc (.cells #[.slice dS bH.length dO, .int .i64 bC, .int .i64 bS, .int .i64 bW, .slice dP bA.length dN] 25)) := ah (ah HW1.out _) _; (have hwb : w.heap.size < bo := by rw [hbo]; exact hlt1); rw [← hbo] at bL bO ⊢; obtain ⟨W0, hW0⟩ : ∃ W0, W0 = ((w1.alloc (.cells #[.int .i64 1048576] 3)).alloc (.cells #[.slice dS bH.length dO, .int .i64 bC, .int .i64 bS, .int .i64 bW, .slice dP bA.length dN] 25)) := ⟨_, rfl⟩; rw [← hW0] at bO bL bX hsz hB0 ⊢; clear hW0 hz0 hz1 hz2 hz3 hz4 hlt1 HBX hbo HW1
  refine wpIn_rangeFunc_ownH rfl (by omega) (gf := 73) (lb := #[.pointer (some ⟨bo + 1, 0, none⟩)]) rfl trivial (enters_of Try.func73 (by kernel_rfl) rfl)
   (hands_stops 9 (by omega) (bo + 1) w.heap.size dS dO bH bC bS bW dP dN bA HV.out.2.2.2.1 HS.out w W0 (Nat.le_refl _) HR0.out HR4.out hB0 (by omega) bL) KpB_t (KpB_b (by omega)) (Below.refl _ _) (fun _ => rfl)
   (fun pre W => (Boxed W bo 3 (.int .i64 (bestUp bH bC bS bA pre)) ∧ W.heap[bo + 1]? = some (.cells #[.slice dS bH.length dO, .int .i64 bC, .int .i64 bS, .int .i64 bW, .slice dP bA.length dN] 25 (0, 0)) ∧ W.heap[w.heap.size]? = some (.cells #[.slice dS bH.length dO, .int .i64 bC, .int .i64 bS, .int .i64 bW, .slice dP bA.length dN] 25 (0, 0))) ∧ Below w.heap.size w W)
   (fun _ _ _ => False)
   (OwnFrom.and (OwnFrom.and (Own.from (boxed_own bo 3 (fun pre => .int .i64 (bestUp bH bC bS bA pre))) _) (OwnFrom.and (Own.from (mY _ _ _) _) (Own.from (mY _ _ _) _))) (ownFrom_below (Nat.le_refl _) (by omega)))
   (fun _ _ _ _ _ hs _ _ => hs)
   ⟨⟨bO, bL, bX⟩, hB0⟩
   (fun x a' W => ∃ Bx, bo + 1 < Bx ∧ Arr97 W Bx (needsHand bC bS bH bA x.1) ∧ a' = { tmps := #[.agg #[.slice dS bH.length dO, .int .i64 bC, .int .i64 bS, .int .i64 bW, .slice dP bA.length dN], .pointer (some ⟨w.heap.size, 0, none⟩), .int .i64 0, .int .i64 0, .int .i64 0, .pointer (some ⟨bo, 0, none⟩), .int .i64 (x.1 : Int), .pointer (some ⟨Bx, 0, none⟩), undef, undef, .agg #[.slice dS bH.length dO, .int .i64 bC, .int .i64 bS, .int .i64 bW, .slice dP bA.length dN], .int .i64 0, .int .i64 0, .bool false, undef, .agg #[.slice dS bH.length dO, .int .i64 bC, .int .i64 bS, .int .i64 bW, .slice dP bA.length dN], .func (.func 73) #[] #[.pointer (some ⟨bo + 1, 0, none⟩)], .int .i64 (x.1 : Int), .agg (nums .i64 (needsHand bC bS bH bA x.1)).toArray, undef, undef, undef, undef, undef, undef, undef, undef, undef, undef, undef, undef, undef, undef, undef], defers := [] })
   (fun x a' _ X Y row hs hg hr => by obtain ⟨Bx, h1, h2, h3⟩ := hs; exact ⟨Bx, h1, ⟨h2.1, mY (β := Unit) Bx _ 97 () X Y row h2.2 hg (fun r e => (hr r e).2)⟩, h3⟩)
   ?assign ?body ?done ?stop
  case assign =>
   rintro l pre x W K ⟨⟨hv, hL, hX⟩, hB⟩ hK; dsimp only [encH]; have hlen := needsTo_length bC bS bA (aA bH (x.1 : Int)).f1 bA.length; (have hin : (Try.prog.info? 97).map (·.size) = some 64 := by kernel_rfl); have H64 := aa.mk (show (nums .i64 (needsHand bC bS bH bA x.1)).toArray.size = 64 by simp [nums, needsHand, hlen]); have HIN := aa.mk hin; have HA := aa.mk (nums_one (needsHand bC bS bH bA x.1)); clear hlen hin; have hK2 := aa.mk hK; clear hK
   gi_wp2_with (refine wpListIn_store_row rfl 97 (.tmp 7) (.tmp 18) rfl W.heap.size _ rfl rfl 97 _ (heap_alloc_new W _) (by rw [H64.out]; exact HIN.out) (by rw [H64.out]; rfl) HA.out ?_)
   rw [alloc_setRow]; refine hK2.out _ _ ((KeepsOthers.alloc _ _).from _) ⟨(Below.refl _ W).alloc hB.size _, fun o ho hc => ak ho _⟩ ⟨⟨hv.alloc _, ak hL _, ak hX _⟩, ah hB _⟩ ⟨W.heap.size, bM hL, ⟨needsTo_length _ _ _ _ _, heap_alloc_new W _⟩, rfl⟩
  case body =>
   rintro l pre x a' W hl ⟨r, hr⟩ ⟨⟨hv, hL, hX⟩, hB⟩ ⟨Bx, hBx, bN, rfl⟩ hlt; (have hin : (Try.prog.info? 97).map (·.size) = some 64 := by kernel_rfl); (have hin5 : (Try.prog.info? 95).map (·.size) = some 8 := by kernel_rfl); have H64 := aa.mk (show (nums .i64 (needsHand bC bS bH bA x.1)).toArray.size = 64 by simp [nums, bN.1]); have HIN := aa.mk hin; have HIN5 := aa.mk hin5; have HV' := aa.mk hv; have HL := aa.mk hL; have HX := aa.mk hX; have HB := aa.mk hB; have HN := aa.mk bN; clear hin hin5 hv hL hB bN; have hz0 : W.cell? ⟨w.heap.size, 0, none⟩ = some (.slice dS bH.length dO) := (ai hX 0).trans rfl; have hz1 : W.cell? ⟨w.heap.size, 1, none⟩ = some (.int .i64 bC) := (ai hX 1).trans rfl; have hz2 : W.cell? ⟨w.heap.size, 2, none⟩ = some (.int .i64 bS) := (ai hX 2).trans rfl; have hz3 : W.cell? ⟨w.heap.size, 3, none⟩ = some (.int .i64 bW) := (ai hX 3).trans rfl; have hz4 : W.cell? ⟨w.heap.size, 4, none⟩ = some (.slice dP bA.length dN) := (ai hX 4).trans rfl; clear hX
   gi_wp2_with (refine wpListIn_load_row rfl 97 (.tmp 7) rfl Bx rfl 97 _ (0, 0) _ HN.out.2 Try.underlying97 rfl (by rw [H64.out]; exact HIN.out) ?_)
   refine ⟨trivial, (CallsIn.inRound l (callsIn_wide.2 (sums.calls (-1) 0 dS dO bH bC bS bW dP bA.length dN x.1 (needsHand bC bS bH bA x.1) W (Kd.C_below HR0.out HB.out) x.2 HN.out.1 HV.out.2.2.2.1 (HS.out x.1 x.2)))).mono ?_⟩; rintro e w2 ⟨rfl, hb⟩; obtain ⟨es, hes⟩ : ∃ es, es = (sumsTo (-1) 0 (needsHand bC bS bH bA x.1) (aA bH (x.1 : Int)).f1 bA.length).1 := ⟨_, rfl⟩; obtain ⟨tot, htot⟩ : ∃ tot, tot = (sumsTo (-1) 0 (needsHand bC bS bH bA x.1) (aA bH (x.1 : Int)).f1 bA.length).2 := ⟨_, rfl⟩; rw [← hes, ← htot]; (have hel : es.length = 8 := by rw [hes]; exact sumsTo_length _ _ _ _ _); have HE := aa.mk (show (nums .i64 es).toArray.size = 8 by simp [nums, hel]); have HA := aa.mk (nums_one es); have HT := aa.mk (show tot = totalP bH bC bS bA x.1 from htot); have hbw : Below W.heap.size W w2 := hb; have HBW := aa.mk hbw; have HX2 := aa.mk ((hb.block _ (bM HX.out)).trans HX.out); have hz3 : w2.cell? ⟨w.heap.size, 3, none⟩ = some (.int .i64 bW) := (ai HX2.out 3).trans rfl; have hlt3 : w.heap.size < w2.heap.size := bM HX2.out; clear hes htot hel hb hbw hz0 hz1 hz2 hz4; have HK2 := HV'.out.kept (grown_of_below HBW.out none) (by simp); have hv2 := HK2.alloc (.cells (nums .i64 es).toArray 95); (have hsz2 : (w2.alloc (.cells (nums .i64 es).toArray 95)).heap.size = w2.heap.size + 1 := by simp); have hBW2 : Below W.heap.size W (w2.alloc (.cells (nums .i64 es).toArray 95)) := ah HBW.out _; have hKO2 : KeepsOthers W (w2.alloc (.cells (nums .i64 es).toArray 95)) := keepsOthers_below hBW2; have HB2 := aa.mk (fM HB.out HB.out.size hBW2); have HL2 := aa.mk ((hBW2.block _ (bM HL.out)).trans HL.out); have HX3 := aa.mk ((hBW2.block _ (bM HX.out)).trans HX.out); have HBW2 := aa.mk hBW2; have HKO2 := aa.mk hKO2; have hcO := HK2.cell; have hltO : bo < w2.heap.size := HK2.lt; have HKO := aa.mk HK2; clear hKO2 hBW2 HK2 hv2
   gi_wp2_with (refine wpListIn_store_row rfl 95 (.tmp 8) (.tmp 25) rfl w2.heap.size _ rfl rfl 95 _ (heap_alloc_new w2 _) (by rw [HE.out]; exact HIN5.out) (by rw [HE.out]; rfl) HA.out ?_; rw [alloc_setRow])
   refine ⟨trivial, (CallsIn.inRound l (callsIn_wide.2 (least_calls (bestUp bH bC bS bA pre) tot (w2.heap.size + 1) _ ?_))).mono ?_⟩
   ·have h := World.cell?_alloc_at (w := w2.alloc (.cells (nums .i64 es).toArray 95)) #[.int .i64 tot] 3 (w2.heap.size + 1) 0 (by simp); exact h.trans rfl
   rintro e w3 ⟨rfl, hb3⟩; have hb3' : Below (w2.alloc (.cells (nums .i64 es).toArray 95)).heap.size (w2.alloc (.cells (nums .i64 es).toArray 95)) w3 := fM (ah (Below.refl _ _) _) (by simp) hb3; have hv3 : Boxed w3 bo 3 (.int .i64 (bestUp bH bC bS bA pre)) := (HKO.out.alloc (.cells (nums .i64 es).toArray 95)).kept (grown_of_below hb3' none) (by simp); have hBW3 := fM HBW2.out HBW2.out.size hb3'; have HB3 := aa.mk (fM HB.out HB.out.size hBW3); have HL3 := aa.mk ((hBW3.block _ (bM HL.out)).trans HL.out); have HX4 := aa.mk ((hBW3.block _ (bM HX.out)).trans HX.out); have HBW3 := aa.mk hBW3; have HV3 := aa.mk hv3; have hc3 := hv3.cell; have hf3 := hv3.frozen; clear hb3 hb3' hBW3 hv3 hcO hltO
   gi_wp2_with (fail)
   refine ⟨((keepsOthers_below HBW3.out).trans (KeepsOthers.setCell _ _ _)).from _, ⟨(HBW3.out.mono HB.out.size).setCell (p := ⟨bo, 0, none⟩) (by simp; omega) _, fun o ho hc => ?_⟩, ⟨?_, bK HL3.out (by simp) _, bK HX4.out (by simp; omega) _⟩, HB3.out.setCell (p := ⟨bo, 0, none⟩) (by simp; omega) _⟩
   ·rw [HL.out] at ho; cases ho; exact bK HL3.out (by simp) _
   ·rw [bestUp_snoc, ← HT.out]; exact HV3.out.set _
  case done =>
   rintro D ys W hD rfl ⟨⟨hv, hL, hX⟩, hB⟩ hK; have hc := hv.cell; have HB := aa.mk hB; obtain ⟨bs, hbs⟩ : ∃ bs, bs = bestUp bH bC bS bA (List.finRange bH.length) := ⟨_, rfl⟩; rw [← hbs] at hc; have HH' := HH; rw [← hbs] at HH'; have HKD := aa.mk hK; clear hbs hX hL hB HH hK hv; have hh := HH'.out; by_cases h0 : bs ≥ 1048576
   ·rw [if_pos h0] at hh; simp only [Prod.mk.injEq] at hh; obtain ⟨rfl, rfl⟩ := hh; have hz : decide (1048576 ≤ bs) = true := decide_eq_true h0; clear h0 HH'
    gi_wp2_with (fail)
    refine ⟨by simp, .inl ⟨_, _, rfl, run_takeDeferred HKD.out, ?_⟩⟩; exact ⟨_, results_tmp2 rfl _ _ _, rfl, HB.out.trans (belowK_b (w := w) (Nat.le_refl _) W D _ _ (by omega) HKD.out rfl rfl)⟩
   ·rw [if_neg h0] at hh; simp only [Prod.mk.injEq] at hh; obtain ⟨rfl, rfl⟩ := hh; have hz : decide (1048576 ≤ bs) = false := decide_eq_false h0; clear h0 HH'
    gi_wp2_with (fail)
    refine ⟨by simp, .inl ⟨_, _, rfl, run_takeDeferred HKD.out, ?_⟩⟩; exact ⟨_, results_tmp2 rfl _ _ _, rfl, HB.out.trans (belowK_b (w := w) (Nat.le_refl _) W D _ _ (by omega) HKD.out rfl rfl)⟩
  case stop =>
   rintro D c pre W _ _ h _; exact h.elim
 ·rw [if_neg h0] at h'; simp only [Prod.mk.injEq] at h'; obtain ⟨rfl, rfl⟩ := h'; (have hd : (ch == 0) = false := by simp [h0]); (have hd2 : (ch != 0) = true := by simp [h0]); clear h0 hch
  gi_wp2_with (fail)
  exact ⟨_, results_tmp2 rfl _ _ _, rfl, HW1.out⟩
end Go.Proofs.Ytihedeofkhapiaa.Pr
end
section
namespace Go.Proofs.Ytihedeofkhapiaa.Pr
open Go.RowKit Go.Proofs.YtihedeofkhapiaaW.PrintWords Go.Proofs.YtihedeofkhapiaaW.PrintLast Go.Proofs.YtihedeofkhapiaaW.PrintMore
theorem seenA_lit (v : Nat) (hv : v < 32) : ∀ (q : List S27) (h : Nat), h < 32 → (∀ x ∈ q, Lit5 v x) →
 ∃ g : Nat, g < 32 ∧ q.foldl seenStep ((h : Int), ((v &&& h : Nat) : Int)) = ((g : Int), ((v &&& g : Nat) : Int)) ∧ (∀ a : Nat, a < 32 → a &&& h = a → a &&& g = a) ∧ ∀ x ∈ q, ∃ a : Nat, a < 32 ∧ x = ⟨(a : Int), ((v &&& a : Nat) : Int)⟩ ∧ a &&& g = a := by
 intro q
 induction q with
 | nil => exact fun h hh _ => ⟨h, hh, rfl, fun a _ e => e, fun x hx => absurd hx List.not_mem_nil⟩
 | cons x r ih =>
  intro h hh hx; obtain ⟨a, ha, rfl⟩ := hx x List.mem_cons_self; have hva : v &&& a < 32 := Nat.lt_of_le_of_lt Nat.and_le_left hv; have hvh : v &&& h < 32 := Nat.lt_of_le_of_lt Nat.and_le_left hv
  have e : seenStep ((h : Int), ((v &&& h : Nat) : Int)) ⟨(a : Int), ((v &&& a : Nat) : Int)⟩ = (((h ||| a : Nat) : Int), ((v &&& (h ||| a) : Nat) : Int)) := by
   simp only [seenStep]; rw [or32 ⟨h, hh⟩ ⟨a, ha⟩, or32 ⟨v &&& h, hvh⟩ ⟨v &&& a, hva⟩]; have := and_or ⟨v, hv⟩ ⟨h, hh⟩ ⟨a, ha⟩; simp only [] at this ⊢; rw [this]
  obtain ⟨g, hg, hf, hs, hq⟩ := ih (h ||| a) (or_lt ⟨h, hh⟩ ⟨a, ha⟩) (fun y hy => hx y (List.mem_cons_of_mem _ hy)); refine ⟨g, hg, by rw [List.foldl_cons, e, hf], fun b hb e => hs b hb (sub_or ⟨b, hb⟩ ⟨h, hh⟩ ⟨a, ha⟩ e), fun y hy => ?_⟩; rcases List.mem_cons.1 hy with rfl | hy
  ·exact ⟨a, ha, rfl, hs a ha (sub_or' ⟨a, ha⟩ ⟨h, hh⟩)⟩
  ·exact hq y hy
theorem seen_lit (v : Nat) (hv : v < 32) (q : List S27) (hx : ∀ x ∈ q, Lit5 v x) : ∃ g : Nat, g < 32 ∧ seenP q = ((g : Int), ((v &&& g : Nat) : Int), true) := by
 obtain ⟨g, hg, hf, _, hq⟩ := seenA_lit v hv q 0 (by omega) hx
 have hA : seenA q = ((g : Int), ((v &&& g : Nat) : Int)) := by
  rw [← hf]; simp [seenA]
 have hok : ∀ r : List S27, (∀ x ∈ r, x ∈ q) → r.foldl (seenOk ((v &&& g : Nat) : Int)) true = true := by
  intro r
  induction r with
  | nil => exact fun _ => rfl
  | cons x r ih =>
   intro hr; obtain ⟨a, ha, rfl, hag⟩ := hq x (hr x List.mem_cons_self); have hvg : v &&& g < 32 := Nat.lt_of_le_of_lt Nat.and_le_left hv
   have e : seenOk ((v &&& g : Nat) : Int) true ⟨(a : Int), ((v &&& a : Nat) : Int)⟩ = true := by
    simp only [seenOk, if_true]; rw [and32 ⟨v &&& g, hvg⟩ ⟨a, ha⟩]; have := and_sub ⟨v, hv⟩ ⟨g, hg⟩ ⟨a, ha⟩ hag; simp only [] at this ⊢; rw [this]; exact beq_self_eq_true _
   rw [List.foldl_cons, e]; exact ih (fun y hy => hr y (List.mem_cons_of_mem _ hy))
 refine ⟨g, hg, ?_⟩; rw [seenP, hA]; simp only []; rw [hok q (fun x hx => hx)]
theorem cell_true {W S : Int} {sh : List S86} (hasc : Asc sh) {q : List S27} {k v : Nat} (hk : k < sh.length) (hv : v < 32) (hx : ∀ x ∈ q, Lit5 v x) (hl : (lost (strokesAt sh k) v : Int) ≤ W) (hm : (made (strokesAt sh k) v : Int) ≤ S) :
 0 ≤ cellP W S (seenP q) (aH sh (k : Int)) ∧ cellP W S (seenP q) (aH sh (k : Int)) ≤ (lost (strokesAt sh k) v : Int) + (made (strokesAt sh k) v : Int) ∧ cellP W S (seenP q) (aH sh (k : Int)) < 1048576 := by
 obtain ⟨g, hg, hs⟩ := seen_lit v hv q hx
 have hmem : sh.getD k z86 ∈ sh := by
  rw [List.getD_eq_getElem?_getD, List.getElem?_eq_getElem hk]; exact List.getElem_mem _
 have hst := hasc.1 _ hmem; (have hs32 : strokesAt sh k < 32 := by unfold strokesAt; omega); (have es : (sh.getD k z86).f1 = (strokesAt sh k : Int) := by unfold strokesAt; omega); have b1 : strokesAt sh k &&& g < 32 := Nat.lt_of_le_of_lt Nat.and_le_left hs32; have b2 : v &&& g < 32 := Nat.lt_of_le_of_lt Nat.and_le_left hv; have b3 : (strokesAt sh k &&& g) &&& (31 ^^^ (v &&& g)) < 32 := Nat.lt_of_le_of_lt Nat.and_le_left b1; have b4 : (v &&& g) &&& (31 ^^^ strokesAt sh k) < 32 := Nat.lt_of_le_of_lt Nat.and_le_left b2
 have e1 : manyP (withoutP (Go.bits .and .i64 (sh.getD k z86).f1 (g : Int)) ((v &&& g : Nat) : Int)) = (pop ((strokesAt sh k &&& g) &&& (31 ^^^ (v &&& g))) : Int) := by
  rw [es, and32 ⟨strokesAt sh k, hs32⟩ ⟨g, hg⟩, not32 ⟨strokesAt sh k &&& g, b1⟩ ⟨v &&& g, b2⟩, many32 ⟨_, b3⟩]
 have e2 : manyP (withoutP ((v &&& g : Nat) : Int) (sh.getD k z86).f1) = (pop ((v &&& g) &&& (31 ^^^ strokesAt sh k)) : Int) := by
  rw [es, not32 ⟨v &&& g, b2⟩ ⟨strokesAt sh k, hs32⟩, many32 ⟨_, b4⟩]
 have hsl := seen_lost ⟨strokesAt sh k, hs32⟩ ⟨v, hv⟩ ⟨g, hg⟩; simp only [] at hsl; have p1 := pop_le ⟨_, b3⟩; have p2 := pop_le ⟨_, b4⟩; simp only [] at p1 p2
 have ec : cellP W S (seenP q) (aH sh (k : Int)) = (pop ((strokesAt sh k &&& g) &&& (31 ^^^ (v &&& g))) : Int) + (pop ((v &&& g) &&& (31 ^^^ strokesAt sh k)) : Int) := by
  rw [cellP, hs, rd86, if_pos ⟨rfl, by simp only []; rw [e1]; omega, by simp only []; rw [e2]; omega⟩]; simp only []; rw [e1, e2, w64_of (by omega) (by omega)]
 rw [ec]; omega
theorem cell_any (W S : Int) {sh : List S86} (hasc : Asc sh) {q : List S27} {k v : Nat} (hk : k < sh.length) (hv : v < 32) (hx : ∀ x ∈ q, Lit5 v x) :
 0 ≤ cellP W S (seenP q) (aH sh (k : Int)) ∧ cellP W S (seenP q) (aH sh (k : Int)) ≤ 1048576 := by
 obtain ⟨g, hg, hs⟩ := seen_lit v hv q hx
 have hmem : sh.getD k z86 ∈ sh := by
  rw [List.getD_eq_getElem?_getD, List.getElem?_eq_getElem hk]; exact List.getElem_mem _
 have hst := hasc.1 _ hmem; (have hs32 : strokesAt sh k < 32 := by unfold strokesAt; omega); (have es : (sh.getD k z86).f1 = (strokesAt sh k : Int) := by unfold strokesAt; omega); have b1 : strokesAt sh k &&& g < 32 := Nat.lt_of_le_of_lt Nat.and_le_left hs32; have b2 : v &&& g < 32 := Nat.lt_of_le_of_lt Nat.and_le_left hv; have b3 : (strokesAt sh k &&& g) &&& (31 ^^^ (v &&& g)) < 32 := Nat.lt_of_le_of_lt Nat.and_le_left b1; have b4 : (v &&& g) &&& (31 ^^^ strokesAt sh k) < 32 := Nat.lt_of_le_of_lt Nat.and_le_left b2
 have e1 : manyP (withoutP (Go.bits .and .i64 (sh.getD k z86).f1 (g : Int)) ((v &&& g : Nat) : Int)) = (pop ((strokesAt sh k &&& g) &&& (31 ^^^ (v &&& g))) : Int) := by
  rw [es, and32 ⟨strokesAt sh k, hs32⟩ ⟨g, hg⟩, not32 ⟨strokesAt sh k &&& g, b1⟩ ⟨v &&& g, b2⟩, many32 ⟨_, b3⟩]
 have e2 : manyP (withoutP ((v &&& g : Nat) : Int) (sh.getD k z86).f1) = (pop ((v &&& g) &&& (31 ^^^ strokesAt sh k)) : Int) := by
  rw [es, not32 ⟨v &&& g, b2⟩ ⟨strokesAt sh k, hs32⟩, many32 ⟨_, b4⟩]
 have p1 := pop_le ⟨_, b3⟩; have p2 := pop_le ⟨_, b4⟩; simp only [] at p1 p2; rw [cellP, hs, rd86]; split
 ·simp only []; rw [e1, e2, w64_of (by omega) (by omega)]; omega
 ·exact ⟨by decide, by decide⟩
theorem rowTo_getD (W S : Int) (q : Int × Int × Bool) (sh : List S86) (i : Nat) (m : List Int) (hi : i < 8) (hm : m.length = 64) : ∀ K, K ≤ 8 → ∀ i' k, i' < 8 → k < 8 →
 (rowTo W S q sh i m K).getD (i' * 8 + k) 0 = if i' = i ∧ k < K then cellP W S q (aH sh (k : Int)) else m.getD (i' * 8 + k) 0 := by
 intro K
 induction K with
 | zero => intro _ i' k _ _; rw [rowTo, if_neg (by omega)]
 | succ K ih =>
  intro hK i' k hi' hk; (have hlen : (rowTo W S q sh i m K).length = 64 := by rw [rowTo_length, hm]); rw [rowTo, List.getD_eq_getElem?_getD, List.getElem?_set]; by_cases he : i * 8 + K = i' * 8 + k
  ·(obtain ⟨rfl, rfl⟩ : i = i' ∧ K = k := by omega); rw [if_pos rfl, if_pos (by omega), if_pos (by omega)]; rfl
  ·rw [if_neg he, ← List.getD_eq_getElem?_getD, ih (by omega) i' k hi' hk]; by_cases h1 : i' = i ∧ k < K
   ·rw [if_pos h1, if_pos (by omega)]
   ·rw [if_neg h1, if_neg (by omega)]
theorem needsTo_getD (W S : Int) (l4 : List (List S27)) (sh : List S86) (hsh : sh.length ≤ 8) : ∀ n, n ≤ 8 → ∀ i k, i < n → k < sh.length →
 (needsTo W S l4 sh n).getD (i * 8 + k) 0 = cellP W S (seenP (rd_L7 l4 (i : Int))) (aH sh (k : Int)) := by
 intro n
 induction n with
 | zero => intro _ i k hi; omega
 | succ n ih =>
  intro hn i k hi hk; rw [needsTo, rowTo_getD _ _ _ _ _ _ (by omega) (needsTo_length _ _ _ _ _) _ hsh i k (by omega) (by omega)]; by_cases he : i = n
  ·subst he; rw [if_pos ⟨rfl, hk⟩]
  ·rw [if_neg (by omega)]; exact ih (by omega) i k (by omega) hk
theorem each_le (m : List Int) (i : Nat) (sh : List S86) : ∀ K k, k < K → eachTo (-1) 0 m i sh K ≤ m.getD (i * 8 + k) 0 := by
 intro K
 induction K with
 | zero => intro k hk; omega
 | succ K ih =>
  intro k hk; (have hm : mayP (-1) 0 (i : Int) (aH sh (K : Int)) = true := by rw [mayP, if_neg (by omega)]); rw [eachTo, if_pos hm]; unfold mn; by_cases he : k = K
  ·subst he; split <;> omega
  ·have := ih k (by omega); split <;> omega
theorem each_bounds (m : List Int) (i : Nat) (sh : List S86) : ∀ K, (∀ k, k < K → 0 ≤ m.getD (i * 8 + k) 0) → 0 ≤ eachTo (-1) 0 m i sh K ∧ eachTo (-1) 0 m i sh K ≤ 1048576 := by
 intro K
 induction K with
 | zero => intro _; exact ⟨by simp [eachTo, neverP], by simp [eachTo, neverP]⟩
 | succ K ih =>
  intro h; (have hm : mayP (-1) 0 (i : Int) (aH sh (K : Int)) = true := by rw [mayP, if_neg (by omega)]); have h1 := ih (fun k hk => h k (by omega)); have h2 := h K (by omega); rw [eachTo, if_pos hm]; unfold mn; split <;> omega
def sumF (f : Nat → Int) : Nat → Int
 | 0 => 0
 | n + 1 => sumF f n + f n
theorem sumF_le {f g : Nat → Int} : ∀ n, (∀ i, i < n → f i ≤ g i) → sumF f n ≤ sumF g n
 | 0, _ => Int.le_refl _
 | n + 1, h => by
  have h1 := sumF_le n (fun i hi => h i (by omega)); have h2 := h n (by omega); simp only [sumF]; omega
theorem sumF_drop {f g : Nat → Int} : ∀ n, (∀ i, i < n → f i ≤ g i) → ∀ i, i < n → sumF f n - f i ≤ sumF g n - g i
 | 0, _, i, hi => by omega
 | n + 1, h, i, hi => by
  simp only [sumF]; have h2 := h n (by omega); by_cases he : i = n
  ·subst he; have h1 := sumF_le i (fun j hj => h j (by omega)); omega
  ·have h1 := sumF_drop n (fun j hj => h j (by omega)) i (by omega); omega
theorem sumF_bounds {f : Nat → Int} : ∀ n, n ≤ 8 → (∀ i, i < n → 0 ≤ f i ∧ f i ≤ 1048576) → 0 ≤ sumF f n ∧ sumF f n ≤ 1048576 * n
 | 0, _, _ => by simp [sumF]
 | n + 1, hn, h => by
  have h1 := sumF_bounds n (by omega) (fun i hi => h i (by omega)); have h2 := h n (by omega); simp only [sumF]; push_cast; omega
theorem sumF_sum : ∀ ms : List Int, sumF (fun j => ms.getD j 0) ms.length = ms.sum := by
 have h : ∀ (ms : List Int) (n : Nat), n ≤ ms.length → sumF (fun j => ms.getD j 0) n = (ms.take n).sum := by
  intro ms n
  induction n with
  | zero => intro _; simp [sumF]
  | succ n ih =>
   intro hn; rw [sumF, ih (by omega), ← List.take_append_getElem (by omega), List.sum_append]; simp [List.getD_eq_getElem?_getD, show n < ms.length by omega]
 intro ms; rw [h ms _ (Nat.le_refl _), List.take_length]
theorem sums_eq (m : List Int) (sh : List S86) : ∀ n, n ≤ 8 → (∀ i k, i < n → k < sh.length → 0 ≤ m.getD (i * 8 + k) 0) →
 (sumsTo (-1) 0 m sh n).2 = sumF (fun i => eachTo (-1) 0 m i sh sh.length) n ∧ ∀ i, i < n → (sumsTo (-1) 0 m sh n).1.getD i 0 = eachTo (-1) 0 m i sh sh.length := by
 intro n
 induction n with
 | zero => intro _ _; exact ⟨rfl, fun i hi => by omega⟩
 | succ n ih =>
  intro hn h; obtain ⟨h1, h2⟩ := ih (by omega) (fun i k hi hk => h i k (by omega) hk); have hb := sumF_bounds (f := fun i => eachTo (-1) 0 m i sh sh.length) n (by omega) (fun i hi => each_bounds m i sh _ (fun k hk => h i k (by omega) hk)); have hb2 := each_bounds m n sh _ (fun k hk => h n k (by omega) hk); refine ⟨?_, fun i hi => ?_⟩
  ·rw [sumsTo]; simp only [sumF]; rw [h1, w64_of (by omega) (by omega)]
  ·rw [sumsTo]; simp only []; rw [List.getD_eq_getElem?_getD, List.getElem?_set]; have hl := sumsTo_length (-1) 0 m sh n; by_cases he : n = i
   ·subst he; rw [if_pos rfl, if_pos (by omega)]; rfl
   ·rw [if_neg he, ← List.getD_eq_getElem?_getD]; exact h2 i (by omega)
end Go.Proofs.Ytihedeofkhapiaa.Pr
end
