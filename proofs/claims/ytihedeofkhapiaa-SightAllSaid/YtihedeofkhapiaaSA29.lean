/- Part 29 of 34 of the proof of: SightAll: for every slice of numbers, the law returns true: of a slim line made of them, the letters and hands that the program tells are just those of the truths found by going through all choices, and its marks are the fewest of any truth; no condition beyond the statement's own. -/
import Derived.RangeFuncBox
import Derived.Maps.AppendAt
import Derived.Test.YtihedeofkhapiaaSA5
import Derived.Test.YtihedeofkhapiaaSA21
import Derived.Test.YtihedeofkhapiaaSA22
import Derived.Test.YtihedeofkhapiaaSA28
set_option linter.unusedVariables false
set_option linter.unusedSimpArgs false
section
namespace Go.Proofs.Ytihedeofkhapiaa.Pr
open Go.RowKit Go.Shelf Go.Proofs.YtihedeofkhapiaaW.PrintWords Go.Proofs.YtihedeofkhapiaaW.PrintLast Go.Proofs.YtihedeofkhapiaaW.PrintMore
attribute [local go_sem] Oper.semAt_some
def lL (l0 : List S66) (a1 a2 : Int) (l4 : List (List S27)) (x : Nat) : Int := (dZ (-1) 0 (bP a1 a2 l0 l4 x) (aX l0 (x : Int)).f1 l4.length).2
def je (l0 : List S66) (a1 a2 a3 : Int) (l4 : List (List S27)) (pre : List (Fin l0.length)) : List Int := (pre.filter fun x => decide (lL l0 a1 a2 l4 x.1 ≤ a3)).map fun x => (x.1 : Int)
theorem EU {l0 : List S66} {a1 a2 a3 : Int} {l4 : List (List S27)} (pre : List (Fin l0.length)) {x : Fin l0.length} (h : lL l0 a1 a2 l4 x.1 ≤ a3) : je l0 a1 a2 a3 l4 (pre ++ [x]) = je l0 a1 a2 a3 l4 pre ++ [(x.1 : Int)] := by
 simp [je, List.filter_append, h]
theorem BZ {l0 : List S66} {a1 a2 a3 : Int} {l4 : List (List S27)} (pre : List (Fin l0.length)) {x : Fin l0.length} (h : ¬ lL l0 a1 a2 l4 x.1 ≤ a3) : je l0 a1 a2 a3 l4 (pre ++ [x]) = je l0 a1 a2 a3 l4 pre := by
 simp [je, List.filter_append, h]
theorem mh {l0 : List S66} {a1 a2 a3 : Int} {l4 : List (List S27)} (pre : List (Fin l0.length)) : (je l0 a1 a2 a3 l4 pre).length ≤ pre.length := by
 simp only [je, List.length_map]; exact List.length_filter_le _ _
def tV (l0 : List S66) (a1 a2 a3 : Int) (l4 : List (List S27)) : List Int × Int :=
 if jl l0 a1 a2 a3 l4 = 0 then (if je l0 a1 a2 a3 l4 (List.finRange l0.length) = [] then ([], 9) else (je l0 a1 a2 a3 l4 (List.finRange l0.length), 0)) else ([], jl l0 a1 a2 a3 l4)
def dJ.f (aG : List (S66)) (aH : Int) (aW : Int) (bg : Int) (aA : List (List (S27))) : Option (List Int × Int) := some (tV aG aH aW bg aA)
theorem ow (m : List Int) : ((nums .i64 m).toArray.all (·.oneCell')) = true := by
 rw [Array.all_eq_true_iff_forall_mem]; intro v hv; simp only [nums, List.mem_toArray, List.mem_map] at hv; obtain ⟨x, _, rfl⟩ := hv; rfl
theorem jm (W : World) (cs cs' : Array Value) (t : TypeId) : (W.alloc (.cells cs t (0, 0))).setRow W.heap.size cs' = W.alloc (.cells cs' t (0, 0)) := by
 have h : (W.heap.push (.cells cs t (0, 0))).modify W.heap.size (fun | .cells _ elem frozen => .cells cs' elem frozen | o => o) = W.heap.push (.cells cs' t (0, 0)) := by
  apply Array.ext_getElem?; intro i; rw [Array.getElem?_modify]; by_cases hi : W.heap.size = i
  ·subst hi; rw [if_pos rfl, Array.getElem?_push_size, Array.getElem?_push_size]; rfl
  ·rw [if_neg hi, Array.getElem?_push, Array.getElem?_push, if_neg (fun e => hi e.symm), if_neg (fun e => hi e.symm)]
 unfold World.setRow World.alloc; dsimp only; congr 1
theorem iF {W W' : World} (h : Below W.heap.size W W') : KeepsOthers W W' := ⟨h.size, fun k o hk _ => (h.block k (bf hk)).trans hk⟩
theorem vG {W : World} {g : Nat} {cs : Array Value} {t : TypeId} {base e size n : Nat} {v : Value} {xs : List Value} (h : W.heap[g]? = some (.cells cs t (0, 0))) (hr : W.ownsRow base e size v n xs) (hte : t ≠ e) : some g ≠ v.ownBlock := by
 intro hk; obtain ⟨cells, hc⟩ := om hr g hk.symm; rw [h] at hc; injection hc with hc; injection hc with _ hc; exact hte hc
theorem Bp {α : Type} {d : Kd α} {e : Nat} {W : World} {base : Nat} {ok : Nat → Prop} {v : Value} {xs : List α} (h : Kd.R d e W base ok v xs) {l : Nat} {o o' : Obj} (hl : W.heap[l]? = some o) (ho : o.isCells = false) : Kd.R d e (W.putObj l o') base ok v xs :=
 Kd.dV (Kd.DN (Kd.ib h) (grownBy_putObj' W l o') (fun k hk e => by
  obtain ⟨_, _, _, q, _, cells, hc⟩ := hk; cases e; rw [hl] at hc; cases hc
  cases ho)) (fun _ hk => hk.1)
theorem oK {β : Type} (g : Nat) (cs : Array Value) (t : TypeId) : Own (fun (_ : β) W => W.heap[g]? = some (.cells cs t (0, 0))) := fun s X Y row hs hg hr =>
 (hg.block g (bf hs) (fun e => by obtain ⟨o, ho, hc⟩ := hr g e.symm; rw [hs] at ho; cases ho; cases hc)).trans hs
set_option maxRecDepth 100000 in
set_option maxHeartbeats 4000000 in
theorem dJ.calls (df : Option Addr) (bW : Nat) (aG : List (S66)) (aH : Int) (aW : Int) (bg : Int) (cZ : Option Addr) (bY : Nat) (aA : List (List (S27))) (r1 : List Int) (r2 : Int) (w : World) (jB : Kd.C k66 w df aG.length aG) (kD : aG.length ≤ bW) (jC : Kd.C (Kd.slice 27 k27) w cZ aA.length aA) (kF : aA.length ≤ bY) (h : dJ.f aG aH aW bg aA = some (r1, r2)) :
 Calls Try.prog 58 #[.agg #[.slice df aG.length bW, .int .i64 aH, .int .i64 aW, .int .i64 bg, .slice cZ aA.length bY]] w fun e w' => ∃ v0_ : Value, e = .returned (.tuple #[v0_, .int .i64 r2]) ∧ Kd.R (Kd.int .i64) 3 w' w.heap.size (fun _ => True) v0_ r1 ∧ Below w.heap.size w w' := by
 have h' := Option.some.inj h; clear h; obtain ⟨ch, hch⟩ : ∃ ch, ch = jl aG aH aW bg aA := ⟨_, rfl⟩; rw [tV, ← hch] at h'; have HC := vo df bW aG aH aW bg cZ bY aA (w.alloc (.cells #[.slice df aG.length bW, .int .i64 aH, .int .i64 aW, .int .i64 bg, .slice cZ aA.length bY] 25)) (Kd.cu jB (ah (Below.refl _ _) _)) kD (Kd.cu jC (ah (Below.refl _ _) _)) kF; rw [← hch] at HC; refine callsIn_wide (n := 10).1 ?_; refine callsIn_of_wp_marks Try.func58 rfl trivial ?_ rfl; simp only [Try.ntmps58, List.size_toArray, List.length_cons, List.length_nil, Nat.reduceAdd, Nat.reduceSub, Array.replicate_succ, Array.replicate_zero, List.push_toArray, List.append_toArray, List.nil_append, List.cons_append]
 gi_wp2_with (fail)
 refine ⟨trivial, ?_⟩; refine (callsIn_wide.2 HC).mono ?_; rintro e w1 ⟨rfl, hb⟩; have HW1 := aa.mk (eY (ah (Below.refl _ _) _) (by simp) hb); have hBx := (hb.block _ (bf (heap_alloc_new w (.cells #[.slice df aG.length bW, .int .i64 aH, .int .i64 aW, .int .i64 bg, .slice cZ aA.length bY] 25)))).trans (heap_alloc_new w _); have HBX := aa.mk hBx; have HR0 := aa.mk jB; have HR4 := aa.mk jC; clear hBx hb HC jB jC; by_cases h0 : ch = 0
 ·rw [if_pos h0] at h'; have hv := oN (hch.symm.trans h0); have HV := aa.mk hv; have HS := aa.mk (oL hv.2.2.2.2.1); subst h0; have HH := aa.mk h'; clear h' hv hch; have hz0 : w1.cell? ⟨w.heap.size, 0, none⟩ = some (.slice df aG.length bW) := (av HBX.out 0).trans rfl; have hz1 : w1.cell? ⟨w.heap.size, 1, none⟩ = some (.int .i64 aH) := (av HBX.out 1).trans rfl; have hz2 : w1.cell? ⟨w.heap.size, 2, none⟩ = some (.int .i64 aW) := (av HBX.out 2).trans rfl; have hz3 : w1.cell? ⟨w.heap.size, 3, none⟩ = some (.int .i64 bg) := (av HBX.out 3).trans rfl; have hz4 : w1.cell? ⟨w.heap.size, 4, none⟩ = some (.slice cZ aA.length bY) := (av HBX.out 4).trans rfl; have hlt1 : w.heap.size < w1.heap.size := bf HBX.out
  gi_wp2_with (fail)
  refine ⟨trivial, ?_⟩; refine (wS _ _ _ _ _ _ _ _ _ _ _).mono ?_; rintro e w2 ⟨rfl, rfl⟩
  gi_wp2_with (fail)
  obtain ⟨bo, hbo⟩ : ∃ bo, bo = w1.heap.size := ⟨_, rfl⟩; have bO := (Boxed.new w1 28 (.slice none 0 0)).alloc (.cells #[.slice df aG.length bW, .int .i64 aH, .int .i64 aW, .int .i64 bg, .slice cZ aA.length bY] 25)
  have bL : ((w1.alloc (.cells #[.slice none 0 0] 28)).alloc (.cells #[.slice df aG.length bW, .int .i64 aH, .int .i64 aW, .int .i64 bg, .slice cZ aA.length bY] 25)).heap[w1.heap.size + 1]? = some (.cells #[.slice df aG.length bW, .int .i64 aH, .int .i64 aW, .int .i64 bg, .slice cZ aA.length bY] 25 (0, 0)) := by
   have := heap_alloc_new (w1.alloc (.cells #[.slice none 0 0] 28)) (.cells #[.slice df aG.length bW, .int .i64 aH, .int .i64 aW, .int .i64 bg, .slice cZ aA.length bY] 25)
   rwa [World.size_alloc] at this
  have bX : ((w1.alloc (.cells #[.slice none 0 0] 28)).alloc (.cells #[.slice df aG.length bW, .int .i64 aH, .int .i64 aW, .int .i64 bg, .slice cZ aA.length bY] 25)).heap[w.heap.size]? = some (.cells #[.slice df aG.length bW, .int .i64 aH, .int .i64 aW, .int .i64 bg, .slice cZ aA.length bY] 25 (0, 0)) := bu (bu HBX.out _) _; (have hsz : ((w1.alloc (.cells #[.slice none 0 0] 28)).alloc (.cells #[.slice df aG.length bW, .int .i64 aH, .int .i64 aW, .int .i64 bg, .slice cZ aA.length bY] 25)).heap.size = bo + 2 := by simp [hbo]); have hB0 : Below w.heap.size w ((w1.alloc (.cells #[.slice none 0 0] 28)).alloc (.cells #[.slice df aG.length bW, .int .i64 aH, .int .i64 aW, .int .i64 bg, .slice cZ aA.length bY] 25)) := ah (ah HW1.out _) _; (have hwb : w.heap.size < bo := by rw [hbo]; exact hlt1); rw [← hbo] at bL bO ⊢; obtain ⟨W0, hW0⟩ : ∃ W0, W0 = ((w1.alloc (.cells #[.slice none 0 0] 28)).alloc (.cells #[.slice df aG.length bW, .int .i64 aH, .int .i64 aW, .int .i64 bg, .slice cZ aA.length bY] 25)) := ⟨_, rfl⟩; rw [← hW0] at bO bL bX hsz hB0 ⊢; clear hW0 hz0 hz1 hz2 hz3 hz4 hlt1 HBX hbo HW1
  refine wpIn_rangeFunc_ownH rfl (by omega) (gf := 73) (lb := #[.pointer (some ⟨bo + 1, 0, none⟩)]) rfl trivial (enters_of Try.func73 (by kernel_rfl) rfl)
   (pK 9 (by omega) (bo + 1) w.heap.size df bW aG aH aW bg cZ bY aA HV.out.2.2.2.1 HS.out w W0 (Nat.le_refl _) HR0.out HR4.out hB0 (by omega) bL) I8 (Je (by omega)) (Below.refl _ _) (fun _ => rfl)
   (fun pre W => ((∃ v, Boxed W bo 28 v ∧ W.ownsRow w.heap.size 3 1 v (je aG aH aW bg aA pre).length (nums .i64 (je aG aH aW bg aA pre)) ∧ True) ∧ W.heap[bo + 1]? = some (.cells #[.slice df aG.length bW, .int .i64 aH, .int .i64 aW, .int .i64 bg, .slice cZ aA.length bY] 25 (0, 0)) ∧ W.heap[w.heap.size]? = some (.cells #[.slice df aG.length bW, .int .i64 aH, .int .i64 aW, .int .i64 bg, .slice cZ aA.length bY] 25 (0, 0))) ∧ Below w.heap.size w W)
   (fun _ _ _ => False)
   (OwnFrom.and (OwnFrom.and (Own.from (holdsRow_own w.heap.size bo 28 3 1 (fun pre => (je aG aH aW bg aA pre).length) (fun pre => nums .i64 (je aG aH aW bg aA pre)) (fun _ _ => True)) _) (OwnFrom.and (Own.from (oK _ _ _) _) (Own.from (oK _ _ _) _))) (ownFrom_below (Nat.le_refl _) (by omega)))
   (fun _ _ _ _ _ hs _ _ => hs)
   ⟨⟨⟨_, bO, World.ownsRow_nil _ _ _ _, trivial⟩, bL, bX⟩, hB0⟩
   (fun x a' W => ∃ Bx, bo + 1 < Bx ∧ kC W Bx (bP aH aW aG aA x.1) ∧ a' = { tmps := #[.agg #[.slice df aG.length bW, .int .i64 aH, .int .i64 aW, .int .i64 bg, .slice cZ aA.length bY], .pointer (some ⟨w.heap.size, 0, none⟩), .slice none 0 0, .int .i64 0, .int .i64 0, .pointer (some ⟨bo, 0, none⟩), .int .i64 (x.1 : Int), .pointer (some ⟨Bx, 0, none⟩), undef, undef, .agg #[.slice df aG.length bW, .int .i64 aH, .int .i64 aW, .int .i64 bg, .slice cZ aA.length bY], .int .i64 0, .int .i64 0, .bool false, undef, .agg #[.slice df aG.length bW, .int .i64 aH, .int .i64 aW, .int .i64 bg, .slice cZ aA.length bY], .func (.func 73) #[] #[.pointer (some ⟨bo + 1, 0, none⟩)], .int .i64 (x.1 : Int), .agg (nums .i64 (bP aH aW aG aA x.1)).toArray, undef, undef, undef, undef, undef, undef, undef, undef, undef, undef, undef, undef, undef, undef, undef, undef, undef, undef, undef, undef], defers := [] })
   (fun x a' _ X Y row hs hg hr => by obtain ⟨Bx, h1, h2, h3⟩ := hs; exact ⟨Bx, h1, ⟨h2.1, oK (β := Unit) Bx _ 97 () X Y row h2.2 hg (fun r e => (hr r e).2)⟩, h3⟩)
   ?assign ?body ?done ?stop
  case assign =>
   rintro l pre x W K ⟨⟨⟨v, hv, hrow, _⟩, hL, hX⟩, hB⟩ hK; dsimp only [Fy]; have hlen := fD aH aW aA (aX aG (x.1 : Int)).f1 aA.length; (have hin : (Try.prog.info? 97).map (·.size) = some 64 := by kernel_rfl); have H64 := aa.mk (show (nums .i64 (bP aH aW aG aA x.1)).toArray.size = 64 by simp [nums, bP, hlen]); have HIN := aa.mk hin; have HA := aa.mk (ow (bP aH aW aG aA x.1)); clear hlen hin; have hK2 := aa.mk hK; clear hK
   gi_wp2_with (refine eZ rfl 97 (.tmp 7) (.tmp 18) rfl W.heap.size _ rfl rfl 97 _ (heap_alloc_new W _) (by rw [H64.out]; exact HIN.out) (by rw [H64.out]; rfl) HA.out ?_)
   rw [jm]; refine hK2.out _ _ ((KeepsOthers.alloc _ _).from _) ⟨(Below.refl _ W).alloc hB.size _, fun o ho hc => bu ho _⟩ ⟨⟨⟨v, hv.alloc _, hrow.alloc _, trivial⟩, bu hL _, bu hX _⟩, ah hB _⟩ ⟨W.heap.size, bf hL, ⟨fD _ _ _ _ _, heap_alloc_new W _⟩, rfl⟩
  case body =>
   rintro l pre x a' W hl ⟨r, hr⟩ ⟨⟨⟨v, hv, hrow, _⟩, hL, hX⟩, hB⟩ ⟨Bx, hBx, bN, rfl⟩ hlt; (have hin : (Try.prog.info? 97).map (·.size) = some 64 := by kernel_rfl); (have hin5 : (Try.prog.info? 95).map (·.size) = some 8 := by kernel_rfl); have H64 := aa.mk (show (nums .i64 (bP aH aW aG aA x.1)).toArray.size = 64 by simp [nums, bN.1]); have HIN := aa.mk hin; have HIN5 := aa.mk hin5; have HV' := aa.mk hv; have HRow := aa.mk hrow; have HL := aa.mk hL; have HX := aa.mk hX; have HB := aa.mk hB; have HN := aa.mk bN; clear hin hin5 hv hrow hL hB bN; have hz0 : W.cell? ⟨w.heap.size, 0, none⟩ = some (.slice df aG.length bW) := (av hX 0).trans rfl; have hz1 : W.cell? ⟨w.heap.size, 1, none⟩ = some (.int .i64 aH) := (av hX 1).trans rfl; have hz2 : W.cell? ⟨w.heap.size, 2, none⟩ = some (.int .i64 aW) := (av hX 2).trans rfl; have hz3 : W.cell? ⟨w.heap.size, 3, none⟩ = some (.int .i64 bg) := (av hX 3).trans rfl; have hz4 : W.cell? ⟨w.heap.size, 4, none⟩ = some (.slice cZ aA.length bY) := (av hX 4).trans rfl; clear hX
   gi_wp2_with (refine kM rfl 97 (.tmp 7) rfl Bx rfl 97 _ (0, 0) _ HN.out.2 Try.underlying97 rfl (by rw [H64.out]; exact HIN.out) ?_)
   refine ⟨trivial, (CallsIn.inRound l (callsIn_wide.2 (sums.calls (-1) 0 df bW aG aH aW bg cZ aA.length bY x.1 (bP aH aW aG aA x.1) W (Kd.cu HR0.out HB.out) x.2 HN.out.1 HV.out.2.2.2.1 (HS.out x.1 x.2)))).mono ?_⟩; rintro e w2 ⟨rfl, hb⟩; obtain ⟨es, hes⟩ : ∃ es, es = (dZ (-1) 0 (bP aH aW aG aA x.1) (aX aG (x.1 : Int)).f1 aA.length).1 := ⟨_, rfl⟩; obtain ⟨tot, htot⟩ : ∃ tot, tot = (dZ (-1) 0 (bP aH aW aG aA x.1) (aX aG (x.1 : Int)).f1 aA.length).2 := ⟨_, rfl⟩; rw [← hes, ← htot]; (have hel : es.length = 8 := by rw [hes]; exact gT _ _ _ _ _); have HE := aa.mk (show (nums .i64 es).toArray.size = 8 by simp [nums, hel]); have HA := aa.mk (ow es); have HT := aa.mk (show tot = lL aG aH aW aA x.1 from htot); have hbw : Below W.heap.size W w2 := hb; have HBW := aa.mk hbw; have HX2 := aa.mk ((hb.block _ (bf HX.out)).trans HX.out); have hz3 : w2.cell? ⟨w.heap.size, 3, none⟩ = some (.int .i64 bg) := (av HX2.out 3).trans rfl; have hlt3 : w.heap.size < w2.heap.size := bf HX2.out; clear hes htot hel hb hbw hz0 hz1 hz2 hz4; have HK2 := HV'.out.kept (gp HBW.out none) (by simp); have hv2 : Boxed (w2.alloc (.cells (nums .i64 es).toArray 95)) bo 28 v := HK2.alloc _; have hrow2 := (sK HRow.out HBW.out).alloc (.cells (nums .i64 es).toArray 95); (have hsz2 : (w2.alloc (.cells (nums .i64 es).toArray 95)).heap.size = w2.heap.size + 1 := by simp); have hBW2 : Below W.heap.size W (w2.alloc (.cells (nums .i64 es).toArray 95)) := ah HBW.out _; have hKO2 : KeepsOthers W (w2.alloc (.cells (nums .i64 es).toArray 95)) := iF hBW2; have HB2 := aa.mk (eY HB.out HB.out.size hBW2); have HL2 := aa.mk ((hBW2.block _ (bf HL.out)).trans HL.out); have HX3 := aa.mk ((hBW2.block _ (bf HX.out)).trans HX.out); have HBW2 := aa.mk hBW2; have HKO2 := aa.mk hKO2; obtain ⟨i0, hi, hz0, hz1, hz2⟩ := info_parts info3; have hpl := mh (a1 := aH) (a2 := aW) (a3 := bg) (l4 := aA) pre; have hl0 := HV.out.2.1; have hcO := HK2.cell; have hltO : bo < w2.heap.size := HK2.lt; clear hKO2 hBW2 HK2; have HCN := aa.mk (cell_one_new (w2.alloc (.cells (nums .i64 es).toArray 95)) (.int .i64 (x.1 : Int)) 3); rw [World.size_alloc] at HCN; by_cases ht : tot ≤ bg
   ·have hdt : decide (tot ≤ bg) = true := decide_eq_true ht; have HTT := aa.mk (show lL aG aH aW aA x.1 ≤ bg by rw [← HT.out]; exact ht); clear ht
    gi_wp2_with (first
     | (refine eZ rfl 95 (.tmp 8) (.tmp 25) rfl w2.heap.size _ rfl rfl 95 _ (heap_alloc_new w2 _) (by rw [HE.out]; exact HIN5.out) (by rw [HE.out]; rfl) HA.out ?_; rw [jm])
     | (gi_at_builtin; go_loud (refine wpListIn_append_own _ rfl _ _ 28 rfl w.heap.size 3 i0 (.int .i64 0) 1 8 Try.underlying28 hi hz0 hz1 hz2 rfl (by decide) _ _ _ rfl (hrow2.alloc _) ⟨w2.heap.size + 1, 0, none⟩ 1 1 [.int .i64 (x.1 : Int)] rfl rfl HCN.out (by simp [Value.oneCell']) (by unfold maxLen; omega) (by omega) (by have := HB2.out.size; simp at this ⊢; omega) ?_); intro v' w3 hown' hgrow _; obtain ⟨g', cap', rfl⟩ := ownsRow_succ hown'; obtain ⟨hv1, hv2', hr2, hk2, hb2⟩ := hv2.appended (by decide) hrow2 HB2.out.size (by omega) hown' hgrow; have hc1 := hv1.cell; have hf1 := hv1.frozen))
    have hLf := aM (aU (bu HL2.out (.cells #[.int .i64 (x.1 : Int)] 3)) hgrow (show some (bo + 1) ≠ v.ownBlock from vG HL2.out hrow2 (by decide))) (p := ⟨bo, 0, none⟩) (by simp) (.slice (some ⟨g', 0, none⟩) ((je aG aH aW bg aA pre).length + 1) cap'); have hXf := aM (aU (bu HX3.out (.cells #[.int .i64 (x.1 : Int)] 3)) hgrow (show some w.heap.size ≠ v.ownBlock from vG HX3.out hrow2 (by decide))) (p := ⟨bo, 0, none⟩) (by simp; omega) (.slice (some ⟨g', 0, none⟩) ((je aG aH aW bg aA pre).length + 1) cap'); refine ⟨(HKO2.out.trans hk2).from _, ⟨(HBW2.out.mono HB.out.size).trans hb2, fun o ho hc => ?_⟩, ⟨⟨_, hv2', ?_, trivial⟩, hLf, hXf⟩, HB2.out.trans hb2⟩
    ·rw [HL.out] at ho; cases ho; exact hLf
    ·rw [EU pre HTT.out]
     simpa [nums] using hr2
   ·have hdt : decide (tot ≤ bg) = false := decide_eq_false ht; have HTT := aa.mk (show ¬ lL aG aH aW aA x.1 ≤ bg by rw [← HT.out]; exact ht); clear ht
    gi_wp2_with (refine eZ rfl 95 (.tmp 8) (.tmp 25) rfl w2.heap.size _ rfl rfl 95 _ (heap_alloc_new w2 _) (by rw [HE.out]; exact HIN5.out) (by rw [HE.out]; rfl) HA.out ?_; rw [jm])
    refine ⟨HKO2.out.from _, ⟨HBW2.out.mono HB.out.size, fun o ho hc => (HBW2.out.block _ (bf ho)).trans ho⟩, ⟨⟨v, hv2, ?_, trivial⟩, HL2.out, HX3.out⟩, HB2.out⟩; rw [BZ pre (Int.not_le.mpr (Int.not_le.mp (by have := HTT.out; omega)))]; exact hrow2
  case done =>
   rintro D ys W hD rfl ⟨⟨⟨v, hv, hrow, _⟩, hL, hX⟩, hB⟩ hK; have hc := hv.cell; have HRW := aa.mk (show Kd.R (Kd.int .i64) 3 W w.heap.size (fun _ => True) v (je aG aH aW bg aA (List.finRange aG.length)) from Kd.pU hrow (fun _ _ => trivial)); have HB := aa.mk hB; have hl := hrow.1; have hl2 := mh (a1 := aH) (a2 := aW) (a3 := bg) (l4 := aA) (List.finRange aG.length); rw [List.length_finRange] at hl2; obtain ⟨fs, hfs⟩ : ∃ fs, fs = je aG aH aW bg aA (List.finRange aG.length) := ⟨_, rfl⟩; rw [← hfs] at HRW hl2; have HH' := HH; rw [← hfs] at HH'; obtain ⟨A, cap, rfl, _, _⟩ := Kd.vY HRW.out; have HKD := aa.mk hK; clear hfs hrow hX hL hB HH hl hK; have hh := HH'.out; by_cases h0 : fs = []
   ·rw [if_pos h0] at hh; simp only [Prod.mk.injEq] at hh; obtain ⟨rfl, rfl⟩ := hh; (have hz : ((fs.length : Int) == 0) = true := by simp [h0]); (have hz2 : (fs.length == 0) = true := by simp [h0]); have HF := aa.mk h0; clear h0 HH'
    gi_wp2_with (fail)
    refine ⟨by simp, .inl ⟨_, _, rfl, run_takeDeferred HKD.out, ?_⟩⟩; exact ⟨_, results_tmp2 rfl _ _ _, _, rfl, Kd.qP _ _ _ _ _, HB.out.trans (belowK_b (w := w) (Nat.le_refl _) W D _ _ (by omega) HKD.out rfl rfl)⟩
   ·rw [if_neg h0] at hh; simp only [Prod.mk.injEq] at hh; obtain ⟨rfl, rfl⟩ := hh; (have hz : ((fs.length : Int) == 0) = false := by simp [h0]); (have hz2 : (fs.length == 0) = false := by simp [h0]); clear h0 HH'
    gi_wp2_with (fail)
    refine ⟨by simp, .inl ⟨_, _, rfl, run_takeDeferred HKD.out, ?_⟩⟩; exact ⟨_, results_tmp2 rfl _ _ _, _, rfl, Bp HRW.out HKD.out rfl, HB.out.trans (belowK_b (w := w) (Nat.le_refl _) W D _ _ (by omega) HKD.out rfl rfl)⟩
  case stop =>
   rintro D c pre W _ _ h _; exact h.elim
 ·rw [if_neg h0] at h'; simp only [Prod.mk.injEq] at h'; obtain ⟨rfl, rfl⟩ := h'; (have hd : (ch == 0) = false := by simp [h0]); (have hd2 : (ch != 0) = true := by simp [h0]); clear h0 hch
  gi_wp2_with (fail)
  exact ⟨_, results_tmp2 rfl _ _ _, _, rfl, Kd.qP _ _ _ _ _, HW1.out⟩
end Go.Proofs.Ytihedeofkhapiaa.Pr
end
section
namespace Go.Proofs.Ytihedeofkhapiaa.Pr
open Go.RowKit Go.Proofs.YtihedeofkhapiaaW.PrintWords Go.Proofs.YtihedeofkhapiaaW.PrintLast Go.Proofs.YtihedeofkhapiaaW.PrintMore
theorem Cq (W S : Int) (q : Int × Int × Bool) (sh : List S86) (i : Nat) (m : List Int) (hi : i < 8) (hm : m.length = 64) : ∀ K, K ≤ 8 → ∀ i' k, i' < 8 → k < 8 →
 (oV W S q sh i m K).getD (i' * 8 + k) 0 = if i' = i ∧ k < K then cellP W S q (bn sh (k : Int)) else m.getD (i' * 8 + k) 0 := by
 intro K
 induction K with
 | zero => intro _ i' k _ _; rw [oV, if_neg (by omega)]
 | succ K ih =>
  intro hK i' k hi' hk; (have hlen : (oV W S q sh i m K).length = 64 := by rw [oJ, hm]); rw [oV, List.getD_eq_getElem?_getD, List.getElem?_set]; by_cases he : i * 8 + K = i' * 8 + k
  ·(obtain ⟨rfl, rfl⟩ : i = i' ∧ K = k := by omega); rw [if_pos rfl, if_pos (by omega), if_pos (by omega)]; rfl
  ·rw [if_neg he, ← List.getD_eq_getElem?_getD, ih (by omega) i' k hi' hk]; by_cases h1 : i' = i ∧ k < K
   ·rw [if_pos h1, if_pos (by omega)]
   ·rw [if_neg h1, if_neg (by omega)]
theorem oG (W S : Int) (l4 : List (List S27)) (sh : List S86) (hsh : sh.length ≤ 8) : ∀ n, n ≤ 8 → ∀ i k, i < n → k < sh.length →
 (dY W S l4 sh n).getD (i * 8 + k) 0 = cellP W S (eX (dz l4 (i : Int))) (bn sh (k : Int)) := by
 intro n
 induction n with
 | zero => intro _ i k hi; omega
 | succ n ih =>
  intro hn i k hi hk; rw [dY, Cq _ _ _ _ _ _ (by omega) (fD _ _ _ _ _) _ hsh i k (by omega) (by omega)]; by_cases he : i = n
  ·subst he; rw [if_pos ⟨rfl, hk⟩]
  ·rw [if_neg (by omega)]; exact ih (by omega) i k (by omega) hk
theorem Vs (m : List Int) (i : Nat) (sh : List S86) : ∀ K k, k < K → fE (-1) 0 m i sh K ≤ m.getD (i * 8 + k) 0 := by
 intro K
 induction K with
 | zero => intro k hk; omega
 | succ K ih =>
  intro k hk; (have hm : ug (-1) 0 (i : Int) (bn sh (K : Int)) = true := by rw [ug, if_neg (by omega)]); rw [fE, if_pos hm]; unfold mn; by_cases he : k = K
  ·subst he; split <;> omega
  ·have := ih k (by omega); split <;> omega
theorem uL (m : List Int) (i : Nat) (sh : List S86) : ∀ K, (∀ k, k < K → 0 ≤ m.getD (i * 8 + k) 0) → 0 ≤ fE (-1) 0 m i sh K ∧ fE (-1) 0 m i sh K ≤ 1048576 := by
 intro K
 induction K with
 | zero => intro _; exact ⟨by simp [fE, fV], by simp [fE, fV]⟩
 | succ K ih =>
  intro h; (have hm : ug (-1) 0 (i : Int) (bn sh (K : Int)) = true := by rw [ug, if_neg (by omega)]); have h1 := ih (fun k hk => h k (by omega)); have h2 := h K (by omega); rw [fE, if_pos hm]; unfold mn; split <;> omega
def ou (f : Nat → Int) : Nat → Int
 | 0 => 0
 | n + 1 => ou f n + f n
theorem Ee {f g : Nat → Int} : ∀ n, (∀ i, i < n → f i ≤ g i) → ou f n ≤ ou g n
 | 0, _ => Int.le_refl _
 | n + 1, h => by
  have h1 := Ee n (fun i hi => h i (by omega)); have h2 := h n (by omega); simp only [ou]; omega
theorem Fp {f g : Nat → Int} : ∀ n, (∀ i, i < n → f i ≤ g i) → ∀ i, i < n → ou f n - f i ≤ ou g n - g i
 | 0, _, i, hi => by omega
 | n + 1, h, i, hi => by
  simp only [ou]; have h2 := h n (by omega); by_cases he : i = n
  ·subst he; have h1 := Ee i (fun j hj => h j (by omega)); omega
  ·have h1 := Fp n (fun j hj => h j (by omega)) i (by omega); omega
theorem vC {f : Nat → Int} : ∀ n, n ≤ 8 → (∀ i, i < n → 0 ≤ f i ∧ f i ≤ 1048576) → 0 ≤ ou f n ∧ ou f n ≤ 1048576 * n
 | 0, _, _ => by simp [ou]
 | n + 1, hn, h => by
  have h1 := vC n (by omega) (fun i hi => h i (by omega)); have h2 := h n (by omega); simp only [ou]; push_cast; omega
theorem GM : ∀ ms : List Int, ou (fun j => ms.getD j 0) ms.length = ms.sum := by
 have h : ∀ (ms : List Int) (n : Nat), n ≤ ms.length → ou (fun j => ms.getD j 0) n = (ms.take n).sum := by
  intro ms n
  induction n with
  | zero => intro _; simp [ou]
  | succ n ih =>
   intro hn; rw [ou, ih (by omega), ← List.take_append_getElem (by omega), List.sum_append]; simp [List.getD_eq_getElem?_getD, show n < ms.length by omega]
 intro ms; rw [h ms _ (Nat.le_refl _), List.take_length]
theorem K4 (m : List Int) (sh : List S86) : ∀ n, n ≤ 8 → (∀ i k, i < n → k < sh.length → 0 ≤ m.getD (i * 8 + k) 0) →
 (dZ (-1) 0 m sh n).2 = ou (fun i => fE (-1) 0 m i sh sh.length) n ∧ ∀ i, i < n → (dZ (-1) 0 m sh n).1.getD i 0 = fE (-1) 0 m i sh sh.length := by
 intro n
 induction n with
 | zero => intro _ _; exact ⟨rfl, fun i hi => by omega⟩
 | succ n ih =>
  intro hn h; obtain ⟨h1, h2⟩ := ih (by omega) (fun i k hi hk => h i k (by omega) hk); have hb := vC (f := fun i => fE (-1) 0 m i sh sh.length) n (by omega) (fun i hi => uL m i sh _ (fun k hk => h i k (by omega) hk)); have hb2 := uL m n sh _ (fun k hk => h n k (by omega) hk); refine ⟨?_, fun i hi => ?_⟩
  ·rw [dZ]; simp only [ou]; rw [h1, bJ (by omega) (by omega)]
  ·rw [dZ]; simp only []; rw [List.getD_eq_getElem?_getD, List.getElem?_set]; have hl := gT (-1) 0 m sh n; by_cases he : n = i
   ·subst he; rw [if_pos rfl, if_pos (by omega)]; rfl
   ·rw [if_neg he, ← List.getD_eq_getElem?_getD]; exact h2 i (by omega)
end Go.Proofs.Ytihedeofkhapiaa.Pr
end
section
namespace Go.Proofs.Ytihedeofkhapiaa.Pr
open Go.RowKit Go.Shelf Go.Proofs.YtihedeofkhapiaaW.PrintWords Go.Proofs.YtihedeofkhapiaaW.PrintLast Go.Proofs.YtihedeofkhapiaaW.PrintMore
attribute [local go_sem] Oper.semAt_some
def jf (l0 : List S66) (a1 a2 : Int) (l4 : List (List S27)) (pre : List (Fin l0.length)) : Int := pre.foldl (fun b x => mn b (lL l0 a1 a2 l4 x.1)) fV
theorem Bw {l0 : List S66} {a1 a2 : Int} {l4 : List (List S27)} (pre : List (Fin l0.length)) (x : Fin l0.length) : jf l0 a1 a2 l4 (pre ++ [x]) = mn (jf l0 a1 a2 l4 pre) (lL l0 a1 a2 l4 x.1) := by
 simp [jf, List.foldl_append]
def CY (l0 : List S66) (a1 a2 a3 : Int) (l4 : List (List S27)) : Int × Int :=
 if jl l0 a1 a2 a3 l4 = 0 then (if jf l0 a1 a2 l4 (List.finRange l0.length) ≥ 1048576 then (0, 9) else (jf l0 a1 a2 l4 (List.finRange l0.length), 0)) else (0, jl l0 a1 a2 a3 l4)
def iB.f (aG : List (S66)) (aH : Int) (aW : Int) (bg : Int) (aA : List (List (S27))) : Option (Int × Int) := some (CY aG aH aW bg aA)
set_option maxRecDepth 100000 in
set_option maxHeartbeats 4000000 in
theorem iB.calls (df : Option Addr) (bW : Nat) (aG : List (S66)) (aH : Int) (aW : Int) (bg : Int) (cZ : Option Addr) (bY : Nat) (aA : List (List (S27))) (r1 : Int) (r2 : Int) (w : World) (jB : Kd.C k66 w df aG.length aG) (kD : aG.length ≤ bW) (jC : Kd.C (Kd.slice 27 k27) w cZ aA.length aA) (kF : aA.length ≤ bY) (h : iB.f aG aH aW bg aA = some (r1, r2)) :
 Calls Try.prog 21 #[.agg #[.slice df aG.length bW, .int .i64 aH, .int .i64 aW, .int .i64 bg, .slice cZ aA.length bY]] w fun e w' => e = .returned (.tuple #[.int .i64 r1, .int .i64 r2]) ∧ Below w.heap.size w w' := by
 have h' := Option.some.inj h; clear h; obtain ⟨ch, hch⟩ : ∃ ch, ch = jl aG aH aW bg aA := ⟨_, rfl⟩; rw [CY, ← hch] at h'; have HC := vo df bW aG aH aW bg cZ bY aA (w.alloc (.cells #[.slice df aG.length bW, .int .i64 aH, .int .i64 aW, .int .i64 bg, .slice cZ aA.length bY] 25)) (Kd.cu jB (ah (Below.refl _ _) _)) kD (Kd.cu jC (ah (Below.refl _ _) _)) kF; rw [← hch] at HC; refine callsIn_wide (n := 10).1 ?_; refine callsIn_of_wp_marks Try.func21 rfl trivial ?_ rfl; simp only [Try.ntmps21, List.size_toArray, List.length_cons, List.length_nil, Nat.reduceAdd, Nat.reduceSub, Array.replicate_succ, Array.replicate_zero, List.push_toArray, List.append_toArray, List.nil_append, List.cons_append]
 gi_wp2_with (fail)
 refine ⟨trivial, ?_⟩; refine (callsIn_wide.2 HC).mono ?_; rintro e w1 ⟨rfl, hb⟩; have HW1 := aa.mk (eY (ah (Below.refl _ _) _) (by simp) hb); have hBx := (hb.block _ (bf (heap_alloc_new w (.cells #[.slice df aG.length bW, .int .i64 aH, .int .i64 aW, .int .i64 bg, .slice cZ aA.length bY] 25)))).trans (heap_alloc_new w _); have HBX := aa.mk hBx; have HR0 := aa.mk jB; have HR4 := aa.mk jC; clear hBx hb HC jB jC; by_cases h0 : ch = 0
 ·rw [if_pos h0] at h'; have hv := oN (hch.symm.trans h0); have HV := aa.mk hv; have HS := aa.mk (oL hv.2.2.2.2.1); subst h0; have HH := aa.mk h'; clear h' hv hch; have hz0 : w1.cell? ⟨w.heap.size, 0, none⟩ = some (.slice df aG.length bW) := (av HBX.out 0).trans rfl; have hz1 : w1.cell? ⟨w.heap.size, 1, none⟩ = some (.int .i64 aH) := (av HBX.out 1).trans rfl; have hz2 : w1.cell? ⟨w.heap.size, 2, none⟩ = some (.int .i64 aW) := (av HBX.out 2).trans rfl; have hz3 : w1.cell? ⟨w.heap.size, 3, none⟩ = some (.int .i64 bg) := (av HBX.out 3).trans rfl; have hz4 : w1.cell? ⟨w.heap.size, 4, none⟩ = some (.slice cZ aA.length bY) := (av HBX.out 4).trans rfl; have hlt1 : w.heap.size < w1.heap.size := bf HBX.out
  gi_wp2_with (fail)
  refine ⟨trivial, ?_⟩; refine (wS _ _ _ _ _ _ _ _ _ _ _).mono ?_; rintro e w2 ⟨rfl, rfl⟩
  gi_wp2_with (fail)
  obtain ⟨bo, hbo⟩ : ∃ bo, bo = w1.heap.size := ⟨_, rfl⟩; have bO := (Boxed.new w1 3 (.int .i64 1048576)).alloc (.cells #[.slice df aG.length bW, .int .i64 aH, .int .i64 aW, .int .i64 bg, .slice cZ aA.length bY] 25)
  have bL : ((w1.alloc (.cells #[.int .i64 1048576] 3)).alloc (.cells #[.slice df aG.length bW, .int .i64 aH, .int .i64 aW, .int .i64 bg, .slice cZ aA.length bY] 25)).heap[w1.heap.size + 1]? = some (.cells #[.slice df aG.length bW, .int .i64 aH, .int .i64 aW, .int .i64 bg, .slice cZ aA.length bY] 25 (0, 0)) := by
   have := heap_alloc_new (w1.alloc (.cells #[.int .i64 1048576] 3)) (.cells #[.slice df aG.length bW, .int .i64 aH, .int .i64 aW, .int .i64 bg, .slice cZ aA.length bY] 25)
   rwa [World.size_alloc] at this
  have bX : ((w1.alloc (.cells #[.int .i64 1048576] 3)).alloc (.cells #[.slice df aG.length bW, .int .i64 aH, .int .i64 aW, .int .i64 bg, .slice cZ aA.length bY] 25)).heap[w.heap.size]? = some (.cells #[.slice df aG.length bW, .int .i64 aH, .int .i64 aW, .int .i64 bg, .slice cZ aA.length bY] 25 (0, 0)) := bu (bu HBX.out _) _; (have hsz : ((w1.alloc (.cells #[.int .i64 1048576] 3)).alloc (.cells #[.slice df aG.length bW, .int .i64 aH, .int .i64 aW, .int .i64 bg, .slice cZ aA.length bY] 25)).heap.size = bo + 2 := by simp [hbo]); have hB0 : Below w.heap.size w ((w1.alloc (.cells #[.int .i64 1048576] 3)).alloc (.cells #[.slice df aG.length bW, .int .i64 aH, .int .i64 aW, .int .i64 bg, .slice cZ aA.length bY] 25)) := ah (ah HW1.out _) _; (have hwb : w.heap.size < bo := by rw [hbo]; exact hlt1); rw [← hbo] at bL bO ⊢; obtain ⟨W0, hW0⟩ : ∃ W0, W0 = ((w1.alloc (.cells #[.int .i64 1048576] 3)).alloc (.cells #[.slice df aG.length bW, .int .i64 aH, .int .i64 aW, .int .i64 bg, .slice cZ aA.length bY] 25)) := ⟨_, rfl⟩; rw [← hW0] at bO bL bX hsz hB0 ⊢; clear hW0 hz0 hz1 hz2 hz3 hz4 hlt1 HBX hbo HW1
  refine wpIn_rangeFunc_ownH rfl (by omega) (gf := 73) (lb := #[.pointer (some ⟨bo + 1, 0, none⟩)]) rfl trivial (enters_of Try.func73 (by kernel_rfl) rfl)
   (pK 9 (by omega) (bo + 1) w.heap.size df bW aG aH aW bg cZ bY aA HV.out.2.2.2.1 HS.out w W0 (Nat.le_refl _) HR0.out HR4.out hB0 (by omega) bL) I8 (Je (by omega)) (Below.refl _ _) (fun _ => rfl)
   (fun pre W => (Boxed W bo 3 (.int .i64 (jf aG aH aW aA pre)) ∧ W.heap[bo + 1]? = some (.cells #[.slice df aG.length bW, .int .i64 aH, .int .i64 aW, .int .i64 bg, .slice cZ aA.length bY] 25 (0, 0)) ∧ W.heap[w.heap.size]? = some (.cells #[.slice df aG.length bW, .int .i64 aH, .int .i64 aW, .int .i64 bg, .slice cZ aA.length bY] 25 (0, 0))) ∧ Below w.heap.size w W)
   (fun _ _ _ => False)
   (OwnFrom.and (OwnFrom.and (Own.from (boxed_own bo 3 (fun pre => .int .i64 (jf aG aH aW aA pre))) _) (OwnFrom.and (Own.from (oK _ _ _) _) (Own.from (oK _ _ _) _))) (ownFrom_below (Nat.le_refl _) (by omega)))
   (fun _ _ _ _ _ hs _ _ => hs)
   ⟨⟨bO, bL, bX⟩, hB0⟩
   (fun x a' W => ∃ Bx, bo + 1 < Bx ∧ kC W Bx (bP aH aW aG aA x.1) ∧ a' = { tmps := #[.agg #[.slice df aG.length bW, .int .i64 aH, .int .i64 aW, .int .i64 bg, .slice cZ aA.length bY], .pointer (some ⟨w.heap.size, 0, none⟩), .int .i64 0, .int .i64 0, .int .i64 0, .pointer (some ⟨bo, 0, none⟩), .int .i64 (x.1 : Int), .pointer (some ⟨Bx, 0, none⟩), undef, undef, .agg #[.slice df aG.length bW, .int .i64 aH, .int .i64 aW, .int .i64 bg, .slice cZ aA.length bY], .int .i64 0, .int .i64 0, .bool false, undef, .agg #[.slice df aG.length bW, .int .i64 aH, .int .i64 aW, .int .i64 bg, .slice cZ aA.length bY], .func (.func 73) #[] #[.pointer (some ⟨bo + 1, 0, none⟩)], .int .i64 (x.1 : Int), .agg (nums .i64 (bP aH aW aG aA x.1)).toArray, undef, undef, undef, undef, undef, undef, undef, undef, undef, undef, undef, undef, undef, undef, undef], defers := [] })
   (fun x a' _ X Y row hs hg hr => by obtain ⟨Bx, h1, h2, h3⟩ := hs; exact ⟨Bx, h1, ⟨h2.1, oK (β := Unit) Bx _ 97 () X Y row h2.2 hg (fun r e => (hr r e).2)⟩, h3⟩)
   ?assign ?body ?done ?stop
  case assign =>
   rintro l pre x W K ⟨⟨hv, hL, hX⟩, hB⟩ hK; dsimp only [Fy]; have hlen := fD aH aW aA (aX aG (x.1 : Int)).f1 aA.length; (have hin : (Try.prog.info? 97).map (·.size) = some 64 := by kernel_rfl); have H64 := aa.mk (show (nums .i64 (bP aH aW aG aA x.1)).toArray.size = 64 by simp [nums, bP, hlen]); have HIN := aa.mk hin; have HA := aa.mk (ow (bP aH aW aG aA x.1)); clear hlen hin; have hK2 := aa.mk hK; clear hK
   gi_wp2_with (refine eZ rfl 97 (.tmp 7) (.tmp 18) rfl W.heap.size _ rfl rfl 97 _ (heap_alloc_new W _) (by rw [H64.out]; exact HIN.out) (by rw [H64.out]; rfl) HA.out ?_)
   rw [jm]; refine hK2.out _ _ ((KeepsOthers.alloc _ _).from _) ⟨(Below.refl _ W).alloc hB.size _, fun o ho hc => bu ho _⟩ ⟨⟨hv.alloc _, bu hL _, bu hX _⟩, ah hB _⟩ ⟨W.heap.size, bf hL, ⟨fD _ _ _ _ _, heap_alloc_new W _⟩, rfl⟩
  case body =>
   rintro l pre x a' W hl ⟨r, hr⟩ ⟨⟨hv, hL, hX⟩, hB⟩ ⟨Bx, hBx, bN, rfl⟩ hlt; (have hin : (Try.prog.info? 97).map (·.size) = some 64 := by kernel_rfl); (have hin5 : (Try.prog.info? 95).map (·.size) = some 8 := by kernel_rfl); have H64 := aa.mk (show (nums .i64 (bP aH aW aG aA x.1)).toArray.size = 64 by simp [nums, bN.1]); have HIN := aa.mk hin; have HIN5 := aa.mk hin5; have HV' := aa.mk hv; have HL := aa.mk hL; have HX := aa.mk hX; have HB := aa.mk hB; have HN := aa.mk bN; clear hin hin5 hv hL hB bN; have hz0 : W.cell? ⟨w.heap.size, 0, none⟩ = some (.slice df aG.length bW) := (av hX 0).trans rfl; have hz1 : W.cell? ⟨w.heap.size, 1, none⟩ = some (.int .i64 aH) := (av hX 1).trans rfl; have hz2 : W.cell? ⟨w.heap.size, 2, none⟩ = some (.int .i64 aW) := (av hX 2).trans rfl; have hz3 : W.cell? ⟨w.heap.size, 3, none⟩ = some (.int .i64 bg) := (av hX 3).trans rfl; have hz4 : W.cell? ⟨w.heap.size, 4, none⟩ = some (.slice cZ aA.length bY) := (av hX 4).trans rfl; clear hX
   gi_wp2_with (refine kM rfl 97 (.tmp 7) rfl Bx rfl 97 _ (0, 0) _ HN.out.2 Try.underlying97 rfl (by rw [H64.out]; exact HIN.out) ?_)
   refine ⟨trivial, (CallsIn.inRound l (callsIn_wide.2 (sums.calls (-1) 0 df bW aG aH aW bg cZ aA.length bY x.1 (bP aH aW aG aA x.1) W (Kd.cu HR0.out HB.out) x.2 HN.out.1 HV.out.2.2.2.1 (HS.out x.1 x.2)))).mono ?_⟩; rintro e w2 ⟨rfl, hb⟩; obtain ⟨es, hes⟩ : ∃ es, es = (dZ (-1) 0 (bP aH aW aG aA x.1) (aX aG (x.1 : Int)).f1 aA.length).1 := ⟨_, rfl⟩; obtain ⟨tot, htot⟩ : ∃ tot, tot = (dZ (-1) 0 (bP aH aW aG aA x.1) (aX aG (x.1 : Int)).f1 aA.length).2 := ⟨_, rfl⟩; rw [← hes, ← htot]; (have hel : es.length = 8 := by rw [hes]; exact gT _ _ _ _ _); have HE := aa.mk (show (nums .i64 es).toArray.size = 8 by simp [nums, hel]); have HA := aa.mk (ow es); have HT := aa.mk (show tot = lL aG aH aW aA x.1 from htot); have hbw : Below W.heap.size W w2 := hb; have HBW := aa.mk hbw; have HX2 := aa.mk ((hb.block _ (bf HX.out)).trans HX.out); have hz3 : w2.cell? ⟨w.heap.size, 3, none⟩ = some (.int .i64 bg) := (av HX2.out 3).trans rfl; have hlt3 : w.heap.size < w2.heap.size := bf HX2.out; clear hes htot hel hb hbw hz0 hz1 hz2 hz4; have HK2 := HV'.out.kept (gp HBW.out none) (by simp); have hv2 := HK2.alloc (.cells (nums .i64 es).toArray 95); (have hsz2 : (w2.alloc (.cells (nums .i64 es).toArray 95)).heap.size = w2.heap.size + 1 := by simp); have hBW2 : Below W.heap.size W (w2.alloc (.cells (nums .i64 es).toArray 95)) := ah HBW.out _; have hKO2 : KeepsOthers W (w2.alloc (.cells (nums .i64 es).toArray 95)) := iF hBW2; have HB2 := aa.mk (eY HB.out HB.out.size hBW2); have HL2 := aa.mk ((hBW2.block _ (bf HL.out)).trans HL.out); have HX3 := aa.mk ((hBW2.block _ (bf HX.out)).trans HX.out); have HBW2 := aa.mk hBW2; have HKO2 := aa.mk hKO2; have hcO := HK2.cell; have hltO : bo < w2.heap.size := HK2.lt; have HKO := aa.mk HK2; clear hKO2 hBW2 HK2 hv2
   gi_wp2_with (refine eZ rfl 95 (.tmp 8) (.tmp 25) rfl w2.heap.size _ rfl rfl 95 _ (heap_alloc_new w2 _) (by rw [HE.out]; exact HIN5.out) (by rw [HE.out]; rfl) HA.out ?_; rw [jm])
   refine ⟨trivial, (CallsIn.inRound l (callsIn_wide.2 (uO (jf aG aH aW aA pre) tot (w2.heap.size + 1) _ ?_))).mono ?_⟩
   ·have h := World.cell?_alloc_at (w := w2.alloc (.cells (nums .i64 es).toArray 95)) #[.int .i64 tot] 3 (w2.heap.size + 1) 0 (by simp); exact h.trans rfl
   rintro e w3 ⟨rfl, hb3⟩; have hb3' : Below (w2.alloc (.cells (nums .i64 es).toArray 95)).heap.size (w2.alloc (.cells (nums .i64 es).toArray 95)) w3 := eY (ah (Below.refl _ _) _) (by simp) hb3; have hv3 : Boxed w3 bo 3 (.int .i64 (jf aG aH aW aA pre)) := (HKO.out.alloc (.cells (nums .i64 es).toArray 95)).kept (gp hb3' none) (by simp); have hBW3 := eY HBW2.out HBW2.out.size hb3'; have HB3 := aa.mk (eY HB.out HB.out.size hBW3); have HL3 := aa.mk ((hBW3.block _ (bf HL.out)).trans HL.out); have HX4 := aa.mk ((hBW3.block _ (bf HX.out)).trans HX.out); have HBW3 := aa.mk hBW3; have HV3 := aa.mk hv3; have hc3 := hv3.cell; have hf3 := hv3.frozen; clear hb3 hb3' hBW3 hv3 hcO hltO
   gi_wp2_with (fail)
   refine ⟨((iF HBW3.out).trans (KeepsOthers.setCell _ _ _)).from _, ⟨(HBW3.out.mono HB.out.size).setCell (p := ⟨bo, 0, none⟩) (by simp; omega) _, fun o ho hc => ?_⟩, ⟨?_, aM HL3.out (by simp) _, aM HX4.out (by simp; omega) _⟩, HB3.out.setCell (p := ⟨bo, 0, none⟩) (by simp; omega) _⟩
   ·rw [HL.out] at ho; cases ho; exact aM HL3.out (by simp) _
   ·rw [Bw, ← HT.out]; exact HV3.out.set _
  case done =>
   rintro D ys W hD rfl ⟨⟨hv, hL, hX⟩, hB⟩ hK; have hc := hv.cell; have HB := aa.mk hB; obtain ⟨bs, hbs⟩ : ∃ bs, bs = jf aG aH aW aA (List.finRange aG.length) := ⟨_, rfl⟩; rw [← hbs] at hc; have HH' := HH; rw [← hbs] at HH'; have HKD := aa.mk hK; clear hbs hX hL hB HH hK hv; have hh := HH'.out; by_cases h0 : bs ≥ 1048576
   ·rw [if_pos h0] at hh; simp only [Prod.mk.injEq] at hh; obtain ⟨rfl, rfl⟩ := hh; have hz : decide (1048576 ≤ bs) = true := decide_eq_true h0; clear h0 HH'
    gi_wp2_with (fail)
    refine ⟨by simp, .inl ⟨_, _, rfl, run_takeDeferred HKD.out, ?_⟩⟩; exact ⟨_, results_tmp2 rfl _ _ _, rfl, HB.out.trans (belowK_b (w := w) (Nat.le_refl _) W D _ _ (by omega) HKD.out rfl rfl)⟩
   ·rw [if_neg h0] at hh; simp only [Prod.mk.injEq] at hh; obtain ⟨rfl, rfl⟩ := hh; have hz : decide (1048576 ≤ bs) = false := decide_eq_false h0; clear h0 HH'
    gi_wp2_with (fail)
    refine ⟨by simp, .inl ⟨_, _, rfl, run_takeDeferred HKD.out, ?_⟩⟩; exact ⟨_, results_tmp2 rfl _ _ _, rfl, HB.out.trans (belowK_b (w := w) (Nat.le_refl _) W D _ _ (by omega) HKD.out rfl rfl)⟩
  case stop =>
   rintro D c pre W _ _ h _; exact h.elim
 ·rw [if_neg h0] at h'; simp only [Prod.mk.injEq] at h'; obtain ⟨rfl, rfl⟩ := h'; (have hd : (ch == 0) = false := by simp [h0]); (have hd2 : (ch != 0) = true := by simp [h0]); clear h0 hch
  gi_wp2_with (fail)
  exact ⟨_, results_tmp2 rfl _ _ _, rfl, HW1.out⟩
end Go.Proofs.Ytihedeofkhapiaa.Pr
end
section
namespace Go.Proofs.Ytihedeofkhapiaa.Pr
open Go.RowKit Go.Proofs.YtihedeofkhapiaaW.PrintWords Go.Proofs.YtihedeofkhapiaaW.PrintLast Go.Proofs.YtihedeofkhapiaaW.PrintMore
attribute [local go_sem] kW kK mg lY lm lg mH mW
def lK.f (aG : List (S66)) (aH : Int) (aW : Int) (bg : Int) (aA : List (List (S27))) : Option (List Int × Int) := (dJ.f aG aH aW bg aA).bind fun Bi => (some (Bi.1, Bi.2))
set_option maxHeartbeats 8000000 in
set_option maxRecDepth 100000 in
theorem lK.calls (df : Option Addr) (bW : Nat) (aG : List (S66)) (aH : Int) (aW : Int) (bg : Int) (cZ : Option Addr) (bY : Nat) (aA : List (List (S27))) (r1 : List Int) (r2 : Int) (w : World) (jB : Kd.C k66 w df aG.length aG) (kD : aG.length ≤ bW) (jC : Kd.C (Kd.slice 27 k27) w cZ aA.length aA) (kF : aA.length ≤ bY) (h : lK.f aG aH aW bg aA = some (r1, r2)) :
 Calls Try.prog 27 #[.agg #[.slice df aG.length bW, .int .i64 aH, .int .i64 aW, .int .i64 bg, .slice cZ aA.length bY]] w fun e w' => ∃ v0_ : Value, e = .returned (.tuple #[v0_, .int .i64 r2]) ∧ Kd.R (Kd.int .i64) 3 w' w.heap.size (fun _ => True) v0_ r1 ∧ Below w.heap.size w w' := by
 have hu25 := Try.underlying25; have pg := aa.mk jB; have qV := aa.mk kD; clear jB kD; have kv := aa.mk jC; have qW := aa.mk kF; clear jC kF; have HB := aa.mk (Below.refl w.heap.size w); have H : ((dJ.f aG aH aW bg aA).bind fun Bi => (some (Bi.1, Bi.2))) = some (r1, r2) := h; clear h; replace H := Option.bind_eq_some_iff.mp H; obtain ⟨⟨Wi, VJ⟩, A20, H⟩ := H; dsimp only at H; have A2 := aa.mk A20; clear A20; simp only [Option.some.injEq, Prod.mk.injEq] at H; obtain ⟨rfl, rfl⟩ := H; go_enter Try.func27, Try.ntmps27; go_wp2_with (first | ((with_reducible refine bS (N := 1) rfl ?_); refine bV ?hg (N := 1) ?hd (cs := #[.slice df aG.length bW, .int .i64 aH, .int .i64 aW, .int .i64 bg, .slice cZ aA.length bY]) (t := 25) ?hr ?_; (case hd => rfl); (case hg => rfl); (case hr => (go_simp; done)); intro Np hg w3 hbox hb; have F6 := aa.mk (hbox); have Xt := aa.mk ((by rw [hg]; exact (ay (by exact HB.out)) : w.heap.size ≤ Np)); have Yw := aa.mk ((by rw [hg]; exact (ay (by exact HB.out)) : w.heap.size ≤ Np)); replace HB := aa.mk (az (by exact HB.out) hb); clear hb hbox hg; obtain ⟨Oy, PP, Pf, OI, Ql, NB, Nz, NJ, NW, Pp⟩ := cells5 F6.out) | ((with_reducible refine bC (f := 58) rfl ?_); refine ed (some 5) rfl rfl Try.func58 (by kernel_rfl) rfl #[.agg #[.slice df aG.length bW, .int .i64 aH, .int .i64 aW, .int .i64 bg, .slice cZ aA.length bY]] rfl (by (simp only [List.map_toArray, List.map_cons, List.map_nil]); rfl) ?_; (with_reducible refine (dJ.calls _ _ aG aH aW bg _ _ aA Wi VJ _ ?side1 ?side2 ?side3 ?side4 A2.out).mono ?_); (case side1 => repeat (exact (Kd.cu pg.out HB.out))); (case side2 => exact qV.out); (case side3 => repeat (exact (Kd.cu kv.out HB.out))); (case side4 => exact qW.out); rintro e w5 ⟨YS, rfl, ho0, hb⟩; refine ⟨_, rfl, ?_⟩; have RU := aa.mk (Kd.eU ho0 (ay (by exact HB.out))); replace F6 := aa.mk (ak (bU F6.out) hb); replace HB := aa.mk (az (by exact HB.out) hb); clear hb; (clear ho0)))
 go_ret2
 exact ⟨_, by rfl, by (with_reducible skip); exact RU.out, by exact HB.out⟩
end Go.Proofs.Ytihedeofkhapiaa.Pr
end
