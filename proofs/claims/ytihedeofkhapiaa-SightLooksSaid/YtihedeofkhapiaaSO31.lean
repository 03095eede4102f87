/- Part 31 of 36 of the proof of: SightLooks: for every line and slice of numbers, the law returns true: the program tells which letter would be best to be known, and how many letters may still fit then, as the reference does, with the same error, and changes nothing; no condition beyond the statement's own. -/
import Derived.RangeFuncBox
import Derived.Maps.AppendAt
import Derived.Test.YtihedeofkhapiaaSO5
import Derived.Test.YtihedeofkhapiaaSO21
import Derived.Test.YtihedeofkhapiaaSO30
set_option linter.unusedVariables false
set_option linter.unusedSimpArgs false
section
namespace Go.Proofs.Ytihedeofkhapiaa.Pr
open Go.RowKit Go.Shelf Go.Proofs.YtihedeofkhapiaaW.PrintWords Go.Proofs.YtihedeofkhapiaaW.PrintLast Go.Proofs.YtihedeofkhapiaaW.PrintMore
attribute [local go_sem] Oper.semAt_some
def kK (l0 : List S66) (a1 a2 : Int) (l4 : List (List S27)) (x : Nat) : Int := (eQ (-1) 0 (dH a1 a2 l0 l4 x) (ah l0 (x : Int)).f1 l4.length).2
def mM (l0 : List S66) (a1 a2 a3 : Int) (l4 : List (List S27)) (pre : List (Fin l0.length)) : List Int := (pre.filter fun x => decide (kK l0 a1 a2 l4 x.1 ≤ a3)).map fun x => (x.1 : Int)
theorem Ns {l0 : List S66} {a1 a2 a3 : Int} {l4 : List (List S27)} (pre : List (Fin l0.length)) {x : Fin l0.length} (h : kK l0 a1 a2 l4 x.1 ≤ a3) : mM l0 a1 a2 a3 l4 (pre ++ [x]) = mM l0 a1 a2 a3 l4 pre ++ [(x.1 : Int)] := by
 simp [mM, List.filter_append, h]
theorem KF {l0 : List S66} {a1 a2 a3 : Int} {l4 : List (List S27)} (pre : List (Fin l0.length)) {x : Fin l0.length} (h : ¬ kK l0 a1 a2 l4 x.1 ≤ a3) : mM l0 a1 a2 a3 l4 (pre ++ [x]) = mM l0 a1 a2 a3 l4 pre := by
 simp [mM, List.filter_append, h]
theorem yz {l0 : List S66} {a1 a2 a3 : Int} {l4 : List (List S27)} (pre : List (Fin l0.length)) : (mM l0 a1 a2 a3 l4 pre).length ≤ pre.length := by
 simp only [mM, List.length_map]; exact List.length_filter_le _ _
def tO (l0 : List S66) (a1 a2 a3 : Int) (l4 : List (List S27)) : List Int × Int :=
 if eH l0 a1 a2 a3 l4 = 0 then (if mM l0 a1 a2 a3 l4 (List.finRange l0.length) = [] then ([], 9) else (mM l0 a1 a2 a3 l4 (List.finRange l0.length), 0)) else ([], eH l0 a1 a2 a3 l4)
def fA.f (aU : List (S66)) (aX : Int) (bJ : Int) (bT : Int) (aV : List (List (S27))) : Option (List Int × Int) := some (tO aU aX bJ bT aV)
theorem ui (m : List Int) : ((nums .i64 m).toArray.all (·.oneCell')) = true := by
 rw [Array.all_eq_true_iff_forall_mem]; intro v hv; simp only [nums, List.mem_toArray, List.mem_map] at hv; obtain ⟨x, _, rfl⟩ := hv; rfl
theorem lQ (W : World) (cs cs' : Array Value) (t : TypeId) : (W.alloc (.cells cs t (0, 0))).setRow W.heap.size cs' = W.alloc (.cells cs' t (0, 0)) := by
 have h : (W.heap.push (.cells cs t (0, 0))).modify W.heap.size (fun | .cells _ elem frozen => .cells cs' elem frozen | o => o) = W.heap.push (.cells cs' t (0, 0)) := by
  apply Array.ext_getElem?; intro i; rw [Array.getElem?_modify]; by_cases hi : W.heap.size = i
  ·subst hi; rw [if_pos rfl, Array.getElem?_push_size, Array.getElem?_push_size]; rfl
  ·rw [if_neg hi, Array.getElem?_push, Array.getElem?_push, if_neg (fun e => hi e.symm), if_neg (fun e => hi e.symm)]
 unfold World.setRow World.alloc; dsimp only; congr 1
theorem kI {W W' : World} (h : Below W.heap.size W W') : KeepsOthers W W' := ⟨h.size, fun k o hk _ => (h.block k (bW hk)).trans hk⟩
theorem Ab {W : World} {g : Nat} {cs : Array Value} {t : TypeId} {base e size n : Nat} {v : Value} {xs : List Value} (h : W.heap[g]? = some (.cells cs t (0, 0))) (hr : W.ownsRow base e size v n xs) (hte : t ≠ e) : some g ≠ v.ownBlock := by
 intro hk; obtain ⟨cells, hc⟩ := uh hr g hk.symm; rw [h] at hc; injection hc with hc; injection hc with _ hc; exact hte hc
theorem Io {α : Type} {d : Kd α} {e : Nat} {W : World} {base : Nat} {ok : Nat → Prop} {v : Value} {xs : List α} (h : Kd.R d e W base ok v xs) {l : Nat} {o o' : Obj} (hl : W.heap[l]? = some o) (ho : o.isCells = false) : Kd.R d e (W.putObj l o') base ok v xs :=
 Kd.cO (Kd.GL (Kd.ku h) (grownBy_putObj' W l o') (fun k hk e => by
  obtain ⟨_, _, _, q, _, cells, hc⟩ := hk; cases e; rw [hl] at hc; cases hc
  cases ho)) (fun _ hk => hk.1)
theorem uN {β : Type} (g : Nat) (cs : Array Value) (t : TypeId) : Own (fun (_ : β) W => W.heap[g]? = some (.cells cs t (0, 0))) := fun s X Y row hs hg hr =>
 (hg.block g (bW hs) (fun e => by obtain ⟨o, ho, hc⟩ := hr g e.symm; rw [hs] at ho; cases ho; cases hc)).trans hs
set_option maxRecDepth 100000 in
set_option maxHeartbeats 4000000 in
theorem fA.calls (eB : Option Addr) (dQ : Nat) (aU : List (S66)) (aX : Int) (bJ : Int) (bT : Int) (dZ : Option Addr) (dP : Nat) (aV : List (List (S27))) (r1 : List Int) (r2 : Int) (w : World) (mG : Kd.C k66 w eB aU.length aU) (oG : aU.length ≤ dQ) (mH : Kd.C (Kd.slice 27 k27) w dZ aV.length aV) (oC : aV.length ≤ dP) (h : fA.f aU aX bJ bT aV = some (r1, r2)) :
 Calls Try.prog 58 #[.agg #[.slice eB aU.length dQ, .int .i64 aX, .int .i64 bJ, .int .i64 bT, .slice dZ aV.length dP]] w fun e w' => ∃ v0_ : Value, e = .returned (.tuple #[v0_, .int .i64 r2]) ∧ Kd.R (Kd.int .i64) 3 w' w.heap.size (fun _ => True) v0_ r1 ∧ Below w.heap.size w w' := by
 have h' := Option.some.inj h; clear h; obtain ⟨ch, hch⟩ : ∃ ch, ch = eH aU aX bJ bT aV := ⟨_, rfl⟩; rw [tO, ← hch] at h'; have HC := zT eB dQ aU aX bJ bT dZ dP aV (w.alloc (.cells #[.slice eB aU.length dQ, .int .i64 aX, .int .i64 bJ, .int .i64 bT, .slice dZ aV.length dP] 25)) (Kd.aY mG (aH (Below.refl _ _) _)) oG (Kd.aY mH (aH (Below.refl _ _) _)) oC; rw [← hch] at HC; refine callsIn_wide (n := 10).1 ?_; refine callsIn_of_wp_marks Try.func58 rfl trivial ?_ rfl; simp only [Try.ntmps58, List.size_toArray, List.length_cons, List.length_nil, Nat.reduceAdd, Nat.reduceSub, Array.replicate_succ, Array.replicate_zero, List.push_toArray, List.append_toArray, List.nil_append, List.cons_append]
 gi_wp2_with (fail)
 refine ⟨trivial, ?_⟩; refine (callsIn_wide.2 HC).mono ?_; rintro e w1 ⟨rfl, hb⟩; have HW1 := aa.mk (gZ (aH (Below.refl _ _) _) (by simp) hb); have hBx := (hb.block _ (bW (heap_alloc_new w (.cells #[.slice eB aU.length dQ, .int .i64 aX, .int .i64 bJ, .int .i64 bT, .slice dZ aV.length dP] 25)))).trans (heap_alloc_new w _); have HBX := aa.mk hBx; have HR0 := aa.mk mG; have HR4 := aa.mk mH; clear hBx hb HC mG mH; by_cases h0 : ch = 0
 ·rw [if_pos h0] at h'; have hv := kE (hch.symm.trans h0); have HV := aa.mk hv; have HS := aa.mk (uL hv.2.2.2.2.1); subst h0; have HH := aa.mk h'; clear h' hv hch; have hz0 : w1.cell? ⟨w.heap.size, 0, none⟩ = some (.slice eB aU.length dQ) := (af HBX.out 0).trans rfl; have hz1 : w1.cell? ⟨w.heap.size, 1, none⟩ = some (.int .i64 aX) := (af HBX.out 1).trans rfl; have hz2 : w1.cell? ⟨w.heap.size, 2, none⟩ = some (.int .i64 bJ) := (af HBX.out 2).trans rfl; have hz3 : w1.cell? ⟨w.heap.size, 3, none⟩ = some (.int .i64 bT) := (af HBX.out 3).trans rfl; have hz4 : w1.cell? ⟨w.heap.size, 4, none⟩ = some (.slice dZ aV.length dP) := (af HBX.out 4).trans rfl; have hlt1 : w.heap.size < w1.heap.size := bW HBX.out
  gi_wp2_with (fail)
  refine ⟨trivial, ?_⟩; refine (DI _ _ _ _ _ _ _ _ _ _ _).mono ?_; rintro e w2 ⟨rfl, rfl⟩
  gi_wp2_with (fail)
  obtain ⟨bo, hbo⟩ : ∃ bo, bo = w1.heap.size := ⟨_, rfl⟩; have bO := (Boxed.new w1 28 (.slice none 0 0)).alloc (.cells #[.slice eB aU.length dQ, .int .i64 aX, .int .i64 bJ, .int .i64 bT, .slice dZ aV.length dP] 25)
  have bL : ((w1.alloc (.cells #[.slice none 0 0] 28)).alloc (.cells #[.slice eB aU.length dQ, .int .i64 aX, .int .i64 bJ, .int .i64 bT, .slice dZ aV.length dP] 25)).heap[w1.heap.size + 1]? = some (.cells #[.slice eB aU.length dQ, .int .i64 aX, .int .i64 bJ, .int .i64 bT, .slice dZ aV.length dP] 25 (0, 0)) := by
   have := heap_alloc_new (w1.alloc (.cells #[.slice none 0 0] 28)) (.cells #[.slice eB aU.length dQ, .int .i64 aX, .int .i64 bJ, .int .i64 bT, .slice dZ aV.length dP] 25)
   rwa [World.size_alloc] at this
  have bX : ((w1.alloc (.cells #[.slice none 0 0] 28)).alloc (.cells #[.slice eB aU.length dQ, .int .i64 aX, .int .i64 bJ, .int .i64 bT, .slice dZ aV.length dP] 25)).heap[w.heap.size]? = some (.cells #[.slice eB aU.length dQ, .int .i64 aX, .int .i64 bJ, .int .i64 bT, .slice dZ aV.length dP] 25 (0, 0)) := cz (cz HBX.out _) _; (have hsz : ((w1.alloc (.cells #[.slice none 0 0] 28)).alloc (.cells #[.slice eB aU.length dQ, .int .i64 aX, .int .i64 bJ, .int .i64 bT, .slice dZ aV.length dP] 25)).heap.size = bo + 2 := by simp [hbo]); have hB0 : Below w.heap.size w ((w1.alloc (.cells #[.slice none 0 0] 28)).alloc (.cells #[.slice eB aU.length dQ, .int .i64 aX, .int .i64 bJ, .int .i64 bT, .slice dZ aV.length dP] 25)) := aH (aH HW1.out _) _; (have hwb : w.heap.size < bo := by rw [hbo]; exact hlt1); rw [← hbo] at bL bO ⊢; obtain ⟨W0, hW0⟩ : ∃ W0, W0 = ((w1.alloc (.cells #[.slice none 0 0] 28)).alloc (.cells #[.slice eB aU.length dQ, .int .i64 aX, .int .i64 bJ, .int .i64 bT, .slice dZ aV.length dP] 25)) := ⟨_, rfl⟩; rw [← hW0] at bO bL bX hsz hB0 ⊢; clear hW0 hz0 hz1 hz2 hz3 hz4 hlt1 HBX hbo HW1
  refine wpIn_rangeFunc_ownH rfl (by omega) (gf := 73) (lb := #[.pointer (some ⟨bo + 1, 0, none⟩)]) rfl trivial (enters_of Try.func73 (by kernel_rfl) rfl)
   (vV 9 (by omega) (bo + 1) w.heap.size eB dQ aU aX bJ bT dZ dP aV HV.out.2.2.2.1 HS.out w W0 (Nat.le_refl _) HR0.out HR4.out hB0 (by omega) bL) O5 (OT (by omega)) (Below.refl _ _) (fun _ => rfl)
   (fun pre W => ((∃ v, Boxed W bo 28 v ∧ W.ownsRow w.heap.size 3 1 v (mM aU aX bJ bT aV pre).length (nums .i64 (mM aU aX bJ bT aV pre)) ∧ True) ∧ W.heap[bo + 1]? = some (.cells #[.slice eB aU.length dQ, .int .i64 aX, .int .i64 bJ, .int .i64 bT, .slice dZ aV.length dP] 25 (0, 0)) ∧ W.heap[w.heap.size]? = some (.cells #[.slice eB aU.length dQ, .int .i64 aX, .int .i64 bJ, .int .i64 bT, .slice dZ aV.length dP] 25 (0, 0))) ∧ Below w.heap.size w W)
   (fun _ _ _ => False)
   (OwnFrom.and (OwnFrom.and (Own.from (holdsRow_own w.heap.size bo 28 3 1 (fun pre => (mM aU aX bJ bT aV pre).length) (fun pre => nums .i64 (mM aU aX bJ bT aV pre)) (fun _ _ => True)) _) (OwnFrom.and (Own.from (uN _ _ _) _) (Own.from (uN _ _ _) _))) (ownFrom_below (Nat.le_refl _) (by omega)))
   (fun _ _ _ _ _ hs _ _ => hs)
   ⟨⟨⟨_, bO, World.ownsRow_nil _ _ _ _, trivial⟩, bL, bX⟩, hB0⟩
   (fun x a' W => ∃ Bx, bo + 1 < Bx ∧ ou W Bx (dH aX bJ aU aV x.1) ∧ a' = { tmps := #[.agg #[.slice eB aU.length dQ, .int .i64 aX, .int .i64 bJ, .int .i64 bT, .slice dZ aV.length dP], .pointer (some ⟨w.heap.size, 0, none⟩), .slice none 0 0, .int .i64 0, .int .i64 0, .pointer (some ⟨bo, 0, none⟩), .int .i64 (x.1 : Int), .pointer (some ⟨Bx, 0, none⟩), undef, undef, .agg #[.slice eB aU.length dQ, .int .i64 aX, .int .i64 bJ, .int .i64 bT, .slice dZ aV.length dP], .int .i64 0, .int .i64 0, .bool false, undef, .agg #[.slice eB aU.length dQ, .int .i64 aX, .int .i64 bJ, .int .i64 bT, .slice dZ aV.length dP], .func (.func 73) #[] #[.pointer (some ⟨bo + 1, 0, none⟩)], .int .i64 (x.1 : Int), .agg (nums .i64 (dH aX bJ aU aV x.1)).toArray, undef, undef, undef, undef, undef, undef, undef, undef, undef, undef, undef, undef, undef, undef, undef, undef, undef, undef, undef, undef], defers := [] })
   (fun x a' _ X Y row hs hg hr => by obtain ⟨Bx, h1, h2, h3⟩ := hs; exact ⟨Bx, h1, ⟨h2.1, uN (β := Unit) Bx _ 97 () X Y row h2.2 hg (fun r e => (hr r e).2)⟩, h3⟩)
   ?assign ?body ?done ?stop
  case assign =>
   rintro l pre x W K ⟨⟨⟨v, hv, hrow, _⟩, hL, hX⟩, hB⟩ hK; dsimp only [NF]; have hlen := iL aX bJ aV (ah aU (x.1 : Int)).f1 aV.length; (have hin : (Try.prog.info? 97).map (·.size) = some 64 := by kernel_rfl); have H64 := aa.mk (show (nums .i64 (dH aX bJ aU aV x.1)).toArray.size = 64 by simp [nums, dH, hlen]); have HIN := aa.mk hin; have HA := aa.mk (ui (dH aX bJ aU aV x.1)); clear hlen hin; have hK2 := aa.mk hK; clear hK
   gi_wp2_with (refine ib rfl 97 (.tmp 7) (.tmp 18) rfl W.heap.size _ rfl rfl 97 _ (heap_alloc_new W _) (by rw [H64.out]; exact HIN.out) (by rw [H64.out]; rfl) HA.out ?_)
   rw [lQ]; refine hK2.out _ _ ((KeepsOthers.alloc _ _).from _) ⟨(Below.refl _ W).alloc hB.size _, fun o ho hc => cz ho _⟩ ⟨⟨⟨v, hv.alloc _, hrow.alloc _, trivial⟩, cz hL _, cz hX _⟩, aH hB _⟩ ⟨W.heap.size, bW hL, ⟨iL _ _ _ _ _, heap_alloc_new W _⟩, rfl⟩
  case body =>
   rintro l pre x a' W hl ⟨r, hr⟩ ⟨⟨⟨v, hv, hrow, _⟩, hL, hX⟩, hB⟩ ⟨Bx, hBx, bN, rfl⟩ hlt; (have hin : (Try.prog.info? 97).map (·.size) = some 64 := by kernel_rfl); (have hin5 : (Try.prog.info? 95).map (·.size) = some 8 := by kernel_rfl); have H64 := aa.mk (show (nums .i64 (dH aX bJ aU aV x.1)).toArray.size = 64 by simp [nums, bN.1]); have HIN := aa.mk hin; have HIN5 := aa.mk hin5; have HV' := aa.mk hv; have HRow := aa.mk hrow; have HL := aa.mk hL; have HX := aa.mk hX; have HB := aa.mk hB; have HN := aa.mk bN; clear hin hin5 hv hrow hL hB bN; have hz0 : W.cell? ⟨w.heap.size, 0, none⟩ = some (.slice eB aU.length dQ) := (af hX 0).trans rfl; have hz1 : W.cell? ⟨w.heap.size, 1, none⟩ = some (.int .i64 aX) := (af hX 1).trans rfl; have hz2 : W.cell? ⟨w.heap.size, 2, none⟩ = some (.int .i64 bJ) := (af hX 2).trans rfl; have hz3 : W.cell? ⟨w.heap.size, 3, none⟩ = some (.int .i64 bT) := (af hX 3).trans rfl; have hz4 : W.cell? ⟨w.heap.size, 4, none⟩ = some (.slice dZ aV.length dP) := (af hX 4).trans rfl; clear hX
   gi_wp2_with (refine pg rfl 97 (.tmp 7) rfl Bx rfl 97 _ (0, 0) _ HN.out.2 Try.underlying97 rfl (by rw [H64.out]; exact HIN.out) ?_)
   refine ⟨trivial, (CallsIn.inRound l (callsIn_wide.2 (sums.calls (-1) 0 eB dQ aU aX bJ bT dZ aV.length dP x.1 (dH aX bJ aU aV x.1) W (Kd.aY HR0.out HB.out) x.2 HN.out.1 HV.out.2.2.2.1 (HS.out x.1 x.2)))).mono ?_⟩; rintro e w2 ⟨rfl, hb⟩; obtain ⟨es, hes⟩ : ∃ es, es = (eQ (-1) 0 (dH aX bJ aU aV x.1) (ah aU (x.1 : Int)).f1 aV.length).1 := ⟨_, rfl⟩; obtain ⟨tot, htot⟩ : ∃ tot, tot = (eQ (-1) 0 (dH aX bJ aU aV x.1) (ah aU (x.1 : Int)).f1 aV.length).2 := ⟨_, rfl⟩; rw [← hes, ← htot]; (have hel : es.length = 8 := by rw [hes]; exact jl _ _ _ _ _); have HE := aa.mk (show (nums .i64 es).toArray.size = 8 by simp [nums, hel]); have HA := aa.mk (ui es); have HT := aa.mk (show tot = kK aU aX bJ aV x.1 from htot); have hbw : Below W.heap.size W w2 := hb; have HBW := aa.mk hbw; have HX2 := aa.mk ((hb.block _ (bW HX.out)).trans HX.out); have hz3 : w2.cell? ⟨w.heap.size, 3, none⟩ = some (.int .i64 bT) := (af HX2.out 3).trans rfl; have hlt3 : w.heap.size < w2.heap.size := bW HX2.out; clear hes htot hel hb hbw hz0 hz1 hz2 hz4; have HK2 := HV'.out.kept (jq HBW.out none) (by simp); have hv2 : Boxed (w2.alloc (.cells (nums .i64 es).toArray 95)) bo 28 v := HK2.alloc _; have hrow2 := (yR HRow.out HBW.out).alloc (.cells (nums .i64 es).toArray 95); (have hsz2 : (w2.alloc (.cells (nums .i64 es).toArray 95)).heap.size = w2.heap.size + 1 := by simp); have hBW2 : Below W.heap.size W (w2.alloc (.cells (nums .i64 es).toArray 95)) := aH HBW.out _; have hKO2 : KeepsOthers W (w2.alloc (.cells (nums .i64 es).toArray 95)) := kI hBW2; have HB2 := aa.mk (gZ HB.out HB.out.size hBW2); have HL2 := aa.mk ((hBW2.block _ (bW HL.out)).trans HL.out); have HX3 := aa.mk ((hBW2.block _ (bW HX.out)).trans HX.out); have HBW2 := aa.mk hBW2; have HKO2 := aa.mk hKO2; obtain ⟨i0, hi, hz0, hz1, hz2⟩ := info_parts info3; have hpl := yz (a1 := aX) (a2 := bJ) (a3 := bT) (l4 := aV) pre; have hl0 := HV.out.2.1; have hcO := HK2.cell; have hltO : bo < w2.heap.size := HK2.lt; clear hKO2 hBW2 HK2; have HCN := aa.mk (cell_one_new (w2.alloc (.cells (nums .i64 es).toArray 95)) (.int .i64 (x.1 : Int)) 3); rw [World.size_alloc] at HCN; by_cases ht : tot ≤ bT
   ·have hdt : decide (tot ≤ bT) = true := decide_eq_true ht; have HTT := aa.mk (show kK aU aX bJ aV x.1 ≤ bT by rw [← HT.out]; exact ht); clear ht
    gi_wp2_with (first
     | (refine ib rfl 95 (.tmp 8) (.tmp 25) rfl w2.heap.size _ rfl rfl 95 _ (heap_alloc_new w2 _) (by rw [HE.out]; exact HIN5.out) (by rw [HE.out]; rfl) HA.out ?_; rw [lQ])
     | (gi_at_builtin; go_loud (refine wpListIn_append_own _ rfl _ _ 28 rfl w.heap.size 3 i0 (.int .i64 0) 1 8 Try.underlying28 hi hz0 hz1 hz2 rfl (by decide) _ _ _ rfl (hrow2.alloc _) ⟨w2.heap.size + 1, 0, none⟩ 1 1 [.int .i64 (x.1 : Int)] rfl rfl HCN.out (by simp [Value.oneCell']) (by unfold maxLen; omega) (by omega) (by have := HB2.out.size; simp at this ⊢; omega) ?_); intro v' w3 hown' hgrow _; obtain ⟨g', cap', rfl⟩ := ownsRow_succ hown'; obtain ⟨hv1, hv2', hr2, hk2, hb2⟩ := hv2.appended (by decide) hrow2 HB2.out.size (by omega) hown' hgrow; have hc1 := hv1.cell; have hf1 := hv1.frozen))
    have hLf := bA (bQ (cz HL2.out (.cells #[.int .i64 (x.1 : Int)] 3)) hgrow (show some (bo + 1) ≠ v.ownBlock from Ab HL2.out hrow2 (by decide))) (p := ⟨bo, 0, none⟩) (by simp) (.slice (some ⟨g', 0, none⟩) ((mM aU aX bJ bT aV pre).length + 1) cap'); have hXf := bA (bQ (cz HX3.out (.cells #[.int .i64 (x.1 : Int)] 3)) hgrow (show some w.heap.size ≠ v.ownBlock from Ab HX3.out hrow2 (by decide))) (p := ⟨bo, 0, none⟩) (by simp; omega) (.slice (some ⟨g', 0, none⟩) ((mM aU aX bJ bT aV pre).length + 1) cap'); refine ⟨(HKO2.out.trans hk2).from _, ⟨(HBW2.out.mono HB.out.size).trans hb2, fun o ho hc => ?_⟩, ⟨⟨_, hv2', ?_, trivial⟩, hLf, hXf⟩, HB2.out.trans hb2⟩
    ·rw [HL.out] at ho; cases ho; exact hLf
    ·rw [Ns pre HTT.out]
     simpa [nums] using hr2
   ·have hdt : decide (tot ≤ bT) = false := decide_eq_false ht; have HTT := aa.mk (show ¬ kK aU aX bJ aV x.1 ≤ bT by rw [← HT.out]; exact ht); clear ht
    gi_wp2_with (refine ib rfl 95 (.tmp 8) (.tmp 25) rfl w2.heap.size _ rfl rfl 95 _ (heap_alloc_new w2 _) (by rw [HE.out]; exact HIN5.out) (by rw [HE.out]; rfl) HA.out ?_; rw [lQ])
    refine ⟨HKO2.out.from _, ⟨HBW2.out.mono HB.out.size, fun o ho hc => (HBW2.out.block _ (bW ho)).trans ho⟩, ⟨⟨v, hv2, ?_, trivial⟩, HL2.out, HX3.out⟩, HB2.out⟩; rw [KF pre (Int.not_le.mpr (Int.not_le.mp (by have := HTT.out; omega)))]; exact hrow2
  case done =>
   rintro D ys W hD rfl ⟨⟨⟨v, hv, hrow, _⟩, hL, hX⟩, hB⟩ hK; have hc := hv.cell; have HRW := aa.mk (show Kd.R (Kd.int .i64) 3 W w.heap.size (fun _ => True) v (mM aU aX bJ bT aV (List.finRange aU.length)) from Kd.vB hrow (fun _ _ => trivial)); have HB := aa.mk hB; have hl := hrow.1; have hl2 := yz (a1 := aX) (a2 := bJ) (a3 := bT) (l4 := aV) (List.finRange aU.length); rw [List.length_finRange] at hl2; obtain ⟨fs, hfs⟩ : ∃ fs, fs = mM aU aX bJ bT aV (List.finRange aU.length) := ⟨_, rfl⟩; rw [← hfs] at HRW hl2; have HH' := HH; rw [← hfs] at HH'; obtain ⟨A, cap, rfl, _, _⟩ := Kd.uP HRW.out; have HKD := aa.mk hK; clear hfs hrow hX hL hB HH hl hK; have hh := HH'.out; by_cases h0 : fs = []
   ·rw [if_pos h0] at hh; simp only [Prod.mk.injEq] at hh; obtain ⟨rfl, rfl⟩ := hh; (have hz : ((fs.length : Int) == 0) = true := by simp [h0]); (have hz2 : (fs.length == 0) = true := by simp [h0]); have HF := aa.mk h0; clear h0 HH'
    gi_wp2_with (fail)
    refine ⟨by simp, .inl ⟨_, _, rfl, run_takeDeferred HKD.out, ?_⟩⟩; exact ⟨_, results_tmp2 rfl _ _ _, _, rfl, Kd.uj _ _ _ _ _, HB.out.trans (belowK_b (w := w) (Nat.le_refl _) W D _ _ (by omega) HKD.out rfl rfl)⟩
   ·rw [if_neg h0] at hh; simp only [Prod.mk.injEq] at hh; obtain ⟨rfl, rfl⟩ := hh; (have hz : ((fs.length : Int) == 0) = false := by simp [h0]); (have hz2 : (fs.length == 0) = false := by simp [h0]); clear h0 HH'
    gi_wp2_with (fail)
    refine ⟨by simp, .inl ⟨_, _, rfl, run_takeDeferred HKD.out, ?_⟩⟩; exact ⟨_, results_tmp2 rfl _ _ _, _, rfl, Io HRW.out HKD.out rfl, HB.out.trans (belowK_b (w := w) (Nat.le_refl _) W D _ _ (by omega) HKD.out rfl rfl)⟩
  case stop =>
   rintro D c pre W _ _ h _; exact h.elim
 ·rw [if_neg h0] at h'; simp only [Prod.mk.injEq] at h'; obtain ⟨rfl, rfl⟩ := h'; (have hd : (ch == 0) = false := by simp [h0]); (have hd2 : (ch != 0) = true := by simp [h0]); clear h0 hch
  gi_wp2_with (fail)
  exact ⟨_, results_tmp2 rfl _ _ _, _, rfl, Kd.uj _ _ _ _ _, HW1.out⟩
end Go.Proofs.Ytihedeofkhapiaa.Pr
end
section
namespace Go.Proofs.Ytihedeofkhapiaa.Pr
open Go.RowKit Go.Proofs.YtihedeofkhapiaaW.PrintWords Go.Proofs.YtihedeofkhapiaaW.PrintLast Go.Proofs.YtihedeofkhapiaaW.PrintMore
theorem JU (W S : Int) (q : Int × Int × Bool) (sh : List S86) (i : Nat) (m : List Int) (hi : i < 8) (hm : m.length = 64) : ∀ K, K ≤ 8 → ∀ i' k, i' < 8 → k < 8 →
 (uU W S q sh i m K).getD (i' * 8 + k) 0 = if i' = i ∧ k < K then cellP W S q (ai sh (k : Int)) else m.getD (i' * 8 + k) 0 := by
 intro K
 induction K with
 | zero => intro _ i' k _ _; rw [uU, if_neg (by omega)]
 | succ K ih =>
  intro hK i' k hi' hk; (have hlen : (uU W S q sh i m K).length = 64 := by rw [uE, hm]); rw [uU, List.getD_eq_getElem?_getD, List.getElem?_set]; by_cases he : i * 8 + K = i' * 8 + k
  ·(obtain ⟨rfl, rfl⟩ : i = i' ∧ K = k := by omega); rw [if_pos rfl, if_pos (by omega), if_pos (by omega)]; rfl
  ·rw [if_neg he, ← List.getD_eq_getElem?_getD, ih (by omega) i' k hi' hk]; by_cases h1 : i' = i ∧ k < K
   ·rw [if_pos h1, if_pos (by omega)]
   ·rw [if_neg h1, if_neg (by omega)]
theorem lM (W S : Int) (l4 : List (List S27)) (sh : List S86) (hsh : sh.length ≤ 8) : ∀ n, n ≤ 8 → ∀ i k, i < n → k < sh.length →
 (dI W S l4 sh n).getD (i * 8 + k) 0 = cellP W S (fD (cu l4 (i : Int))) (ai sh (k : Int)) := by
 intro n
 induction n with
 | zero => intro _ i k hi; omega
 | succ n ih =>
  intro hn i k hi hk; rw [dI, JU _ _ _ _ _ _ (by omega) (iL _ _ _ _ _) _ hsh i k (by omega) (by omega)]; by_cases he : i = n
  ·subst he; rw [if_pos ⟨rfl, hk⟩]
  ·rw [if_neg (by omega)]; exact ih (by omega) i k (by omega) hk
theorem adB (m : List Int) (i : Nat) (sh : List S86) : ∀ K k, k < K → eO (-1) 0 m i sh K ≤ m.getD (i * 8 + k) 0 := by
 intro K
 induction K with
 | zero => intro k hk; omega
 | succ K ih =>
  intro k hk; (have hm : tK (-1) 0 (i : Int) (ai sh (K : Int)) = true := by rw [tK, if_neg (by omega)]); rw [eO, if_pos hm]; unfold mn; by_cases he : k = K
  ·subst he; split <;> omega
  ·have := ih k (by omega); split <;> omega
theorem zX (m : List Int) (i : Nat) (sh : List S86) : ∀ K, (∀ k, k < K → 0 ≤ m.getD (i * 8 + k) 0) → 0 ≤ eO (-1) 0 m i sh K ∧ eO (-1) 0 m i sh K ≤ 1048576 := by
 intro K
 induction K with
 | zero => intro _; exact ⟨by simp [eO, jJ], by simp [eO, jJ]⟩
 | succ K ih =>
  intro h; (have hm : tK (-1) 0 (i : Int) (ai sh (K : Int)) = true := by rw [tK, if_neg (by omega)]); have h1 := ih (fun k hk => h k (by omega)); have h2 := h K (by omega); rw [eO, if_pos hm]; unfold mn; split <;> omega
def gL (f : Nat → Int) : Nat → Int
 | 0 => 0
 | n + 1 => gL f n + f n
theorem Md {f g : Nat → Int} : ∀ n, (∀ i, i < n → f i ≤ g i) → gL f n ≤ gL g n
 | 0, _ => Int.le_refl _
 | n + 1, h => by
  have h1 := Md n (fun i hi => h i (by omega)); have h2 := h n (by omega); simp only [gL]; omega
theorem M0 {f g : Nat → Int} : ∀ n, (∀ i, i < n → f i ≤ g i) → ∀ i, i < n → gL f n - f i ≤ gL g n - g i
 | 0, _, i, hi => by omega
 | n + 1, h, i, hi => by
  simp only [gL]; have h2 := h n (by omega); by_cases he : i = n
  ·subst he; have h1 := Md i (fun j hj => h j (by omega)); omega
  ·have h1 := M0 n (fun j hj => h j (by omega)) i (by omega); omega
theorem vZ {f : Nat → Int} : ∀ n, n ≤ 8 → (∀ i, i < n → 0 ≤ f i ∧ f i ≤ 1048576) → 0 ≤ gL f n ∧ gL f n ≤ 1048576 * n
 | 0, _, _ => by simp [gL]
 | n + 1, hn, h => by
  have h1 := vZ n (by omega) (fun i hi => h i (by omega)); have h2 := h n (by omega); simp only [gL]; push_cast; omega
theorem Ph : ∀ ms : List Int, gL (fun j => ms.getD j 0) ms.length = ms.sum := by
 have h : ∀ (ms : List Int) (n : Nat), n ≤ ms.length → gL (fun j => ms.getD j 0) n = (ms.take n).sum := by
  intro ms n
  induction n with
  | zero => intro _; simp [gL]
  | succ n ih =>
   intro hn; rw [gL, ih (by omega), ← List.take_append_getElem (by omega), List.sum_append]; simp [List.getD_eq_getElem?_getD, show n < ms.length by omega]
 intro ms; rw [h ms _ (Nat.le_refl _), List.take_length]
theorem MF (m : List Int) (sh : List S86) : ∀ n, n ≤ 8 → (∀ i k, i < n → k < sh.length → 0 ≤ m.getD (i * 8 + k) 0) →
 (eQ (-1) 0 m sh n).2 = gL (fun i => eO (-1) 0 m i sh sh.length) n ∧ ∀ i, i < n → (eQ (-1) 0 m sh n).1.getD i 0 = eO (-1) 0 m i sh sh.length := by
 intro n
 induction n with
 | zero => intro _ _; exact ⟨rfl, fun i hi => by omega⟩
 | succ n ih =>
  intro hn h; obtain ⟨h1, h2⟩ := ih (by omega) (fun i k hi hk => h i k (by omega) hk); have hb := vZ (f := fun i => eO (-1) 0 m i sh sh.length) n (by omega) (fun i hi => zX m i sh _ (fun k hk => h i k (by omega) hk)); have hb2 := zX m n sh _ (fun k hk => h n k (by omega) hk); refine ⟨?_, fun i hi => ?_⟩
  ·rw [eQ]; simp only [gL]; rw [h1, eT (by omega) (by omega)]
  ·rw [eQ]; simp only []; rw [List.getD_eq_getElem?_getD, List.getElem?_set]; have hl := jl (-1) 0 m sh n; by_cases he : n = i
   ·subst he; rw [if_pos rfl, if_pos (by omega)]; rfl
   ·rw [if_neg he, ← List.getD_eq_getElem?_getD]; exact h2 i (by omega)
end Go.Proofs.Ytihedeofkhapiaa.Pr
end
section
namespace Go.Proofs.Ytihedeofkhapiaa.Pr
open Go.RowKit Go.Shelf Go.Proofs.YtihedeofkhapiaaW.PrintWords Go.Proofs.YtihedeofkhapiaaW.PrintLast Go.Proofs.YtihedeofkhapiaaW.PrintMore
attribute [local go_sem] Oper.semAt_some
def oW (l0 : List S66) (a1 a2 : Int) (l4 : List (List S27)) (pre : List (Fin l0.length)) : Int := pre.foldl (fun b x => mn b (kK l0 a1 a2 l4 x.1)) jJ
theorem Ig {l0 : List S66} {a1 a2 : Int} {l4 : List (List S27)} (pre : List (Fin l0.length)) (x : Fin l0.length) : oW l0 a1 a2 l4 (pre ++ [x]) = mn (oW l0 a1 a2 l4 pre) (kK l0 a1 a2 l4 x.1) := by
 simp [oW, List.foldl_append]
def BM (l0 : List S66) (a1 a2 a3 : Int) (l4 : List (List S27)) : Int × Int :=
 if eH l0 a1 a2 a3 l4 = 0 then (if oW l0 a1 a2 l4 (List.finRange l0.length) ≥ 1048576 then (0, 9) else (oW l0 a1 a2 l4 (List.finRange l0.length), 0)) else (0, eH l0 a1 a2 a3 l4)
def oI.f (aU : List (S66)) (aX : Int) (bJ : Int) (bT : Int) (aV : List (List (S27))) : Option (Int × Int) := some (BM aU aX bJ bT aV)
set_option maxRecDepth 100000 in
set_option maxHeartbeats 4000000 in
theorem oI.calls (eB : Option Addr) (dQ : Nat) (aU : List (S66)) (aX : Int) (bJ : Int) (bT : Int) (dZ : Option Addr) (dP : Nat) (aV : List (List (S27))) (r1 : Int) (r2 : Int) (w : World) (mG : Kd.C k66 w eB aU.length aU) (oG : aU.length ≤ dQ) (mH : Kd.C (Kd.slice 27 k27) w dZ aV.length aV) (oC : aV.length ≤ dP) (h : oI.f aU aX bJ bT aV = some (r1, r2)) :
 Calls Try.prog 21 #[.agg #[.slice eB aU.length dQ, .int .i64 aX, .int .i64 bJ, .int .i64 bT, .slice dZ aV.length dP]] w fun e w' => e = .returned (.tuple #[.int .i64 r1, .int .i64 r2]) ∧ Below w.heap.size w w' := by
 have h' := Option.some.inj h; clear h; obtain ⟨ch, hch⟩ : ∃ ch, ch = eH aU aX bJ bT aV := ⟨_, rfl⟩; rw [BM, ← hch] at h'; have HC := zT eB dQ aU aX bJ bT dZ dP aV (w.alloc (.cells #[.slice eB aU.length dQ, .int .i64 aX, .int .i64 bJ, .int .i64 bT, .slice dZ aV.length dP] 25)) (Kd.aY mG (aH (Below.refl _ _) _)) oG (Kd.aY mH (aH (Below.refl _ _) _)) oC; rw [← hch] at HC; refine callsIn_wide (n := 10).1 ?_; refine callsIn_of_wp_marks Try.func21 rfl trivial ?_ rfl; simp only [Try.ntmps21, List.size_toArray, List.length_cons, List.length_nil, Nat.reduceAdd, Nat.reduceSub, Array.replicate_succ, Array.replicate_zero, List.push_toArray, List.append_toArray, List.nil_append, List.cons_append]
 gi_wp2_with (fail)
 refine ⟨trivial, ?_⟩; refine (callsIn_wide.2 HC).mono ?_; rintro e w1 ⟨rfl, hb⟩; have HW1 := aa.mk (gZ (aH (Below.refl _ _) _) (by simp) hb); have hBx := (hb.block _ (bW (heap_alloc_new w (.cells #[.slice eB aU.length dQ, .int .i64 aX, .int .i64 bJ, .int .i64 bT, .slice dZ aV.length dP] 25)))).trans (heap_alloc_new w _); have HBX := aa.mk hBx; have HR0 := aa.mk mG; have HR4 := aa.mk mH; clear hBx hb HC mG mH; by_cases h0 : ch = 0
 ·rw [if_pos h0] at h'; have hv := kE (hch.symm.trans h0); have HV := aa.mk hv; have HS := aa.mk (uL hv.2.2.2.2.1); subst h0; have HH := aa.mk h'; clear h' hv hch; have hz0 : w1.cell? ⟨w.heap.size, 0, none⟩ = some (.slice eB aU.length dQ) := (af HBX.out 0).trans rfl; have hz1 : w1.cell? ⟨w.heap.size, 1, none⟩ = some (.int .i64 aX) := (af HBX.out 1).trans rfl; have hz2 : w1.cell? ⟨w.heap.size, 2, none⟩ = some (.int .i64 bJ) := (af HBX.out 2).trans rfl; have hz3 : w1.cell? ⟨w.heap.size, 3, none⟩ = some (.int .i64 bT) := (af HBX.out 3).trans rfl; have hz4 : w1.cell? ⟨w.heap.size, 4, none⟩ = some (.slice dZ aV.length dP) := (af HBX.out 4).trans rfl; have hlt1 : w.heap.size < w1.heap.size := bW HBX.out
  gi_wp2_with (fail)
  refine ⟨trivial, ?_⟩; refine (DI _ _ _ _ _ _ _ _ _ _ _).mono ?_; rintro e w2 ⟨rfl, rfl⟩
  gi_wp2_with (fail)
  obtain ⟨bo, hbo⟩ : ∃ bo, bo = w1.heap.size := ⟨_, rfl⟩; have bO := (Boxed.new w1 3 (.int .i64 1048576)).alloc (.cells #[.slice eB aU.length dQ, .int .i64 aX, .int .i64 bJ, .int .i64 bT, .slice dZ aV.length dP] 25)
  have bL : ((w1.alloc (.cells #[.int .i64 1048576] 3)).alloc (.cells #[.slice eB aU.length dQ, .int .i64 aX, .int .i64 bJ, .int .i64 bT, .slice dZ aV.length dP] 25)).heap[w1.heap.size + 1]? = some (.cells #[.slice eB aU.length dQ, .int .i64 aX, .int .i64 bJ, .int .i64 bT, .slice dZ aV.length dP] 25 (0, 0)) := by
   have := heap_alloc_new (w1.alloc (.cells #[.int .i64 1048576] 3)) (.cells #[.slice eB aU.length dQ, .int .i64 aX, .int .i64 bJ, .int .i64 bT, .slice dZ aV.length dP] 25)
   rwa [World.size_alloc] at this
  have bX : ((w1.alloc (.cells #[.int .i64 1048576] 3)).alloc (.cells #[.slice eB aU.length dQ, .int .i64 aX, .int .i64 bJ, .int .i64 bT, .slice dZ aV.length dP] 25)).heap[w.heap.size]? = some (.cells #[.slice eB aU.length dQ, .int .i64 aX, .int .i64 bJ, .int .i64 bT, .slice dZ aV.length dP] 25 (0, 0)) := cz (cz HBX.out _) _; (have hsz : ((w1.alloc (.cells #[.int .i64 1048576] 3)).alloc (.cells #[.slice eB aU.length dQ, .int .i64 aX, .int .i64 bJ, .int .i64 bT, .slice dZ aV.length dP] 25)).heap.size = bo + 2 := by simp [hbo]); have hB0 : Below w.heap.size w ((w1.alloc (.cells #[.int .i64 1048576] 3)).alloc (.cells #[.slice eB aU.length dQ, .int .i64 aX, .int .i64 bJ, .int .i64 bT, .slice dZ aV.length dP] 25)) := aH (aH HW1.out _) _; (have hwb : w.heap.size < bo := by rw [hbo]; exact hlt1); rw [← hbo] at bL bO ⊢; obtain ⟨W0, hW0⟩ : ∃ W0, W0 = ((w1.alloc (.cells #[.int .i64 1048576] 3)).alloc (.cells #[.slice eB aU.length dQ, .int .i64 aX, .int .i64 bJ, .int .i64 bT, .slice dZ aV.length dP] 25)) := ⟨_, rfl⟩; rw [← hW0] at bO bL bX hsz hB0 ⊢; clear hW0 hz0 hz1 hz2 hz3 hz4 hlt1 HBX hbo HW1
  refine wpIn_rangeFunc_ownH rfl (by omega) (gf := 73) (lb := #[.pointer (some ⟨bo + 1, 0, none⟩)]) rfl trivial (enters_of Try.func73 (by kernel_rfl) rfl)
   (vV 9 (by omega) (bo + 1) w.heap.size eB dQ aU aX bJ bT dZ dP aV HV.out.2.2.2.1 HS.out w W0 (Nat.le_refl _) HR0.out HR4.out hB0 (by omega) bL) O5 (OT (by omega)) (Below.refl _ _) (fun _ => rfl)
   (fun pre W => (Boxed W bo 3 (.int .i64 (oW aU aX bJ aV pre)) ∧ W.heap[bo + 1]? = some (.cells #[.slice eB aU.length dQ, .int .i64 aX, .int .i64 bJ, .int .i64 bT, .slice dZ aV.length dP] 25 (0, 0)) ∧ W.heap[w.heap.size]? = some (.cells #[.slice eB aU.length dQ, .int .i64 aX, .int .i64 bJ, .int .i64 bT, .slice dZ aV.length dP] 25 (0, 0))) ∧ Below w.heap.size w W)
   (fun _ _ _ => False)
   (OwnFrom.and (OwnFrom.and (Own.from (boxed_own bo 3 (fun pre => .int .i64 (oW aU aX bJ aV pre))) _) (OwnFrom.and (Own.from (uN _ _ _) _) (Own.from (uN _ _ _) _))) (ownFrom_below (Nat.le_refl _) (by omega)))
   (fun _ _ _ _ _ hs _ _ => hs)
   ⟨⟨bO, bL, bX⟩, hB0⟩
   (fun x a' W => ∃ Bx, bo + 1 < Bx ∧ ou W Bx (dH aX bJ aU aV x.1) ∧ a' = { tmps := #[.agg #[.slice eB aU.length dQ, .int .i64 aX, .int .i64 bJ, .int .i64 bT, .slice dZ aV.length dP], .pointer (some ⟨w.heap.size, 0, none⟩), .int .i64 0, .int .i64 0, .int .i64 0, .pointer (some ⟨bo, 0, none⟩), .int .i64 (x.1 : Int), .pointer (some ⟨Bx, 0, none⟩), undef, undef, .agg #[.slice eB aU.length dQ, .int .i64 aX, .int .i64 bJ, .int .i64 bT, .slice dZ aV.length dP], .int .i64 0, .int .i64 0, .bool false, undef, .agg #[.slice eB aU.length dQ, .int .i64 aX, .int .i64 bJ, .int .i64 bT, .slice dZ aV.length dP], .func (.func 73) #[] #[.pointer (some ⟨bo + 1, 0, none⟩)], .int .i64 (x.1 : Int), .agg (nums .i64 (dH aX bJ aU aV x.1)).toArray, undef, undef, undef, undef, undef, undef, undef, undef, undef, undef, undef, undef, undef, undef, undef], defers := [] })
   (fun x a' _ X Y row hs hg hr => by obtain ⟨Bx, h1, h2, h3⟩ := hs; exact ⟨Bx, h1, ⟨h2.1, uN (β := Unit) Bx _ 97 () X Y row h2.2 hg (fun r e => (hr r e).2)⟩, h3⟩)
   ?assign ?body ?done ?stop
  case assign =>
   rintro l pre x W K ⟨⟨hv, hL, hX⟩, hB⟩ hK; dsimp only [NF]; have hlen := iL aX bJ aV (ah aU (x.1 : Int)).f1 aV.length; (have hin : (Try.prog.info? 97).map (·.size) = some 64 := by kernel_rfl); have H64 := aa.mk (show (nums .i64 (dH aX bJ aU aV x.1)).toArray.size = 64 by simp [nums, dH, hlen]); have HIN := aa.mk hin; have HA := aa.mk (ui (dH aX bJ aU aV x.1)); clear hlen hin; have hK2 := aa.mk hK; clear hK
   gi_wp2_with (refine ib rfl 97 (.tmp 7) (.tmp 18) rfl W.heap.size _ rfl rfl 97 _ (heap_alloc_new W _) (by rw [H64.out]; exact HIN.out) (by rw [H64.out]; rfl) HA.out ?_)
   rw [lQ]; refine hK2.out _ _ ((KeepsOthers.alloc _ _).from _) ⟨(Below.refl _ W).alloc hB.size _, fun o ho hc => cz ho _⟩ ⟨⟨hv.alloc _, cz hL _, cz hX _⟩, aH hB _⟩ ⟨W.heap.size, bW hL, ⟨iL _ _ _ _ _, heap_alloc_new W _⟩, rfl⟩
  case body =>
   rintro l pre x a' W hl ⟨r, hr⟩ ⟨⟨hv, hL, hX⟩, hB⟩ ⟨Bx, hBx, bN, rfl⟩ hlt; (have hin : (Try.prog.info? 97).map (·.size) = some 64 := by kernel_rfl); (have hin5 : (Try.prog.info? 95).map (·.size) = some 8 := by kernel_rfl); have H64 := aa.mk (show (nums .i64 (dH aX bJ aU aV x.1)).toArray.size = 64 by simp [nums, bN.1]); have HIN := aa.mk hin; have HIN5 := aa.mk hin5; have HV' := aa.mk hv; have HL := aa.mk hL; have HX := aa.mk hX; have HB := aa.mk hB; have HN := aa.mk bN; clear hin hin5 hv hL hB bN; have hz0 : W.cell? ⟨w.heap.size, 0, none⟩ = some (.slice eB aU.length dQ) := (af hX 0).trans rfl; have hz1 : W.cell? ⟨w.heap.size, 1, none⟩ = some (.int .i64 aX) := (af hX 1).trans rfl; have hz2 : W.cell? ⟨w.heap.size, 2, none⟩ = some (.int .i64 bJ) := (af hX 2).trans rfl; have hz3 : W.cell? ⟨w.heap.size, 3, none⟩ = some (.int .i64 bT) := (af hX 3).trans rfl; have hz4 : W.cell? ⟨w.heap.size, 4, none⟩ = some (.slice dZ aV.length dP) := (af hX 4).trans rfl; clear hX
   gi_wp2_with (refine pg rfl 97 (.tmp 7) rfl Bx rfl 97 _ (0, 0) _ HN.out.2 Try.underlying97 rfl (by rw [H64.out]; exact HIN.out) ?_)
   refine ⟨trivial, (CallsIn.inRound l (callsIn_wide.2 (sums.calls (-1) 0 eB dQ aU aX bJ bT dZ aV.length dP x.1 (dH aX bJ aU aV x.1) W (Kd.aY HR0.out HB.out) x.2 HN.out.1 HV.out.2.2.2.1 (HS.out x.1 x.2)))).mono ?_⟩; rintro e w2 ⟨rfl, hb⟩; obtain ⟨es, hes⟩ : ∃ es, es = (eQ (-1) 0 (dH aX bJ aU aV x.1) (ah aU (x.1 : Int)).f1 aV.length).1 := ⟨_, rfl⟩; obtain ⟨tot, htot⟩ : ∃ tot, tot = (eQ (-1) 0 (dH aX bJ aU aV x.1) (ah aU (x.1 : Int)).f1 aV.length).2 := ⟨_, rfl⟩; rw [← hes, ← htot]; (have hel : es.length = 8 := by rw [hes]; exact jl _ _ _ _ _); have HE := aa.mk (show (nums .i64 es).toArray.size = 8 by simp [nums, hel]); have HA := aa.mk (ui es); have HT := aa.mk (show tot = kK aU aX bJ aV x.1 from htot); have hbw : Below W.heap.size W w2 := hb; have HBW := aa.mk hbw; have HX2 := aa.mk ((hb.block _ (bW HX.out)).trans HX.out); have hz3 : w2.cell? ⟨w.heap.size, 3, none⟩ = some (.int .i64 bT) := (af HX2.out 3).trans rfl; have hlt3 : w.heap.size < w2.heap.size := bW HX2.out; clear hes htot hel hb hbw hz0 hz1 hz2 hz4; have HK2 := HV'.out.kept (jq HBW.out none) (by simp); have hv2 := HK2.alloc (.cells (nums .i64 es).toArray 95); (have hsz2 : (w2.alloc (.cells (nums .i64 es).toArray 95)).heap.size = w2.heap.size + 1 := by simp); have hBW2 : Below W.heap.size W (w2.alloc (.cells (nums .i64 es).toArray 95)) := aH HBW.out _; have hKO2 : KeepsOthers W (w2.alloc (.cells (nums .i64 es).toArray 95)) := kI hBW2; have HB2 := aa.mk (gZ HB.out HB.out.size hBW2); have HL2 := aa.mk ((hBW2.block _ (bW HL.out)).trans HL.out); have HX3 := aa.mk ((hBW2.block _ (bW HX.out)).trans HX.out); have HBW2 := aa.mk hBW2; have HKO2 := aa.mk hKO2; have hcO := HK2.cell; have hltO : bo < w2.heap.size := HK2.lt; have HKO := aa.mk HK2; clear hKO2 hBW2 HK2 hv2
   gi_wp2_with (refine ib rfl 95 (.tmp 8) (.tmp 25) rfl w2.heap.size _ rfl rfl 95 _ (heap_alloc_new w2 _) (by rw [HE.out]; exact HIN5.out) (by rw [HE.out]; rfl) HA.out ?_; rw [lQ])
   refine ⟨trivial, (CallsIn.inRound l (callsIn_wide.2 (Af (oW aU aX bJ aV pre) tot (w2.heap.size + 1) _ ?_))).mono ?_⟩
   ·have h := World.cell?_alloc_at (w := w2.alloc (.cells (nums .i64 es).toArray 95)) #[.int .i64 tot] 3 (w2.heap.size + 1) 0 (by simp); exact h.trans rfl
   rintro e w3 ⟨rfl, hb3⟩; have hb3' : Below (w2.alloc (.cells (nums .i64 es).toArray 95)).heap.size (w2.alloc (.cells (nums .i64 es).toArray 95)) w3 := gZ (aH (Below.refl _ _) _) (by simp) hb3; have hv3 : Boxed w3 bo 3 (.int .i64 (oW aU aX bJ aV pre)) := (HKO.out.alloc (.cells (nums .i64 es).toArray 95)).kept (jq hb3' none) (by simp); have hBW3 := gZ HBW2.out HBW2.out.size hb3'; have HB3 := aa.mk (gZ HB.out HB.out.size hBW3); have HL3 := aa.mk ((hBW3.block _ (bW HL.out)).trans HL.out); have HX4 := aa.mk ((hBW3.block _ (bW HX.out)).trans HX.out); have HBW3 := aa.mk hBW3; have HV3 := aa.mk hv3; have hc3 := hv3.cell; have hf3 := hv3.frozen; clear hb3 hb3' hBW3 hv3 hcO hltO
   gi_wp2_with (fail)
   refine ⟨((kI HBW3.out).trans (KeepsOthers.setCell _ _ _)).from _, ⟨(HBW3.out.mono HB.out.size).setCell (p := ⟨bo, 0, none⟩) (by simp; omega) _, fun o ho hc => ?_⟩, ⟨?_, bA HL3.out (by simp) _, bA HX4.out (by simp; omega) _⟩, HB3.out.setCell (p := ⟨bo, 0, none⟩) (by simp; omega) _⟩
   ·rw [HL.out] at ho; cases ho; exact bA HL3.out (by simp) _
   ·rw [Ig, ← HT.out]; exact HV3.out.set _
  case done =>
   rintro D ys W hD rfl ⟨⟨hv, hL, hX⟩, hB⟩ hK; have hc := hv.cell; have HB := aa.mk hB; obtain ⟨bs, hbs⟩ : ∃ bs, bs = oW aU aX bJ aV (List.finRange aU.length) := ⟨_, rfl⟩; rw [← hbs] at hc; have HH' := HH; rw [← hbs] at HH'; have HKD := aa.mk hK; clear hbs hX hL hB HH hK hv; have hh := HH'.out; by_cases h0 : bs ≥ 1048576
   ·rw [if_pos h0] at hh; simp only [Prod.mk.injEq] at hh; obtain ⟨rfl, rfl⟩ := hh; have hz : decide (1048576 ≤ bs) = true := decide_eq_true h0; clear h0 HH'
    gi_wp2_with (fail)
    refine ⟨by simp, .inl ⟨_, _, rfl, run_takeDeferred HKD.out, ?_⟩⟩; exact ⟨_, results_tmp2 rfl _ _ _, rfl, HB.out.trans (belowK_b (w := w) (Nat.le_refl _) W D _ _ (by omega) HKD.out rfl rfl)⟩
   ·rw [if_neg h0] at hh; simp only [Prod.mk.injEq] at hh; obtain ⟨rfl, rfl⟩ := hh; have hz : decide (1048576 ≤ bs) = false := decide_eq_false h0; clear h0 HH'
    gi_wp2_with (fail)
    refine ⟨by simp, .inl ⟨_, _, rfl, run_takeDeferred HKD.out, ?_⟩⟩; exact ⟨_, results_tmp2 rfl _ _ _, rfl, HB.out.trans (belowK_b (w := w) (Nat.le_refl _) W D _ _ (by omega) HKD.out rfl rfl)⟩
  case stop =>
   rintro D c pre W _ _ h _; exact h.elim
 ·rw [if_neg h0] at h'; simp only [Prod.mk.injEq] at h'; obtain ⟨rfl, rfl⟩ := h'; (have hd : (ch == 0) = false := by simp [h0]); (have hd2 : (ch != 0) = true := by simp [h0]); clear h0 hch
  gi_wp2_with (fail)
  exact ⟨_, results_tmp2 rfl _ _ _, rfl, HW1.out⟩
end Go.Proofs.Ytihedeofkhapiaa.Pr
end
