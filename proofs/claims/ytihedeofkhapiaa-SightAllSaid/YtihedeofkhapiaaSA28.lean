/- Part 28 of 34 of the proof of: SightAll: for every slice of numbers, the law returns true: of a slim line made of them, the letters and hands that the program tells are just those of the truths found by going through all choices, and its marks are the fewest of any truth; no condition beyond the statement's own. -/
import Derived.RangeFuncNested
import Derived.RangeFuncBound
import Derived.RangeFuncCalls
import Derived.RangeFuncLeaves
import Derived.Shelf.Abstract
import Derived.Shelf.RegionOpen
import Derived.WalkKit
import Derived.OwnWalkIn
import Derived.TacticsInMore
import Derived.LoopNIn
import Derived.LoopIn
import Derived.Test.YtihedeofkhapiaaSA27
set_option linter.unusedVariables false
set_option linter.unusedSimpArgs false
section
namespace Go.Proofs.Ytihedeofkhapiaa.Pr
open Go.RowKit Go.Shelf Go.Proofs.YtihedeofkhapiaaW.PrintWords Go.Proofs.YtihedeofkhapiaaW.PrintLast Go.Proofs.YtihedeofkhapiaaW.PrintMore
attribute [local go_sem] Oper.semAt_some
def KpB (n₀ Bn : Nat) (W W' : World) : Prop := Below n₀ W W' ∧ ∀ o, W.heap[Bn]? = some o → o.isCells = true → W'.heap[Bn]? = some o
theorem KpB.trans {n₀ Bn : Nat} {A B C : World} (h : KpB n₀ Bn A B) (k : KpB n₀ Bn B C) : KpB n₀ Bn A C := ⟨h.1.trans k.1, fun o ho hc => k.2 o (h.2 o ho hc) hc⟩
theorem KpB.refl (n₀ Bn : Nat) (W : World) : KpB n₀ Bn W W := ⟨Below.refl _ _, fun _ h _ => h⟩
def bP (a1 a2 : Int) (l0 : List S66) (l4 : List (List S27)) (x : Nat) : List Int := dY a1 a2 l4 (aX l0 (x : Int)).f1 l4.length
def Fy (a1 a2 : Int) (l0 : List S66) (l4 : List (List S27)) (x : Fin l0.length) : Array Value := #[.int .i64 (x.1 : Int), .agg (nums .i64 (bP a1 a2 l0 l4 x.1)).toArray]
set_option maxRecDepth 100000 in
set_option maxHeartbeats 1000000 in
theorem wS (n : Nat) (A0 : Option Addr) (n0 c0 : Nat) (a1 a2 a3 : Int) (A4 : Option Addr) (n4 c4 : Nat) (w : World) :
 CallsIn Fence.wide n Try.prog 54 #[.agg #[.slice A0 n0 c0, .int .i64 a1, .int .i64 a2, .int .i64 a3, .slice A4 n4 c4]] w fun e w' =>
  e = .returned (.func (.func 73) #[] #[.pointer (some ⟨w.heap.size, 0, none⟩)]) ∧ w' = w.alloc (.cells #[.slice A0 n0 c0, .int .i64 a1, .int .i64 a2, .int .i64 a3, .slice A4 n4 c4] 25) := by
 refine callsIn_of_wp Try.func54 rfl trivial ?_ rfl; simp only [Try.ntmps54, List.size_toArray, List.length_cons, List.length_nil, Nat.reduceAdd, Nat.reduceSub, Array.replicate_succ, Array.replicate_zero, List.push_toArray, List.append_toArray, List.nil_append, List.cons_append]
 gi_wp2
 go_ret
 exact ⟨rfl, rfl⟩
set_option maxRecDepth 100000 in
set_option maxHeartbeats 2000000 in
theorem FC (n : Nat) (hn : 1 ≤ n) (l Bn n₀ : Nat) (A0 : Option Addr) (c0 : Nat) (l0 : List S66) (a1 a2 a3 : Int) (A4 : Option Addr) (c4 : Nat) (l4 : List (List S27)) (h4 : l4.length ≤ 8) (hs : ∀ i : Nat, i < l0.length → (aX l0 (i : Int)).f1.length ≤ 8)
 (w0 : World) (hn₀ : w0.heap.size ≤ n₀) (hr0 : Kd.C k66 w0 A0 l0.length l0) (hr4 : Kd.C (Kd.slice 27 k27) w0 A4 l4.length l4)
 (J Jx : List (Fin l0.length) → World → Prop) (W : World) (hJ : AbidesFrom W.heap.size J) (hJx : AbidesFrom W.heap.size Jx)
 (hY : ∀ pre x W1, J pre W1 → pre.length < l0.length → YieldAt Fence.wide (n - 1) Try.prog l (Fy a1 a2 l0 l4 x) W1 fun e W' =>
   (e = .returned (.bool true) ∧ J (pre ++ [x]) W' ∧ KpB n₀ Bn W1 W') ∨ (e = .returned (.bool false) ∧ Jx (pre ++ [x]) W'))
 (hw : Below w0.heap.size w0 W) (hBn : W.heap[Bn]? = some (.cells #[.slice A0 l0.length c0, .int .i64 a1, .int .i64 a2, .int .i64 a3, .slice A4 l4.length c4] 25 (0, 0))) (hn0 : n₀ ≤ W.heap.size) (h0 : J [] W) :
 CallsIn Fence.wide n Try.prog 73 #[.func (.yield l) #[] #[], .pointer (some ⟨Bn, 0, none⟩)] W fun e W' => (∃ v, e = .returned v) ∧
  ((∃ ys, ys = List.finRange l0.length ∧ J ys W') ∨ (∃ pre, pre <+: List.finRange l0.length ∧ Jx pre W')) := by
 refine callsIn_of_wp Try.func73 rfl trivial ?_ rfl; simp only [Try.ntmps73, List.size_toArray, List.length_cons, List.length_nil, Nat.reduceAdd, Nat.reduceSub, Array.replicate_succ, Array.replicate_zero, List.push_toArray, List.append_toArray, List.nil_append, List.cons_append]; have hz0 : W.cell? ⟨Bn, 0, none⟩ = some (.slice A0 l0.length c0) := (av hBn 0).trans rfl; have HR0 := aa.mk hr0; have HR4 := aa.mk hr4; have HS := aa.mk hs; have hl0 : l0.length ≤ 9223372036854775807 := hr0.2.1; clear hr0 hr4 hs
 gi_wp2
 gi_loopw [8] (fun i wr => ∃ k : Nat, k ≤ l0.length ∧ i = .int .i64 k ∧ aa (J ((List.finRange l0.length).take k) wr) ∧ aa (KpB n₀ Bn W wr))
  (fun i _ => l0.length - (intOf i).toNat)
 case atStart => exact ⟨0, Nat.zero_le _, rfl, ⟨by simpa using h0⟩, ⟨KpB.refl _ _ _⟩⟩
 case round =>
  clear hz0; obtain ⟨k, hk, rfl, HJ, HK⟩ := hrel; by_cases hlt : k < l0.length
  ·have HBw := aa.mk (hw.trans (HK.out.1.mono hn₀)); obtain ⟨ad, A2, c2, e, hx0, hx1, hx2, hl2, hi2⟩ := oF HR0.out k (by omega) (by omega); cases e; rw [Int.toNat_natCast] at hx0 hx1 hx2; replace hx0 := (HBw.out.cell (World.block_lt_of_cell? w0 _ hx0)).trans hx0; replace hx1 := (HBw.out.cell (World.block_lt_of_cell? w0 _ hx1)).trans hx1; replace hx2 := (HBw.out.cell (World.block_lt_of_cell? w0 _ hx2)).trans hx2; have HI2 := aa.mk hi2; clear hi2; (have hd : decide (k < l0.length) = true := by simp; omega); have hB := HK.out.2 _ hBn rfl; have hz0 : wr.cell? ⟨Bn, 0, none⟩ = some (.slice (some ad) l0.length c0) := (av hB 0).trans rfl; have hz1 : wr.cell? ⟨Bn, 1, none⟩ = some (.int .i64 a1) := (av hB 1).trans rfl; have hz2 : wr.cell? ⟨Bn, 2, none⟩ = some (.int .i64 a2) := (av hB 2).trans rfl; have hz3 : wr.cell? ⟨Bn, 3, none⟩ = some (.int .i64 a3) := (av hB 3).trans rfl; have hz4 : wr.cell? ⟨Bn, 4, none⟩ = some (.slice A4 l4.length c4) := (av hB 4).trans rfl; have hlt1 : Bn < wr.heap.size := bf hB
   gi_wp2_with (fail)
   refine ⟨trivial, ?_⟩; refine (callsIn_wide.2 (nu.calls (some ad) c0 l0.length a1 a2 a3 A4 c4 l4 _ _ A2 c2 (aX l0 (k : Int)).f1 _ ?_ ?_ h4 (HS.out k hlt))).mono ?_
   ·exact Kd.cu (Kd.cu HR4.out HBw.out) (ah (Below.refl _ _) _)
   ·exact Kd.cu (Kd.cu HI2.out HBw.out) (ah (Below.refl _ _) _)
   rintro e w1 ⟨rfl, hb⟩; have hbw : Below wr.heap.size wr w1 := eY (ah (Below.refl _ _) _) (by simp) hb; have hsz := HK.out.1.size; have HJ1 := hJ _ _ _ none HJ.out (gp hbw none) (by simp); have HK1 := aa.mk (show KpB n₀ Bn W w1 from HK.out.trans ⟨hbw.mono (Nat.le_trans hn0 hsz), fun o ho _ => (hbw.block _ (bf ho)).trans ho⟩); obtain ⟨fn, tmps, assign, body, hy, hR⟩ := hY _ ⟨k, hlt⟩ w1 HJ1 (by simp; omega); dsimp only [Fy, bP] at hy; clear hb hbw hsz HJ1 HJ HK hx0 hx1 hx2 hz0 hz1 hz2 hz3 hz4 hlt1 hB
   gi_wp2
   have ht : List.take (k + 1) (List.finRange l0.length) = List.take k (List.finRange l0.length) ++ [⟨k, hlt⟩] := by
    rw [List.take_succ_eq_append_getElem (by simpa using hlt)]; simp
   have HT := aa.mk ht; clear ht; refine hR.mono ?_; rintro e W3 (⟨rfl, hJ3, hk3⟩ | ⟨rfl, hJx3⟩)
   ·have HJ3 := aa.mk hJ3; have HK3 := aa.mk hk3; clear hJ3 hk3
    gi_wp2
    go_roundw
    (case rel => exact ⟨k + 1, by omega, by go_num, ⟨by rw [HT.out]; exact HJ3.out⟩, ⟨HK1.out.trans HK3.out⟩⟩); case measure => simp [intOf]; omega
   ·have HJx3 := aa.mk hJx3; clear hJx3
    gi_wp2
    refine bodyPost_ret (results_none rfl _ _ _) rfl ?_; exact ⟨⟨_, rfl⟩, .inr ⟨_, ⟨_, List.take_append_drop (k + 1) _⟩, by rw [HT.out]; exact HJx3.out⟩⟩
  ·(obtain rfl : k = l0.length := by omega); have hd : decide (l0.length < l0.length) = false := by simp
   gi_wp2
   go_end0
   exact ⟨⟨_, rfl⟩, .inl ⟨_, rfl, by have := HJ.out; rwa [List.take_of_length_le (by simp)] at this⟩⟩
theorem pK (n : Nat) (hn : 1 ≤ n) (Bn n₀ : Nat) (A0 : Option Addr) (c0 : Nat) (l0 : List S66) (a1 a2 a3 : Int) (A4 : Option Addr) (c4 : Nat) (l4 : List (List S27)) (h4 : l4.length ≤ 8) (hs : ∀ i : Nat, i < l0.length → (aX l0 (i : Int)).f1.length ≤ 8)
 (w0 w : World) (hn₀ : w0.heap.size ≤ n₀) (hr0 : Kd.C k66 w0 A0 l0.length l0) (hr4 : Kd.C (Kd.slice 27 k27) w0 A4 l4.length l4) (hw : Below w0.heap.size w0 w) (hn0 : n₀ ≤ w.heap.size)
 (hBn : w.heap[Bn]? = some (.cells #[.slice A0 l0.length c0, .int .i64 a1, .int .i64 a2, .int .i64 a3, .slice A4 l4.length c4] 25 (0, 0))) :
 SeqStopsK Fence.wide n Try.prog 73 #[.pointer (some ⟨Bn, 0, none⟩)] (Fy a1 a2 l0 l4) (KpB n₀ Bn) (fun ys => ys = List.finRange l0.length) (fun pre => pre <+: List.finRange l0.length) l0.length w := fun l J Jx W hW hJ hJx hY h0 =>
 FC n hn l Bn n₀ A0 c0 l0 a1 a2 a3 A4 c4 l4 h4 hs w0 hn₀ hr0 hr4 J Jx W hJ hJx hY (eY hw hw.size hW) ((hW.block _ (bf hBn)).trans hBn) (Nat.le_trans hn0 hW.size) h0
theorem I8 {n₀ Bn : Nat} : ∀ {A B C : World}, KpB n₀ Bn A B → KpB n₀ Bn B C → KpB n₀ Bn A C := fun h k => h.trans k
theorem Je {n₀ Bn : Nat} {w : World} (h : n₀ ≤ w.heap.size) : ∀ (W : World) (l : Nat) (o o' : Obj), w.heap.size ≤ l → W.heap[l]? = some o → o.isCells = false → o.isWalk = false → KpB n₀ Bn W (W.putObj l o') := fun W l o o' hl ho hc hwk =>
 ⟨belowK_b h W l o o' hl ho hc hwk, fun o2 h2 hc2 => (World.putObj_heap_other (fun e => by subst e; rw [ho] at h2; cases h2; rw [hc] at hc2; cases hc2)).trans h2⟩
end Go.Proofs.Ytihedeofkhapiaa.Pr
end
