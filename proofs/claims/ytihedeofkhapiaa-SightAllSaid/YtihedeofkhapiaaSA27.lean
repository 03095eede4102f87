/- Part 27 of 34 of the proof of: SightAll: for every slice of numbers, the law returns true: of a slim line made of them, the letters and hands that the program tells are just those of the truths found by going through all choices, and its marks are the fewest of any truth; no condition beyond the statement's own. -/
import Derived.RegionTactic
import Derived.Deep.LoopGhost
import Derived.Deep.Cut
import Derived.Deep.DeepCutAuto
import Derived.Deep.RegionWith
import Derived.Deep.RegionHeld3
import Derived.Test.YtihedeofkhapiaaSA22
import Derived.Test.YtihedeofkhapiaaSA26
set_option linter.unusedVariables false
set_option linter.unusedSimpArgs false
section
namespace Go.Proofs.Ytihedeofkhapiaa.Pr
open Go.RowKit Go.Proofs.YtihedeofkhapiaaW.PrintWords Go.Proofs.YtihedeofkhapiaaW.PrintLast Go.Proofs.YtihedeofkhapiaaW.PrintMore
def ug (gs gl i : Int) (s : S86) : Bool := if gs = i then (s.f0 == gl) else true
def fE (gs gl : Int) (m : List Int) (i : Nat) (sh : List S86) : Nat → Int
 | 0 => fV
 | k + 1 => if ug gs gl i (bn sh (k : Int)) = true then mn (fE gs gl m i sh k) (m.getD (i * 8 + k) 0) else fE gs gl m i sh k
def dZ (gs gl : Int) (m : List Int) (sh : List S86) : Nat → List Int × Int
 | 0 => (List.replicate 8 0, 0)
 | i + 1 => ((dZ gs gl m sh i).1.set i (fE gs gl m i sh sh.length), wrap64 ((dZ gs gl m sh i).2 + fE gs gl m i sh sh.length))
theorem gT (gs gl : Int) (m : List Int) (sh : List S86) : ∀ i, (dZ gs gl m sh i).1.length = 8
 | 0 => by simp [dZ]
 | i + 1 => by rw [dZ, List.length_set, gT gs gl m sh i]
theorem ol (gs gl i : Int) (s : S86) (w : World) : Calls Try.prog 75 #[.agg #[.int .i64 gs, .int .u8 gl], .int .i64 i, .agg #[.int .u8 s.f0, .int .i64 s.f1]] w fun e w' => e = .returned (.bool (ug gs gl i s)) ∧ Below w.heap.size w w' := by
 refine jV.calls gs gl i s.f0 s.f1 _ w ?_; unfold jV.f ug; split <;> rfl
theorem Fe (a b : Int) : bq.f 2 a [b] = some (mn a b) := by
 simp only [bq.f, bq.l0]; rw [if_pos (by simp), if_pos (by decide), if_pos (by simp)]; rw [show wrap64 (0 + 1) = 1 from by unfold wrap64; omega]; rw [if_neg (by simp)]; rfl
theorem Q3 {W : World} {g : Nat} {v : Int} (h : W.cell? ⟨g, 0, none⟩ = some (.int .i64 v)) : Kd.C (Kd.int .i64) W (some ⟨g, 0, none⟩) [v].length [v] := by
 refine ⟨rfl, by simp, fun _ => ⟨_, rfl, fun j p hp => ?_⟩⟩
 cases j with
 | zero =>
  simp at hp; subst hp; refine ⟨[.int .i64 v], rfl, rfl, fun i u hu => ?_⟩
  cases i with
  | zero =>
   simp at hu; subst hu; exact h
  | succ i => simp at hu
 | succ j => simp at hp
theorem uO (a b : Int) (g : Nat) (w : World) (h : w.cell? ⟨g, 0, none⟩ = some (.int .i64 b)) :
 Calls Try.prog 56 #[.int .i64 a, .slice (some ⟨g, 0, none⟩) 1 1] w fun e w' => e = .returned (.int .i64 (mn a b)) ∧ Below w.heap.size w w' :=
 bq.calls 2 a (some ⟨g, 0, none⟩) 1 [b] _ w (Q3 h) (by simp) (Fe a b)
def pm (w : World) (g : Nat) (m : List Int) : Prop := m.length = 8 ∧ w.heap[g]? = some (.cells (nums .i64 m).toArray 95 (0, 0))
theorem pm.below {w w1 : World} {g : Nat} {m : List Int} (h : pm w g m) (hb : Below w.heap.size w w1) : pm w1 g m := ⟨h.1, (hb.block g (bf h.2)).trans h.2⟩
theorem pm.set {w : World} {g : Nat} {m : List Int} (h : pm w g m) (j : Nat) (v : Int) : pm (w.setCell ⟨g, j, none⟩ (.int .i64 v)) g (m.set j v) := by
 refine ⟨by rw [List.length_set]; exact h.1, ?_⟩; rw [heap_setCell_same w g j _ _ _ h.2]; simp [nums, List.map_set]
theorem pm.cell {w : World} {g : Nat} {m : List Int} (h : pm w g m) (j : Nat) (hj : j < 8) : w.cell? ⟨g, j, none⟩ = some (.int .i64 (m.getD j 0)) := by
 rw [av h.2 j]; (have : j < m.length := by have := h.1; omega); simp [nums, List.getD_eq_getElem?_getD, List.getElem?_eq_getElem this]
theorem pm.frozen {w : World} {g : Nat} {m : List Int} (h : pm w g m) (j : Nat) : w.frozen? ⟨g, j, none⟩ = false := aK h.2 j
structure kN (w : World) (gs gl : Int) (A0 : Option Addr) (n0 c0 : Nat) (a1 a2 a3 : Int) (A4 : Option Addr) (n4 c4 : Nat) (m : List Int) (es : List Int) (wr : World) : Prop where
 given : wr.heap[w.heap.size]? = some (.cells #[.int .i64 gs, .int .u8 gl] 100 (0, 0))
 line : wr.heap[w.heap.size + 1]? = some (.cells #[.slice A0 n0 c0, .int .i64 a1, .int .i64 a2, .int .i64 a3, .slice A4 n4 c4] 25 (0, 0))
 arr : kC wr (w.heap.size + 1 + 1) m
 res : pm wr (w.heap.size + 1 + 1 + 1) es
 below : Below w.heap.size w wr
theorem kN.step {w : World} {gs gl : Int} {A0 : Option Addr} {n0 c0 : Nat} {a1 a2 a3 : Int} {A4 : Option Addr} {n4 c4 : Nat} {m es : List Int} {wr w1 : World}
 (h : kN w gs gl A0 n0 c0 a1 a2 a3 A4 n4 c4 m es wr) (hb : Below wr.heap.size wr w1) : kN w gs gl A0 n0 c0 a1 a2 a3 A4 n4 c4 m es w1 :=
 ⟨(hb.block _ (bf h.given)).trans h.given, (hb.block _ (bf h.line)).trans h.line, h.arr.below hb, h.res.below hb, eY h.below h.below.size hb⟩
theorem kN.put {w : World} {gs gl : Int} {A0 : Option Addr} {n0 c0 : Nat} {a1 a2 a3 : Int} {A4 : Option Addr} {n4 c4 : Nat} {m es : List Int} {wr : World}
 (h : kN w gs gl A0 n0 c0 a1 a2 a3 A4 n4 c4 m es wr) (j : Nat) (v : Int) : kN w gs gl A0 n0 c0 a1 a2 a3 A4 n4 c4 m (es.set j v) (wr.setCell ⟨w.heap.size + 1 + 1 + 1, j, none⟩ (.int .i64 v)) :=
 ⟨aM h.given (by simp; omega) _, aM h.line (by simp) _, h.arr.far (by simp) _, h.res.set j v, bK h.below (by omega)⟩
theorem zt (tmps : Array Value) (w : World) (g : Nat) (cs : Array Value) (x : Value) (h8 : tmps.getD 8 undef = .pointer (some ⟨g, 0, none⟩)) (h9 : tmps.getD 9 undef = x) (hg : w.heap[g]? = some (.cells cs 95 (0, 0))) (hi : (Try.prog.info? 95).map (·.size) = some cs.size) :
 (results Try.f55 tmps).run Try.prog w = .ok (.tuple #[.agg cs, x]) w := by
 (have h8' : tmps[8]?.getD undef = .pointer (some ⟨g, 0, none⟩) := by simpa using h8); (have h9' : tmps[9]?.getD undef = x := by simpa using h9); simp [results, Try.f55, h8', h9', asAddr, run_loadVar_row w g 95 95 cs (0, 0) _ hg Try.underlying95 rfl hi]
set_option maxHeartbeats 1000000 in
set_option maxRecDepth 100000 in
theorem sums.calls (gs gl : Int) (A0 : Option Addr) (c0 : Nat) (l0 : List S66) (a1 a2 a3 : Int) (A4 : Option Addr) (n4 c4 : Nat) (hand : Nat) (m : List Int) (w : World)
 (hr0 : Kd.C k66 w A0 l0.length l0) (hh : hand < l0.length) (hm : m.length = 64) (h4 : n4 ≤ 8) (hs : (aX l0 (hand : Int)).f1.length ≤ 8) :
 Calls Try.prog 55 #[.agg #[.int .i64 gs, .int .u8 gl], .agg #[.slice A0 l0.length c0, .int .i64 a1, .int .i64 a2, .int .i64 a3, .slice A4 n4 c4], .int .i64 hand, .agg (nums .i64 m).toArray] w fun e w' =>
  e = .returned (.tuple #[.agg (nums .i64 (dZ gs gl m (aX l0 (hand : Int)).f1 n4).1).toArray, .int .i64 (dZ gs gl m (aX l0 (hand : Int)).f1 n4).2]) ∧ Below w.heap.size w w' := by
 have hl0 : l0.length ≤ 9223372036854775807 := hr0.2.1; have HR0 := aa.mk hr0; obtain ⟨sh, hsh⟩ : ∃ sh, sh = (aX l0 (hand : Int)).f1 := ⟨_, rfl⟩; rw [← hsh]; rw [← hsh] at hs; have HSH := aa.mk hsh; have HM := aa.mk hm; clear hr0 hsh hm; go_enter Try.func55, Try.ntmps55; go_wp2; go_loopg [9, 16] n4 (fun g v9 v16 wr => ∃ i : Nat, i + g = n4 ∧ v16 = .int .i64 i ∧ v9 = .int .i64 (dZ gs gl m sh i).2 ∧ aa (kN w gs gl A0 l0.length c0 a1 a2 a3 A4 n4 c4 m (dZ gs gl m sh i).1 wr))
 case atStart =>
  refine ⟨0, by omega, rfl, rfl, ⟨⟨?_, ?_, ⟨HM.out, ?_⟩, ⟨by simp [dZ], ?_⟩, ah (ah (ah (ah (Below.refl _ _) _) _) _) _⟩⟩⟩
  ·exact bu (bu (bu (heap_alloc_new w _) _) _) _
  ·refine bu (bu ?_ _) _; have := heap_alloc_new (w.alloc (.cells #[.int .i64 gs, .int .u8 gl] 100)) (.cells #[.slice A0 l0.length c0, .int .i64 a1, .int .i64 a2, .int .i64 a3, .slice A4 n4 c4] 25); rw [World.size_alloc] at this; exact this
  ·refine bu ?_ _; have := heap_alloc_new ((w.alloc (.cells #[.int .i64 gs, .int .u8 gl] 100)).alloc (.cells #[.slice A0 l0.length c0, .int .i64 a1, .int .i64 a2, .int .i64 a3, .slice A4 n4 c4] 25)) (.cells (nums .i64 m).toArray 97 (0, 0)); rw [World.size_alloc, World.size_alloc] at this; exact this
  ·have := heap_alloc_new (((w.alloc (.cells #[.int .i64 gs, .int .u8 gl] 100)).alloc (.cells #[.slice A0 l0.length c0, .int .i64 a1, .int .i64 a2, .int .i64 a3, .slice A4 n4 c4] 25)).alloc (.cells (nums .i64 m).toArray 97 (0, 0))) (.cells (nums .i64 (List.replicate 8 0)).toArray 95 (0, 0)); rw [World.size_alloc, World.size_alloc, World.size_alloc] at this; exact this
 case round =>
  obtain ⟨i, hig, rfl, rfl, HS⟩ := hrel
  cases gk with
  | zero =>
   (obtain rfl : i = n4 := by omega); (have c1 : decide (i < i) = false := by simp); (have hin : (Try.prog.info? 95).map (·.size) = some 8 := by kernel_rfl); have hs8 : (nums .i64 (dZ gs gl m sh i).1).toArray.size = 8 := by simp [nums, gT]
   have hall : ((nums .i64 (dZ gs gl m sh i).1).toArray.all (·.oneCell')) = true := by
    rw [Array.all_eq_true_iff_forall_mem]; intro v hv; simp only [nums, List.mem_toArray, List.mem_map] at hv; obtain ⟨x, _, rfl⟩ := hv; rfl
   have HIN := aa.mk hin; have H8 := aa.mk hs8; have HA := aa.mk hall; clear hin hs8 hall
   go_wp2_with (first
    | (refine wpList_load_row rfl 95 (.tmp 8) rfl (w.heap.size + 1 + 1 + 1) rfl 95 _ (0, 0) _ HS.out.res.2 Try.underlying95 rfl (by rw [H8.out]; exact HIN.out) ?_)
    | (refine wpList_store_row rfl 95 (.tmp 8) (.tmp 56) rfl (w.heap.size + 1 + 1 + 1) _ rfl rfl 95 _ HS.out.res.2 (by rw [H8.out]; exact HIN.out) rfl HA.out ?_))
   refine bodyPost_ret (zt _ _ (w.heap.size + 1 + 1 + 1) (nums .i64 (dZ gs gl m sh i).1).toArray _ rfl rfl (setRow_heap _ _ _ _ _ _ HS.out.res.2) (by rw [H8.out]; exact HIN.out)) rfl ?_; exact ⟨rfl, HS.out.below.os, HS.out.below.tape, HS.out.below.output, by rw [size_setRow]; exact HS.out.below.size, fun j hj => by rw [setRow_other _ _ _ _ (by omega)]; exact HS.out.below.block j hj⟩
  | succ g =>
   (have c1 : decide (i < n4) = true := by simp; omega); (have b1 : (i : Int) < 8 := by omega); (have b3 : i < 8 := by omega); have hc := HS.out.res.cell i (by omega); have hf := HS.out.res.frozen i; obtain ⟨ad, A2, c2, e, hx0, hx1, hx2, hl2, hi2⟩ := oF HR0.out hand (by omega) (by omega); cases e; rw [Int.toNat_natCast] at hx0 hx1 hx2; rw [← HSH.out] at hx2 hl2 hi2; have HI2 := aa.mk hi2; have HX2 := aa.mk hx2; clear hi2 hx0 hx1 hx2; (go_upto_region 5 with (fail)); refine xW (fun W => kN w gs gl (some ad) l0.length c0 a1 a2 a3 A4 n4 c4 m ((dZ gs gl m sh i).1.set i fV) W) (HS.out.put i fV) ?_; intro W hM; have HM2 := aa.mk hM; clear hM HS hc hf; have hz : W.cell? ⟨w.heap.size + 1, 0, none⟩ = some (.slice (some ad) l0.length c0) := (av HM2.out.line 0).trans rfl; have hx2 := (HM2.out.below.cell (World.block_lt_of_cell? w _ HX2.out)).trans HX2.out; (go_wp2_with (fail)); (go_loopg [28] sh.length (fun g2 v28 wr => ∃ k : Nat, k + g2 = sh.length ∧ v28 = .int .i64 k ∧ aa (kN w gs gl (some ad) l0.length c0 a1 a2 a3 A4 n4 c4 m ((dZ gs gl m sh i).1.set i (fE gs gl m i sh k)) wr))); case atStart => exact ⟨0, by omega, rfl, HM2⟩
   case round =>
    clear hz hx2 HM2; obtain ⟨k, hkg, rfl, HS⟩ := hrel
    cases gk with
    | zero =>
     (obtain rfl : k = sh.length := by omega); have hc := HS.out.res.cell i (by omega)
     rw [show ((dZ gs gl m sh i).1.set i (fE gs gl m i sh sh.length)).getD i 0 = fE gs gl m i sh sh.length from by
      rw [List.getD_eq_getElem?_getD, List.getElem?_set_self (by rw [gT]; omega)]; rfl] at hc
     (go_wp2_with fail); go_roundg g; case measure => omega
     case rel =>
      refine ⟨i + 1, by omega, by go_num, ?_, HS⟩; rfl
    | succ g2 =>
     (have c2 : decide (k < sh.length) = true := by simp; omega); obtain ⟨bd, e, hx0, hx1⟩ := lS HI2.out k (by omega) (by omega); cases e; rw [Int.toNat_natCast] at hx0 hx1; replace hx0 := (HS.out.below.cell (World.block_lt_of_cell? w _ hx0)).trans hx0; replace hx1 := (HS.out.below.cell (World.block_lt_of_cell? w _ hx1)).trans hx1; (have b2 : (k : Int) < 8 := by omega); (have b4 : k < 8 := by omega); have hg0 : wr.cell? ⟨w.heap.size, 0, none⟩ = some (.int .i64 gs) := (av HS.out.given 0).trans rfl; have hg1 : wr.cell? ⟨w.heap.size, 1, none⟩ = some (.int .u8 gl) := (av HS.out.given 1).trans rfl; have hlt : w.heap.size + 1 + 1 + 1 < wr.heap.size := bf HS.out.res.2; have hlt0 : w.heap.size < wr.heap.size := by omega
     go_upto_block 3 with (fail)
     go_cut [] (fun wc => aa (kN w gs gl (some ad) l0.length c0 a1 a2 a3 A4 n4 c4 m ((dZ gs gl m sh i).1.set i (fE gs gl m i sh (k + 1))) wc))
     case rest =>
      clear HS hx0 hx1 hlt hlt0 hg0 hg1; (go_wp2_with (fail)); go_roundg g2; (case measure => omega); case rel => exact ⟨k + 1, by omega, by go_num, hcut⟩
     case first =>
     (go_wp2_with (fail)); refine (ol gs gl i (bn sh k) _).mono ?_; rintro e w1 ⟨rfl, hb⟩; have HS1 := aa.mk (HS.out.step (eY (ah (Below.refl _ _) _) (by simp) hb)); clear hb HS hx0 hx1 hlt hlt0 hg0 hg1
     cases hmay : ug gs gl i (bn sh (k : Int)) with
     | false =>
      have HY := aa.mk hmay; clear hmay; (go_wp2_with (fail)); go_meet; case rel => exact ⟨by rw [fE, HY.out, if_neg (by decide)]; exact HS1.out⟩
     | true =>
      have HY := aa.mk hmay; clear hmay; have hc := HS1.out.res.cell i (by omega)
      rw [show ((dZ gs gl m sh i).1.set i (fE gs gl m i sh k)).getD i 0 = fE gs gl m i sh k from by
       rw [List.getD_eq_getElem?_getD, List.getElem?_set_self (by rw [gT]; omega)]; rfl] at hc
      have hf := HS1.out.res.frozen i; have hn := HS1.out.arr.cell (i * 8 + k) (by omega); have hlt : w.heap.size + 1 + 1 + 1 < w1.heap.size := bf HS1.out.res.2
      have HC : aa (Calls Try.prog 56 #[.int .i64 (fE gs gl m i sh k), .slice (some ⟨w1.heap.size, 0, none⟩) 1 1] (w1.alloc (.cells #[.int .i64 (m[i * 8 + k]?.getD 0)] 3)).drew fun e w' =>
       e = .returned (.int .i64 (mn (fE gs gl m i sh k) (m[i * 8 + k]?.getD 0))) ∧ kN w gs gl (some ad) l0.length c0 a1 a2 a3 A4 n4 c4 m ((dZ gs gl m sh i).1.set i (fE gs gl m i sh k)) w') := by
       refine ⟨(uO _ (m[i * 8 + k]?.getD 0) _ _ ?_).mono ?_⟩
       ·exact (World.cell?_alloc_at _ _ _ _ rfl).trans rfl
       ·rintro e w2 ⟨rfl, hb⟩; exact ⟨rfl, HS1.out.step (eY (bQ (ah (Below.refl _ _) _)) (by simp [World.drew]) hb)⟩
      (go_upto_region 9 with (fail)); go_region_with (go_at_call 56; refine HC.out.mono ?_; rintro e w2 ⟨rfl, HS2⟩; have hc2 := HS2.res.cell i (by omega); have hf2 := HS2.res.frozen i; have HS3 := aa.mk HS2; clear HS2)
      all_goals
       go_wp2_with (fail)
       go_meet
       case rel =>
        refine ⟨?_⟩; have h := HS3.out.put i (mn (fE gs gl m i sh k) (m[i * 8 + k]?.getD 0)); rw [List.set_set] at h; rw [fE, HY.out, if_pos rfl, List.getD_eq_getElem?_getD]; exact h
end Go.Proofs.Ytihedeofkhapiaa.Pr
end
