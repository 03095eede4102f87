/- Part 35 of 36 of the proof of: SightLooks: for every line and slice of numbers, the law returns true: the program tells which letter would be best to be known, and how many letters may still fit then, as the reference does, with the same error, and changes nothing; no condition beyond the statement's own. -/
import Derived.Outline
import Derived.IntWalk
import Derived.Deep.QuietTactic
import Derived.BigQuiet
import Derived.Deep.RegionHeld3
import Derived.Deep.DeepCutAuto
import Derived.Deep.CutRange
import Derived.Test.YtihedeofkhapiaaSO21
import Derived.Test.YtihedeofkhapiaaSO22
import Derived.Test.YtihedeofkhapiaaSO23
import Derived.Test.YtihedeofkhapiaaSO26
import Derived.Test.YtihedeofkhapiaaSO33
import Derived.Test.YtihedeofkhapiaaSO34
set_option linter.unusedVariables false
set_option linter.unusedSimpArgs false
section
namespace Go.Proofs.Ytihedeofkhapiaa.Pr
open Go.RowKit Go.Proofs.YtihedeofkhapiaaW.PrintWords Go.Proofs.YtihedeofkhapiaaW.PrintLast Go.Proofs.YtihedeofkhapiaaW.PrintMore
def uz (k : Nat) (hs : List S66) (W S t : Int) (sq : List (List S27)) : Prop :=
 kC hs sq ∧ aC.f k hs W S t sq = some (hs, W, S, t, sq) ∧ ∃ (la ln le : Int), sI hs W S t sq = ((la, ln), le) ∧ bq.f k hs W S t sq = some (la, ln, le)
def KI (k : Nat) (W0 : World) (g i : Nat) : Prop :=
 ∃ (A : Option Addr) (c : Nat) (hs : List S66) (W S t : Int) (B : Option Addr) (d : Nat) (sq : List (List S27)),
  (W0.cell? ⟨g, i * 5, none⟩ = some (.slice A hs.length c) ∧ W0.cell? ⟨g, i * 5 + 1, none⟩ = some (.int .i64 W) ∧ W0.cell? ⟨g, i * 5 + 2, none⟩ = some (.int .i64 S) ∧ W0.cell? ⟨g, i * 5 + 3, none⟩ = some (.int .i64 t) ∧ W0.cell? ⟨g, i * 5 + 4, none⟩ = some (.slice B sq.length d)) ∧
  Kd.C k66 W0 A hs.length hs ∧ hs.length ≤ c ∧ Kd.C (Kd.slice 27 k27) W0 B sq.length sq ∧ sq.length ≤ d ∧ uz k hs W S t sq
theorem yj {W W' : World} (hb : Below W.heap.size W W') {a0 a1 a2 a3 a4 : Addr} {v0 v1 v2 v3 v4 : Value} (h : W.cell? a0 = some v0 ∧ W.cell? a1 = some v1 ∧ W.cell? a2 = some v2 ∧ W.cell? a3 = some v3 ∧ W.cell? a4 = some v4) :
 W'.cell? a0 = some v0 ∧ W'.cell? a1 = some v1 ∧ W'.cell? a2 = some v2 ∧ W'.cell? a3 = some v3 ∧ W'.cell? a4 = some v4 := by
 obtain ⟨h0, h1, h2, h3, h4⟩ := h; exact ⟨(hb.cell (World.block_lt_of_cell? _ _ h0)).trans h0, (hb.cell (World.block_lt_of_cell? _ _ h1)).trans h1, (hb.cell (World.block_lt_of_cell? _ _ h2)).trans h2, (hb.cell (World.block_lt_of_cell? _ _ h3)).trans h3, (hb.cell (World.block_lt_of_cell? _ _ h4)).trans h4⟩
section
variable {A1 : Option Addr} {c1 : Nat} {hs : List S66} {W S t : Int} {A4 : Option Addr} {c4 : Nat} {sq : List (List S27)} {w : World}
theorem MW {la ln le : Int} (h : sI hs W S t sq = ((la, ln), le)) (hh : Kd.C k66 w A1 hs.length hs) (hr : Kd.C (Kd.slice 27 k27) w A4 sq.length sq) :
 Calls Try.prog 46 #[.agg #[.slice A1 hs.length c1, .int .i64 W, .int .i64 S, .int .i64 t, .slice A4 sq.length c4]] w fun e w' => e = .returned (.tuple #[.int .i64 la, .int .i64 ln, .int .i64 le]) ∧ Below w.heap.size w w' := by
 have := Sg A1 c1 hs W S t A4 c4 sq w hh hr
 rwa [h] at this
end
def vW.T11 : Bool × List (List Nat × List Nat) := (true, [([], []), ([], []), ([0, 1], [0, 1]), ([2], [2]), ([3], [3]), ([3], [3]), ([4, 5, 3], [3, 4, 5]), ([3, 6], [3, 6]), ([7, 3], [7]), ([8], [8]), ([8], [8]), ([9, 10, 8], [8, 9, 10]), ([8, 11], [8, 11]), ([12, 8], [12]), ([13], [13]), ([13], [13]), ([13], [13]), ([15, 16, 13], [13, 15, 16]), ([17, 13], [13, 17]), ([14, 18, 13, 13], [13, 14, 18]), ([19, 13], [13, 19]), ([13, 20], [13, 20])])
def vW.B11 : List Nat := [0, 0, 3, 7, 15, 15, 63, 127, 255, 511, 511, 2047, 4095, 8191, 16383, 16383, 16383, 114687, 245759, 524287, 1048575, 2097151]
theorem vW.Rm : mr .any (opsOf Try.f11 11) = vW.T11 := by kernel_rfl
theorem vW.J8 : lL vW.T11.2 vW.B11 = true := by kernel_rfl
set_option maxRecDepth 100000 in
set_option maxHeartbeats 8000000 in
theorem IE (k : Nat) (A0 B0 An : Option Addr) (c0 d0 cn : Nat) (hs : List S66) (W S t : Int) (sq : List (List S27)) (ns : List Int) (a b : Int) (mh : List S66) (mw ms mt : Int) (mq : List (List S27)) (cut : Int) (txt : ByteArray) (vis : List Int) (y0 y1 : Int) (w : World)
 (hh : Kd.C k66 w A0 hs.length hs) (hhc : hs.length ≤ c0) (hr : Kd.C (Kd.slice 27 k27) w B0 sq.length sq) (hrc : sq.length ≤ d0) (hn : Kd.C (Kd.int .i64) w An ns.length ns) (hnc : ns.length ≤ cn)
 (h1 : dE.f k = some true) (h2 : lm.f ns = some (a, b)) (h3 : ag.f k a b 3 4 4 = some (mh, mw, ms, mt, mq, cut, txt, vis, y0, y1))
 (hA : kC hs sq → uz k hs W S t sq) (hM : uz k mh mw ms mt mq) :
 Calls Try.prog 11 #[.agg #[.slice A0 hs.length c0, .int .i64 W, .int .i64 S, .int .i64 t, .slice B0 sq.length d0], .slice An ns.length cn] w fun e w' => e = .returned (.bool true) ∧ Below w.heap.size w w' := by
 have HH := aa.mk hh; have HHC := aa.mk hhc; have HR := aa.mk hr; have HRC := aa.mk hrc; have HN := aa.mk hn; have HNC := aa.mk hnc; have F1 := aa.mk h1; have F2 := aa.mk h2; have F3 := aa.mk h3; have HPA := aa.mk hA; have HPM := aa.mk hM; clear hh hhc hr hrc hn hnc h1 h2 h3 hA hM; go_enter Try.func11, Try.ntmps11; (go_upto_region 1 with (fail)); obtain ⟨W1, hW1⟩ : ∃ W1, W1 = w.alloc (.cells #[.slice A0 hs.length c0, .int .i64 W, .int .i64 S, .int .i64 t, .slice B0 sq.length d0] 25) := ⟨_, rfl⟩; have HB1 := aa.mk (show Below w.heap.size w W1 by rw [hW1]; exact aH (Below.refl _ _) _); have BL1 := aa.mk (show W1.heap[w.heap.size]? = some (.cells #[.slice A0 hs.length c0, .int .i64 W, .int .i64 S, .int .i64 t, .slice B0 sq.length d0] 25 (0, 0)) by rw [hW1]; exact heap_alloc_new w _); rw [← hW1]; clear hW1; go_cut [28] (fun v28 wc => ∃ bz : Bool, v28 = .bool bz ∧ aa (bz = false → kC hs sq) ∧ aa (Below w.heap.size w wc) ∧ aa (wc.heap[w.heap.size]? = some (.cells #[.slice A0 hs.length c0, .int .i64 W, .int .i64 S, .int .i64 t, .slice B0 sq.length d0] 25 (0, 0))))
 case first =>
  obtain ⟨b0, b1, b2, b3, b4, _, _, _, _, _⟩ := cells5 BL1.out; (go_wp2_with (fail)); refine (ND A0 c0 hs W S t B0 d0 sq _ (Kd.aY HH.out HB1.out) (Kd.aY HR.out HB1.out)).mono ?_; rintro e w2 ⟨bb, rfl, hbb, hb⟩; have HB2 := aa.mk (ax HB1.out hb); have BL2 := aa.mk (au BL1.out hb); have HSM := aa.mk hbb; clear b0 b1 b2 b3 b4 hb hbb HB1 BL1; obtain ⟨b0, b1, b2, b3, b4, _, _, _, _, _⟩ := cells5 BL2.out
  cases bb with
  | true =>
   go_wp2; go_meet; case rel => exact ⟨true, rfl, ⟨fun h => by cases h⟩, HB2, BL2⟩
  | false =>
   have HP1 := aa.mk (HSM.out rfl); clear HSM; by_cases h4 : 4 < sq.length
   ·have d1 : decide (4 < (sq.length : Int)) = true := decide_eq_true (by omega); have d2 : decide (4 < sq.length) = true := decide_eq_true h4; (have d3 : (4 : Int) < (sq.length : Int) := by omega); (go_wp2_with (fail)); refine (EW A0 c0 hs W S t B0 d0 sq _ (Kd.aY HH.out HB2.out) (Kd.aY HR.out HB2.out)).mono ?_; rintro e w3 ⟨rfl, hb⟩; replace HB2 := aa.mk (ax HB2.out hb); replace BL2 := aa.mk (au BL2.out hb); clear hb b0 b1 b2 b3 b4; obtain ⟨pc, hpc⟩ : ∃ pc, pc = eH hs W S t sq := ⟨_, rfl⟩; rw [← hpc]; clear hpc; by_cases hz : pc = 0
    ·(have z1 : (pc == 0) = true := by rw [hz]; rfl); (have z2 : (pc != 0) = false := by rw [hz]; rfl); clear hz; go_wp2; go_meet; case rel => exact ⟨true, rfl, ⟨fun h => by cases h⟩, HB2, BL2⟩
    ·have z1 : (pc == 0) = false := beq_eq_false_iff_ne.2 hz; have z2 : (pc != 0) = true := bne_iff_ne.2 hz; go_wp2; go_meet; case rel => exact ⟨false, rfl, ⟨fun _ => HP1.out⟩, HB2, BL2⟩
   ·have d1 : decide (4 < (sq.length : Int)) = false := decide_eq_false (by omega); have d2 : decide (4 < sq.length) = false := decide_eq_false h4; (have d3 : ¬ (4 : Int) < (sq.length : Int) := by omega); (have d4 : sq.length ≤ 4 := by omega); go_wp2; go_meet; case rel => exact ⟨false, rfl, ⟨fun _ => HP1.out⟩, HB2, BL2⟩
 case rest =>
  obtain ⟨bz, rfl, HSM, HB2, BL2⟩ := hcut; clear HB1 BL1
  cases bz with
  | true =>
   (go_wp2_with (fail)); refine (dE.calls k true _ F1.out).mono ?_; rintro e w3 ⟨rfl, hb⟩; go_wp2
   go_ret
   exact ⟨rfl, ax HB2.out hb⟩
  | false =>
  have HP1 := aa.mk (HPA.out (HSM.out rfl)); clear HPA HSM; (go_wp2_with (fail)); refine (lm.calls _ _ ns _ _ w _ HB2.out HN.out HNC.out F2.out).mono ?_; rintro e w3 ⟨g, rfl, hI, hB, hb3⟩; have HI1 := aa.mk hI; have HB3 := aa.mk hB; have BL3 := aa.mk (au BL2.out hb3); have NE1 := aa.mk (YL BL3.out HI1.out.1 (by decide)); clear hI hB hb3 BL2; (go_wp2_with (fail)); refine (ag.calls k g a b 3 4 4 _ _ _ _ _ _ _ _ _ _ w _ HI1.out HB3.out F3.out).mono ?_; rintro e w4 ⟨v0, v4, v7, rfl, ho0, ho1, ho2, hI, hB, hk⟩; obtain ⟨A1, c1, rfl⟩ := Kd.kr ho0; obtain ⟨B1, d1, rfl⟩ := Kd.kr ho1; obtain ⟨V1, e1, rfl⟩ := Kd.fM ho2; have HC1 := aa.mk (Kd.je ho0).2.1; have HD1 := aa.mk (Kd.je ho1).2.1; have MM1 := aa.mk (Kd.je ho0).2.2; have MM2 := aa.mk (Kd.je ho1).2.2; have HB4 := aa.mk hB; have BL4 := aa.mk (aj.blk hk BL3.out NE1.out (by simp)); clear hI hB ho0 ho1 ho2 hk HI1 HB3 BL3; (go_upto_region 4 with (fail)); obtain ⟨W5, hW5⟩ : ∃ W5, W5 = ((w4.alloc (.cells #[.slice A1 mh.length c1, .int .i64 mw, .int .i64 ms, .int .i64 mt, .slice B1 mq.length d1] 25)).alloc (.cells #[.int .i64 cut, .string txt, .slice V1 vis.length e1] 32)) := ⟨_, rfl⟩; have HB45 := aa.mk (show Below w4.heap.size w4 W5 by rw [hW5]; exact aH (aH (Below.refl _ _) _) _); have BM5 := aa.mk (show W5.heap[w4.heap.size]? = some (.cells #[.slice A1 mh.length c1, .int .i64 mw, .int .i64 ms, .int .i64 mt, .slice B1 mq.length d1] 25 (0, 0)) by rw [hW5]; exact cz (heap_alloc_new w4 _) _); rw [← hW5]; clear hW5; have HB5 := aa.mk (ax HB4.out HB45.out); have BL5 := aa.mk (au BL4.out HB45.out); have MA := aa.mk (Kd.aY MM1.out HB45.out); have MB := aa.mk (Kd.aY MM2.out HB45.out); obtain ⟨b0, b1, b2, b3, b4, _, _, _, _, _⟩ := cells5 BL5.out; obtain ⟨m0, m1, m2, m3, m4, _, _, _, _, _⟩ := cells5 BM5.out; clear BL4 MM1 MM2; (go_upto_region 5 with (fail)); obtain ⟨WA, hWA⟩ : ∃ WA, WA = W5.alloc (.cells #[.slice A0 hs.length c0, .int .i64 W, .int .i64 S, .int .i64 t, .slice B0 sq.length d0, .slice A1 mh.length c1, .int .i64 mw, .int .i64 ms, .int .i64 mt, .slice B1 mq.length d1] 25) := ⟨_, rfl⟩; have HWA := aa.mk (show Below W5.heap.size W5 WA by rw [hWA]; exact aH (Below.refl _ _) _); have BA := aa.mk (show WA.heap[W5.heap.size]? = some (.cells #[.slice A0 hs.length c0, .int .i64 W, .int .i64 S, .int .i64 t, .slice B0 sq.length d0, .slice A1 mh.length c1, .int .i64 mw, .int .i64 ms, .int .i64 mt, .slice B1 mq.length d1] 25 (0, 0)) by rw [hWA]; exact heap_alloc_new W5 _); rw [← hWA]; clear hWA b0 b1 b2 b3 b4 m0 m1 m2 m3 m4; have HBA := aa.mk (ax HB5.out HWA.out); have LA0 : KI k WA W5.heap.size 0 := ⟨A0, c0, hs, W, S, t, B0, d0, sq, ⟨(af BA.out 0).trans rfl, (af BA.out 1).trans rfl, (af BA.out 2).trans rfl, (af BA.out 3).trans rfl, (af BA.out 4).trans rfl⟩, Kd.aY HH.out HBA.out, HHC.out, Kd.aY HR.out HBA.out, HRC.out, HP1.out⟩; have LA1 : KI k WA W5.heap.size 1 := ⟨A1, c1, mh, mw, ms, mt, B1, d1, mq, ⟨(af BA.out 5).trans rfl, (af BA.out 6).trans rfl, (af BA.out 7).trans rfl, (af BA.out 8).trans rfl, (af BA.out 9).trans rfl⟩, Kd.aY MA.out HWA.out, HC1.out, Kd.aY MB.out HWA.out, HD1.out, HPM.out⟩
  have LA := aa.mk (show ∀ i : Nat, i < 2 → KI k WA W5.heap.size i by
   intro i hi; rcases i with _ | _ | i
   ·exact LA0
   ·exact LA1
   ·omega)
  obtain ⟨gA, hgA⟩ : ∃ gA, gA = W5.heap.size := ⟨_, rfl⟩; rw [← hgA] at LA BA; rw [← hgA]; clear LA0 LA1 hgA; go_wp2; clear BM5 BL5 MA MB BA HWA NE1 HC1 HD1 HB45 HB5 HB4 HPM HP1 HB2
  go_loopw [8, 9, 10, 11, 12, 13, 14, 15] (fun v8 v9 v10 v11 v12 v13 v14 v15 wr => ∃ j : Nat, j ≤ 2 ∧ v8 = .int .i64 j ∧ aa (Below WA.heap.size WA wr)) (fun v8 _ _ _ _ _ _ _ _ => 2 - (intOf v8).toNat)
  case atStart => exact ⟨0, by omega, rfl, ⟨Below.refl _ _⟩⟩
  case round =>
   obtain ⟨j, hj, rfl, HB⟩ := hrel; by_cases hjl : j < 2
   ·have hj1 : decide ((j : Int) < 2) = true := decide_eq_true (by omega); (have hjlt : (j : Int) < 2 := by omega); obtain ⟨A, c, lh, LW, LS, Lt, B, d, lq, he, hca, hcl, hcb, hdl, hok1, hok2, la, ln, le, x1, x2⟩ := LA.out j hjl; have E5 := aa.mk he; have KA := aa.mk hca; have KB := aa.mk hcb; have KC := aa.mk hcl; have KD := aa.mk hdl; have OK1 := aa.mk hok1; have OK2 := aa.mk hok2; have X1 := aa.mk x1; have X2 := aa.mk x2; clear he hca hcl hcb hdl hok1 hok2 x1 x2; obtain ⟨f0, f1, f2, f3, f4⟩ := yj HB.out E5.out; (go_wp2_with (fail)); refine (aC.calls k A c lh LW LS Lt B d lq lh LW LS Lt lq _ (Kd.aY KA.out HB.out) KC.out (Kd.aY KB.out HB.out) KD.out OK2.out).mono ?_; rintro e r1 ⟨vo0, vo4, rfl, ho0, ho1, hb⟩; obtain ⟨Ao, co, rfl⟩ := Kd.qW ho0; obtain ⟨Bo, do_, rfl⟩ := Kd.qW ho1; have OC := aa.mk (Kd.qy ho0).2.1; have OD := aa.mk (Kd.qy ho1).2.1; have OA := aa.mk (Kd.qy ho0).2.2; have OB := aa.mk (Kd.qy ho1).2.2; replace HB := aa.mk (ax HB.out hb); clear f0 f1 f2 f3 f4 hb ho0 ho1; (go_upto_region 9 with (fail)); obtain ⟨R2, hR2⟩ : ∃ R2, R2 = r1.alloc (.cells #[.slice Ao lh.length co, .int .i64 LW, .int .i64 LS, .int .i64 Lt, .slice Bo lq.length do_] 25) := ⟨_, rfl⟩; have hb := (show Below r1.heap.size r1 R2 by rw [hR2]; exact aH (Below.refl _ _) _); have BO := aa.mk (show R2.heap[r1.heap.size]? = some (.cells #[.slice Ao lh.length co, .int .i64 LW, .int .i64 LS, .int .i64 Lt, .slice Bo lq.length do_] 25 (0, 0)) by rw [hR2]; exact heap_alloc_new r1 _); rw [← hR2]; replace HB := aa.mk (ax HB.out hb); replace OA := aa.mk (Kd.aY OA.out hb); replace OB := aa.mk (Kd.aY OB.out hb); obtain ⟨gO, hgO⟩ : ∃ gO, gO = r1.heap.size := ⟨_, rfl⟩; rw [← hgO] at BO; rw [← hgO]; clear hR2 hb hgO; obtain ⟨p0, p1, p2, p3, p4, _, _, _, _, _⟩ := cells5 BO.out; (go_wp2_with (fail)); refine (bq.calls k Ao co lh LW LS Lt Bo do_ lq la ln le _ OA.out OC.out OB.out OD.out X2.out).mono ?_; rintro e r3 ⟨rfl, hb⟩; replace HB := aa.mk (ax HB.out hb); replace BO := aa.mk (au BO.out hb); replace OA := aa.mk (Kd.aY OA.out hb); replace OB := aa.mk (Kd.aY OB.out hb); clear hb p0 p1 p2 p3 p4; obtain ⟨f0, f1, f2, f3, f4⟩ := yj HB.out E5.out; (go_wp2_with (fail)); refine (MW X1.out (Kd.aY KA.out HB.out) (Kd.aY KB.out HB.out)).mono ?_; rintro e r4 ⟨rfl, hb⟩; replace HB := aa.mk (ax HB.out hb); replace BO := aa.mk (au BO.out hb); replace OA := aa.mk (Kd.aY OA.out hb); replace OB := aa.mk (Kd.aY OB.out hb); clear hb f0 f1 f2 f3 f4; obtain ⟨p0, p1, p2, p3, p4, _, _, _, _, _⟩ := cells5 BO.out; obtain ⟨f0, f1, f2, f3, f4⟩ := yj HB.out E5.out; (go_wp2_with (fail)); have T := aa.mk (show Below r4.heap.size r4 r4.drew from eF (Below.refl _ _)); refine qH (n := 22) (S := fun w' => w'.cell? ⟨gO, 0, none⟩ = some (.slice Ao lh.length co) ∧ w'.cell? ⟨gO, 1, none⟩ = some (.int .i64 LW) ∧ w'.cell? ⟨gO, 2, none⟩ = some (.int .i64 LS) ∧ w'.cell? ⟨gO, 3, none⟩ = some (.int .i64 Lt) ∧ w'.cell? ⟨gO, 4, none⟩ = some (.slice Bo lq.length do_) ∧ w'.cell? ⟨gA, j * 5, none⟩ = some (.slice A lh.length c) ∧ w'.cell? ⟨gA, j * 5 + 1, none⟩ = some (.int .i64 LW) ∧ w'.cell? ⟨gA, j * 5 + 2, none⟩ = some (.int .i64 LS) ∧ w'.cell? ⟨gA, j * 5 + 3, none⟩ = some (.int .i64 Lt) ∧ w'.cell? ⟨gA, j * 5 + 4, none⟩ = some (.slice B lq.length d)) (ds := []) (ba 22 0) (by kernel_rfl) rfl rfl ⟨p0, p1, p2, p3, p4, f0, f1, f2, f3, f4⟩ (fun bR => ?_); refine mg vW.Rm vW.J8 (fun HT_ HW_ => ?_); clear p0 p1 p2 p3 p4 f0 f1 f2 f3 f4; refine fU 0 65 (ba 22 1) HT_.out ?_; refine fU 1 66 (ba 22 3) HT_.out ?_; refine fU 2 67 (ba 22 7) HT_.out ?_; refine fU 3 68 (ba 22 15) HT_.out ?_; refine fU 4 69 (ba 22 31) HT_.out ?_; refine fU 5 70 (ba 22 63) HT_.out ?_; refine fU 6 71 (ba 22 127) HT_.out ?_; refine fU 7 72 (ba 22 255) HT_.out ?_; refine fU 8 73 (ba 22 511) HT_.out ?_; refine fU 9 74 (ba 22 1023) HT_.out ?_; refine fU 10 75 (ba 22 2047) HT_.out ?_; refine fU 11 76 (ba 22 4095) HT_.out ?_; refine fU 12 77 (ba 22 8191) HT_.out ?_; refine fU 13 78 (ba 22 16383) HT_.out ?_; refine tV 14 79 (ba 22 32767) HT_.out HW_.out bR ?_; refine fU 15 80 (ba 22 65535) HT_.out ?_; refine fU 16 81 (ba 22 131071) HT_.out ?_; refine fU 17 82 (ba 22 262143) HT_.out ?_; refine tV 18 83 (ba 22 524287) HT_.out HW_.out bR ?_; refine on_ 19 (some 84) (ba 22 1048575) HT_.out (fun K hK => ?_); refine yA Try.func23 (by kernel_rfl) rfl #[.agg #[.slice Ao lh.length co, .int .i64 LW, .int .i64 LS, .int .i64 Lt, .slice Bo lq.length do_], .agg #[.slice A lh.length c, .int .i64 LW, .int .i64 LS, .int .i64 Lt, .slice B lq.length d]] (by rfl) rfl rfl (by (simp only [List.map_toArray, List.map_cons, List.map_nil]); rfl) ?_; refine (J4 Ao A Bo B co c do_ d lh LW LS Lt lq _ (Kd.aY OA.out T.out) (Kd.aY OB.out T.out) (Kd.aY KA.out (ax HB.out T.out)) (Kd.aY KB.out (ax HB.out T.out)) OK1.out).mono ?_; rintro e s_ ⟨rfl, hb⟩; refine ⟨_, rfl, ?_⟩; replace T := aa.mk (ax T.out hb); clear hb; obtain ⟨p0, p1, p2, p3, p4, _, _, _, _, _⟩ := cells5 (au BO.out T.out); obtain ⟨f0, f1, f2, f3, f4⟩ := yj (ax HB.out T.out) E5.out; refine hK.out _ _ ⟨p0, p1, p2, p3, p4, f0, f1, f2, f3, f4⟩ (fun bR => ?_); clear hK K p0 p1 p2 p3 p4 f0 f1 f2 f3 f4; refine mD ?_; refine fU 20 85 (ba 22 2097151) HT_.out ?_; refine fU 21 86 (ba 22 4194303) HT_.out ?_; refine D9 HT_.out ?_; clear bR; go_wp2
    go_roundw
    (case rel => exact ⟨j + 1, by omega, by go_num, ⟨ax HB.out T.out⟩⟩); case measure => simp [intOf]; omega
   ·(obtain rfl : j = 2 := by omega); (have hj1 : decide (((2 : Nat) : Int) < 2) = false := by decide); (go_wp2_with (fail)); refine (dE.calls k true _ F1.out).mono ?_; rintro e r3 ⟨rfl, hb⟩; go_wp2
    go_ret
    exact ⟨rfl, ax (ax HBA.out HB.out) hb⟩
theorem Yr (L : List Int) (j : Nat) (h : j < L.length) (h0 : 0 ≤ L[j]) (h1 : L[j] < 256) : bt (strOfNums L) (j : Int) = L[j] := by
 (have hs : ((j : Int)).toNat < (strOfNums L).size := by rw [strOfNums_size]; omega); rw [bt, dif_pos hs]
 have e : (strOfNums L)[((j : Int)).toNat]'hs = UInt8.ofNat (L[j]).toNat := by
  simp [strOfNums, ByteArray.getElem_eq_getElem_data]
 rw [e, UInt8.toNat_ofNat']; omega
theorem Tz (gs gl W S t : Int) (hs : List S66) (sq : List (List S27)) (i : Nat) : ∀ y ∈ dz gs gl W S t hs sq i, 0 ≤ y ∧ y < 256 := fun y hy => by
 rw [dz, List.mem_filter] at hy; obtain ⟨n, hn, rfl⟩ := List.mem_map.1 hy.1; have := List.mem_range.1 hn; have e3 : Int.ofNat n = (n : Int) := rfl; omega
theorem Gn (gs gl W S t : Int) (hs : List S66) (sq : List (List S27)) (i : Nat) (hi : i < sq.length) : iX (fu gs gl W S t hs sq) (i : Int) = dz gs gl W S t hs sq i := by
 rw [iX, fu]; simp [List.getD_eq_getElem?_getD, hi]
theorem Aa (gs gl W S t : Int) (hs : List S66) (sq : List (List S27)) : (fu gs gl W S t hs sq).length = sq.length := by simp [fu]
section
variable {hs : List S66} {W S t : Int} {sq : List (List S27)}
theorem Ro (hc : eH hs W S t sq = 0) (h8 : sq.length ≤ 8) {x2 x3 x9 : Int} {i : Nat} (hi : i < sq.length) {c : Int} {L : List (List Int)} {n : Int} {X : List Int} {N a : Int} {r : Int × Int × Int}
 (hcont : Ev (fun k => bq.l1 k x2 x3 (i : Int) (mx x9 (gY W S t hs sq (i : Int) c sq.length)) L n (i : Int) X N (wrap64 (a + 1)) hs W S t sq) r) : ∀ (d b : Nat), b + d = sq.length →
 Ev (fun k => bq.l2 k x2 x3 (i : Int) x9 (gY W S t hs sq (i : Int) c b) L n (i : Int) X N a (fu (i : Int) c W S t hs sq) ((fu (i : Int) c W S t hs sq).length : Int) (b : Int) hs W S t sq) r := by
 intro d
 induction d with
 | zero =>
  intro b hb; (obtain rfl : b = sq.length := by omega); refine Ev.step (fun k => ?_) hcont; rw [bq.l2, if_neg (by rw [Aa]; omega)]
 | succ d ih =>
  intro b hb; (have hbl : b < sq.length := by omega); (have hw : wrap64 ((b : Int) + 1) = ((b + 1 : Nat) : Int) := by unfold wrap64; omega); refine Ev.step (fun k => ?_) (ih (b + 1) (by omega)); rw [bq.l2, if_pos (by rw [Aa]; omega), if_pos (by omega), if_pos (by rw [Aa]; omega)]; by_cases e : (b : Int) = (i : Int)
  ·rw [if_pos e, hw, gY, if_pos e]
  ·rw [if_neg e, hw, Gn _ _ _ _ _ _ _ b hbl, gY, if_neg e, xm hc hi c hbl (by omega)]; have h1 := qV W S t hs sq (i : Int) c b; have h2 := vI W S t hs sq (b : Int) [⟨(i : Int), c⟩] 26 65; rw [xm hc hi c hbl (by omega)] at h2; (have hw2 : wrap64 (gY W S t hs sq (i : Int) c b + ((dz (i : Int) c W S t hs sq b).length : Int)) = gY W S t hs sq (i : Int) c b + ((dz (i : Int) c W S t hs sq b).length : Int) := by unfold wrap64; omega); rw [hw2]
theorem Iq (hc : eH hs W S t sq = 0) (h8 : sq.length ≤ 8) {x2 x3 : Int} {i : Nat} (hi : i < sq.length) {L : List (List Int)} {n : Int} {r : Int × Int × Int}
 (hcont : Ev (fun k => if (i : Int) = 0 then bq.l0 k (i : Int) (nN W S t hs sq (i : Int)) L n (wrap64 ((i : Int) + 1)) hs W S t sq else (if nN W S t hs sq (i : Int) < x3 then bq.l0 k (i : Int) (nN W S t hs sq (i : Int)) L n (wrap64 ((i : Int) + 1)) hs W S t sq else bq.l0 k x2 x3 L n (wrap64 ((i : Int) + 1)) hs W S t sq)) r) : ∀ (d a : Nat), a + d = (dz (-1) 0 W S t hs sq i).length →
 Ev (fun k => bq.l1 k x2 x3 (i : Int) (mK W S t hs sq (i : Int) (strOfNums (dz (-1) 0 W S t hs sq i)) a) L n (i : Int) (dz (-1) 0 W S t hs sq i) ((dz (-1) 0 W S t hs sq i).length : Int) (a : Int) hs W S t sq) r := by
 have hR : nN W S t hs sq (i : Int) = mK W S t hs sq (i : Int) (strOfNums (dz (-1) 0 W S t hs sq i)) (dz (-1) 0 W S t hs sq i).length := by
  have := Fv hc hi; rw [Bl] at this; rw [nN, this, strOfNums_size]
 have hlen : (dz (-1) 0 W S t hs sq i).length ≤ 256 := Nat.le_trans (List.length_filter_le _ _) (by simp); intro d
 induction d with
 | zero =>
  intro a ha; (obtain rfl : a = (dz (-1) 0 W S t hs sq i).length := by omega); refine Ev.step (fun k => ?_) hcont; rw [bq.l1, if_neg (by omega), hR]
 | succ d ih =>
  intro a ha; (have hal : a < (dz (-1) 0 W S t hs sq i).length := by omega); (have hw : wrap64 ((a : Int) + 1) = ((a + 1 : Nat) : Int) := by unfold wrap64; omega); have hb := Tz (-1) 0 W S t hs sq i _ (List.getElem_mem hal); (have e1 : rd (dz (-1) 0 W S t hs sq i) (a : Int) = (dz (-1) 0 W S t hs sq i)[a] := by simp [rd, List.getD_eq_getElem?_getD, hal]); have e2 := Yr (dz (-1) 0 W S t hs sq i) a hal hb.1 hb.2; have hk := ih (a + 1) (by omega); rw [← hw] at hk
  have h2 := Ro (x2 := x2) (x3 := x3) (x9 := mK W S t hs sq (i : Int) (strOfNums (dz (-1) 0 W S t hs sq i)) a) (c := (dz (-1) 0 W S t hs sq i)[a]) (L := L) (n := n) (X := dz (-1) 0 W S t hs sq i) (N := ((dz (-1) 0 W S t hs sq i).length : Int)) (a := (a : Int)) (r := r) hc h8 hi (by
   rw [mK, e2] at hk
   exact hk) sq.length 0 (by omega)
  refine Ev.step (fun k => ?_) h2; rw [bq.l1, if_pos (by omega), if_pos (by omega), if_pos (by omega), e1, dF.f, if_pos hc, Option.bind_some]; rfl
theorem Rj (hc : eH hs W S t sq = 0) (h8 : sq.length ≤ 8) : ∀ (d n : Nat), n + 1 + d = sq.length →
 Ev (fun k => bq.l0 k (jI W S t hs sq n) (nN W S t hs sq (jI W S t hs sq n)) (fu (-1) 0 W S t hs sq) ((fu (-1) 0 W S t hs sq).length : Int) ((n + 1 : Nat) : Int) hs W S t sq) (jI W S t hs sq (sq.length - 1), nN W S t hs sq (jI W S t hs sq (sq.length - 1)), 0) := by
 intro d
 induction d with
 | zero =>
  intro n hn; refine Ev.step (f := fun _ => some (jI W S t hs sq (sq.length - 1), nN W S t hs sq (jI W S t hs sq (sq.length - 1)), 0)) (fun k => ?_) (Ev.now _); rw [bq.l0, if_neg (by rw [Aa]; omega), show sq.length - 1 = n by omega]
 | succ d ih =>
  intro n hn; (have hl : n + 1 < sq.length := by omega); (have hw : wrap64 (((n + 1 : Nat) : Int) + 1) = ((n + 1 + 1 : Nat) : Int) := by unfold wrap64; omega); refine Ev.step (fun k => ?_) (Iq (x2 := jI W S t hs sq n) (x3 := nN W S t hs sq (jI W S t hs sq n)) (L := fu (-1) 0 W S t hs sq) (n := ((fu (-1) 0 W S t hs sq).length : Int)) hc h8 hl ?_ (dz (-1) 0 W S t hs sq (n + 1)).length 0 (by omega))
  ·rw [bq.l0, if_pos (by rw [Aa]; omega), if_pos (by omega), if_pos (by rw [Aa]; omega), Gn _ _ _ _ _ _ _ (n + 1) hl]; rfl
  ·refine Ev.congr (fun k => ?_) (ih (n + 1) (by omega)); rw [if_neg (by omega), hw, jI]; split <;> rfl
theorem Vp (hs : List S66) (W S t : Int) (sq : List (List S27)) : Ev (fun k => bq.f k hs W S t sq) ((sI hs W S t sq).1.1, (sI hs W S t sq).1.2, (sI hs W S t sq).2) := by
 (have hfit : fA.f hs W S t sq = some (kg hs W S t sq) := by rw [fA.f, FI]); by_cases h : (kg hs W S t sq).2 = 0
 ·have hp := zZ h
  have hc : eH hs W S t sq = 0 := by
   by_cases hc : eH hs W S t sq = 0
   ·exact hc
   ·rw [kg, if_neg hc] at h; exact absurd h hc
  have h8 := (mW hc).1.1; (have hL : sI hs W S t sq = ((jI W S t hs sq (sq.length - 1), nN W S t hs sq (jI W S t hs sq (sq.length - 1))), 0) := by rw [sI, if_pos h]); rw [hL]; have h0 := Rj hc h8 (sq.length - 1) 0 (by omega); refine Ev.congr (f := fun k => bq.l0 k 0 0 (fu (-1) 0 W S t hs sq) ((fu (-1) 0 W S t hs sq).length : Int) ((0 : Nat) : Int) hs W S t sq) (fun k => ?_) ?_
  ·rw [bq.f, hfit, Option.bind_some, if_pos h, dF.f, if_pos hc, Option.bind_some]; rfl
  ·refine Ev.step (fun k => ?_) (Iq (x2 := 0) (x3 := 0) (L := fu (-1) 0 W S t hs sq) (n := ((fu (-1) 0 W S t hs sq).length : Int)) hc h8 hp ?_ (dz (-1) 0 W S t hs sq 0).length 0 (by omega))
   ·rw [bq.l0, if_pos (by rw [Aa]; omega), if_pos (by omega), if_pos (by rw [Aa]; omega), Gn _ _ _ _ _ _ _ 0 hp]; rfl
   ·refine Ev.congr (fun k => ?_) h0; rw [if_pos (show ((0 : Nat) : Int) = 0 from rfl), show wrap64 (((0 : Nat) : Int) + 1) = ((0 + 1 : Nat) : Int) by unfold wrap64; omega]; rfl
 ·(have hL : sI hs W S t sq = ((0, 0), (kg hs W S t sq).2) := by rw [sI, if_neg h]); rw [hL]; refine Ev.congr (fun k => ?_) (Ev.now _); rw [bq.f, hfit, Option.bind_some, if_neg h]
end
theorem Np : Ev (fun k => dE.f k) true := Ev.of dE.mono (k := 60) (by decide +kernel)
theorem I9 {hs : List S66} {sq : List (List S27)} (hsm : kC hs sq) (W S t : Int) : ∃ K, ∀ k, K ≤ k → uz k hs W S t sq := by
 obtain ⟨a1, a2, a3, a4⟩ := hsm; obtain ⟨K1, E1⟩ := UO hs W S t sq (by omega) (fun h hm => by have := a3 h hm; omega) (by omega) (fun q hm => by have := a4 q hm; omega); obtain ⟨K2, E2⟩ := Vp hs W S t sq; exact ⟨max K1 K2, fun k hk => ⟨⟨a1, a2, a3, a4⟩, E1 k (by omega), _, _, _, rfl, E2 k (by omega)⟩⟩
theorem Jq (hs : List S66) (W S t : Int) (sq : List (List S27)) (ns : List Int) : ∃ (k : Nat) (a b : Int) (mh : List S66) (mw ms mt : Int) (mq : List (List S27)) (cut : Int) (txt : ByteArray) (vis : List Int) (y0 y1 : Int),
 dE.f k = some true ∧ lm.f ns = some (a, b) ∧ ag.f k a b 3 4 4 = some (mh, mw, ms, mt, mq, cut, txt, vis, y0, y1) ∧
 (kC hs sq → uz k hs W S t sq) ∧ uz k mh mw ms mt mq := by
 obtain ⟨r, ⟨K1, E1⟩, hg⟩ := Tn (oQ ns).1 (oQ ns).2 3 4 4 (by omega) (by omega) (by omega) (by omega) (by omega) (by omega); obtain ⟨⟨hh1, hh2, hh3⟩, hw, hc, ht, hs1, hs2, hs3⟩ := hg; obtain ⟨mh, mw, ms, mt, mq, cut, txt, vis, y0, y1⟩ := r; simp only [] at E1 hh1 hh2 hh3 hw hc ht hs1 hs2 hs3; have sm1 : kC mh mq := ⟨by omega, by omega, fun h hm => by have := (hh3 h hm).2.2.2.2.2; omega, fun q hm => by have := (hs3 q hm).1; omega⟩; obtain ⟨K2, E2⟩ := I9 sm1 mw ms mt; obtain ⟨K4, E4⟩ := Np
 obtain ⟨K5, E5⟩ : ∃ K, ∀ k, K ≤ k → kC hs sq → uz k hs W S t sq := by
  by_cases h : kC hs sq
  ·obtain ⟨K, E⟩ := I9 h W S t; exact ⟨K, fun k hk _ => E k hk⟩
  ·exact ⟨0, fun k _ h' => absurd h' h⟩
 refine ⟨max K1 (max K2 (max K4 K5)), (oQ ns).1, (oQ ns).2, mh, mw, ms, mt, mq, cut, txt, vis, y0, y1, E4 _ (by omega), rfl, E1 _ (by omega), E5 _ (by omega), E2 _ (by omega)⟩
end Go.Proofs.Ytihedeofkhapiaa.Pr
end
