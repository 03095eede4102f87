/- Part 34 of 35 of the proof of: SightPrints: for every line, light, number and slice of numbers, the law returns true: the program prints a line, and tells its least marks, as the reference does, with the same errors, and changes nothing; no condition beyond the statement's own. -/
import Derived.IntWalk
import Derived.Deep.RegionHeld3
import Derived.Deep.QuietTactic
import Derived.BigQuiet
import Derived.Test.YtihedeofkhapiaaSP21
import Derived.Test.YtihedeofkhapiaaSP22
import Derived.Test.YtihedeofkhapiaaSP23
import Derived.Test.YtihedeofkhapiaaSP26
import Derived.Test.YtihedeofkhapiaaSP31
import Derived.Test.YtihedeofkhapiaaSP33
set_option linter.unusedVariables false
set_option linter.unusedSimpArgs false
section
namespace Go.Proofs.Ytihedeofkhapiaa.Pr
open Go.RowKit Go.Proofs.YtihedeofkhapiaaW.PrintWords Go.Proofs.YtihedeofkhapiaaW.PrintLast Go.Proofs.YtihedeofkhapiaaW.PrintMore
theorem G7 (sh : List S86) (j : Nat) (h : j < sh.length) : iM (qm sh j) (sh.drop j) = if (ai sh (j : Int)).f0 < 65 ∨ (ai sh (j : Int)).f0 > 90 then 8 else if inP (ai sh (j : Int)).f1 1 1023 = true then (if (∃ q, qm sh j = some q ∧ (ai sh (j : Int)).f0 ≤ q) then 5 else iM (qm sh (j + 1)) (sh.drop (j + 1))) else 1 := by
 have e : qm sh (j + 1) = some (sh[j]).f0 := by
  rw [qm, if_neg (by omega), Nat.add_sub_cancel, List.getD_eq_getElem?_getD, List.getElem?_eq_getElem h]; rfl
 rw [List.drop_eq_getElem_cons h, iM, kS sh j h, e]
set_option maxRecDepth 100000 in
set_option maxHeartbeats 4000000 in
theorem CJ (lo hi : Int) (Ah : Option Addr) (ch : Nat) (sh : List S86) (w : World) (hh : k86.C w Ah sh.length sh) :
 Calls Try.prog 66 #[.agg #[.int .i64 lo, .int .i64 hi, .slice Ah sh.length ch]] w fun e w' => e = .returned (.int .i64 (kL lo hi sh)) ∧ Below w.heap.size w w' := by
 have HH := aa.mk hh; clear hh; go_enter Try.func66, Try.ntmps66; (go_upto_region 1 with (fail)); obtain ⟨W1, hW1⟩ : ∃ W1, W1 = w.alloc (.cells #[.int .i64 lo, .int .i64 hi, .slice Ah sh.length ch] 66) := ⟨_, rfl⟩; have HB := aa.mk (show Below w.heap.size w W1 by rw [hW1]; exact ax (Below.refl _ _) _); have BH := aa.mk (show W1.heap[w.heap.size]? = some (.cells #[.int .i64 lo, .int .i64 hi, .slice Ah sh.length ch] 66 (0, 0)) by rw [hW1]; exact heap_alloc_new w _); rw [← hW1]; clear hW1; have hb0 : W1.cell? ⟨w.heap.size, 0, none⟩ = some (.int .i64 lo) := (ae BH.out 0).trans rfl; have hb1 : W1.cell? ⟨w.heap.size, 1, none⟩ = some (.int .i64 hi) := (ae BH.out 1).trans rfl; have hb2 : W1.cell? ⟨w.heap.size, 2, none⟩ = some (.slice Ah sh.length ch) := (ae BH.out 2).trans rfl; (go_wp2_with (fail)); refine (nK lo (-3000) 3000 _).mono ?_; rintro e w2 ⟨rfl, rfl⟩
 cases h1 : inP lo (-3000) 3000 with
 | false =>
  have HE := aa.mk (show kL lo hi sh = 1 by rw [kL, if_neg (by rw [h1]; simp)]); clear h1; go_wp2
  go_ret
  exact ⟨by rw [HE.out]; rfl, HB.out⟩
 | true =>
  have H1 := aa.mk h1; clear h1; (go_wp2_with (fail)); refine (nK hi (-3000) 3000 _).mono ?_; rintro e w2 ⟨rfl, rfl⟩
  cases h2 : inP hi (-3000) 3000 with
  | false =>
   have HE := aa.mk (show kL lo hi sh = 1 by rw [kL, if_neg (by rw [h2]; simp)]); clear h2; go_wp2
   go_ret
   exact ⟨by rw [HE.out]; rfl, HB.out⟩
  | true =>
   have HE := aa.mk (show kL lo hi sh = if lo > hi then 5 else if sh.length = 0 then 7 else if sh.length > 8 then 6 else iM none sh by rw [kL, if_pos ⟨H1.out, h2⟩]); clear h2; by_cases c1 : lo > hi
   ·have c1b : decide (hi < lo) = true := decide_eq_true c1; have HF := aa.mk (HE.out.trans (if_pos c1)); go_wp2
    go_ret
    exact ⟨by rw [HF.out]; rfl, HB.out⟩
   ·have c1b : decide (hi < lo) = false := decide_eq_false c1; have HF := aa.mk (HE.out.trans (if_neg c1)); clear HE c1; by_cases c2 : sh.length = 0
    ·(have c2b : ((sh.length : Int) == 0) = true := by rw [c2]; rfl); (have c2c : (sh.length == 0) = true := by rw [c2]; rfl); have HG := aa.mk (HF.out.trans (if_pos c2)); clear c2; go_wp2
     go_ret
     exact ⟨by rw [HG.out]; rfl, HB.out⟩
    ·have c2b : ((sh.length : Int) == 0) = false := beq_eq_false_iff_ne.2 (by omega); have c2c : (sh.length == 0) = false := beq_eq_false_iff_ne.2 c2; have HG := aa.mk (HF.out.trans (if_neg c2)); clear HF c2; by_cases c3 : sh.length > 8
     ·have c3b : decide (8 < (sh.length : Int)) = true := decide_eq_true (by omega); have c3c : decide (8 < sh.length) = true := decide_eq_true c3; have HK := aa.mk (HG.out.trans (if_pos c3)); clear c3; go_wp2
      go_ret
      exact ⟨by rw [HK.out]; rfl, HB.out⟩
     ·have c3b : decide (8 < (sh.length : Int)) = false := decide_eq_false (by omega); have c3c : decide (8 < sh.length) = false := decide_eq_false c3; have HK := aa.mk (HG.out.trans (if_neg c3)); have HL8 := aa.mk (show sh.length ≤ 8 by omega); clear c3 HG; go_wp2
      go_loopw [3, 4] (fun v3 v4 wr => ∃ j : Nat, j ≤ sh.length ∧ v3 = .int .i64 j ∧ aa (kL lo hi sh = iM (qm sh j) (sh.drop j)) ∧ aa (Below w.heap.size w wr) ∧ aa (wr.heap[w.heap.size]? = some (.cells #[.int .i64 lo, .int .i64 hi, .slice Ah sh.length ch] 66 (0, 0)))) (fun v3 _ _ => sh.length - (intOf v3).toNat)
      case atStart => exact ⟨0, by omega, rfl, HK, HB, BH⟩
      case round =>
       clear hb0 hb1 hb2 HB BH HK; obtain ⟨j, hj, rfl, HA, HB, BH⟩ := hrel; have hb2 : wr.cell? ⟨w.heap.size, 2, none⟩ = some (.slice Ah sh.length ch) := (ae BH.out 2).trans rfl; by_cases hjl : j < sh.length
       ·have hj1 : decide ((j : Int) < (sh.length : Int)) = true := decide_eq_true (by omega); (have hjlt : (j : Int) < (sh.length : Int) := by omega); (have hj8 : (j : Int) < 8 := by have := HL8.out; omega); obtain ⟨bd, e, hx0, hx1⟩ := mF (Kd.aV HH.out HB.out) (j : Int) (by omega) (by omega); cases e; rw [Int.toNat_natCast] at hx0 hx1; have HD := aa.mk (HA.out.trans (G7 sh j hjl)); obtain ⟨x, hx⟩ : ∃ x, x = ai sh (j : Int) := ⟨_, rfl⟩; rw [← hx] at HD hx0 hx1; have HX := aa.mk hx; have hlw : w.heap.size < wr.heap.size := bQ BH.out; clear hx HA c3b c3c c2b c2c c1b; by_cases d1 : x.f0 < 65 ∨ x.f0 > 90
        ·have HF := aa.mk (HD.out.trans (if_pos d1)); by_cases d2 : x.f0 < 65
         ·have d2b : decide (x.f0 < 65) = true := decide_eq_true d2; go_wp2
          go_ret
          exact ⟨by rw [HF.out]; rfl, ax HB.out _⟩
         ·have d2b : decide (x.f0 < 65) = false := decide_eq_false d2; (have d3 : 90 < x.f0 := by omega); have d3b : decide (90 < x.f0) = true := decide_eq_true d3; go_wp2
          go_ret
          exact ⟨by rw [HF.out]; rfl, ax HB.out _⟩
        ·have HF := aa.mk (HD.out.trans (if_neg d1)); have d2b : decide (x.f0 < 65) = false := decide_eq_false (by omega); have d3b : decide (90 < x.f0) = false := decide_eq_false (by omega); clear HD d1; (go_wp2_with (fail)); refine (nK x.f1 1 1023 _).mono ?_; rintro e w2 ⟨rfl, rfl⟩
         cases h1 : inP x.f1 1 1023 with
         | false =>
          have HG := aa.mk (HF.out.trans (if_neg (by rw [h1]; simp))); clear h1; go_wp2
          go_ret
          exact ⟨by rw [HG.out]; rfl, ax HB.out _⟩
         | true =>
          have HG := aa.mk (HF.out.trans (if_pos h1)); clear h1 HF; by_cases hz : j = 0
          ·have HN := aa.mk (show kL lo hi sh = iM (qm sh (j + 1)) (sh.drop (j + 1)) by rw [HG.out, if_neg (by rw [qm, if_pos hz]; simp)]); have hz1 : decide (0 < (j : Int)) = false := decide_eq_false (by omega); have hz2 : decide (0 < j) = false := decide_eq_false (by omega); clear hz; go_wp2; go_quiet (fail); go_wp2
           go_roundw
           (case rel => exact ⟨j + 1, by omega, by go_num, HN, ⟨df (ax HB.out _) _⟩, ⟨eX (bT BH.out _) _⟩⟩); case measure => simp [intOf]; omega
          ·obtain ⟨bd', e, hy0, _⟩ := mF (Kd.aV HH.out HB.out) ((j : Int) - 1) (by omega) (by omega); cases e; (have ej : ((j : Int) - 1).toNat = j - 1 := by omega); rw [ej] at hy0; obtain ⟨y, hy⟩ : ∃ y, y = ai sh ((j : Int) - 1) := ⟨_, rfl⟩; rw [← hy] at hy0; have hy1 : (wr.alloc (Obj.cells #[.int .u8 x.f0, .int .i64 x.f1] 86)).cell? (bd.add ((j - 1) * 2)) = some (.int .u8 y.f0) := (World.cell?_alloc_some wr _ _ (by rw [hy0]; rfl)).trans hy0; have HY := aa.mk (show qm sh j = some y.f0 by rw [qm, if_neg hz, hy, ai, ej]); have hz1 : decide (0 < (j : Int)) = true := decide_eq_true (by omega); have hz2 : decide (0 < j) = true := decide_eq_true (by omega); (have hz3 : 0 < (j : Int) := by omega); (have hz4 : 1 ≤ (j : Int) := by omega); (have hz5 : (j : Int) - 1 < (sh.length : Int) := by omega); (have hz6 : 0 ≤ (j : Int) - 1 := by omega); have hz7 : IntKind.i64.wrap ((j : Int) - 1) = (j : Int) - 1 := IntWalk.i64_in ((j : Int) - 1) ⟨by omega, by omega⟩; have HJ := aa.mk hz; clear hz hy; by_cases d4 : x.f0 ≤ y.f0
           ·have d4b : decide (x.f0 ≤ y.f0) = true := decide_eq_true d4; have HN := aa.mk (HG.out.trans (if_pos ⟨_, HY.out, d4⟩)); go_wp2; go_quiet (fail); go_wp2
            go_ret
            exact ⟨by rw [HN.out]; rfl, df (ax HB.out _) _⟩
           ·have d4b : decide (x.f0 ≤ y.f0) = false := decide_eq_false d4
            have HN := aa.mk (show kL lo hi sh = iM (qm sh (j + 1)) (sh.drop (j + 1)) by
             rw [HG.out, if_neg (by rintro ⟨q, e, hq⟩; rw [HY.out] at e; cases e; exact d4 hq)])
            go_wp2; go_quiet (fail); go_wp2
            go_roundw
            (case rel => exact ⟨j + 1, by omega, by go_num, HN, ⟨df (ax HB.out _) _⟩, ⟨eX (bT BH.out _) _⟩⟩); case measure => simp [intOf]; omega
       ·(obtain rfl : j = sh.length := by omega); (have hj1 : decide ((sh.length : Int) < (sh.length : Int)) = false := by simp); go_wp2
        go_ret
        exact ⟨by rw [HA.out, List.drop_length]; rfl, HB.out⟩
theorem F9 (hs : List S66) (j : Nat) (h : j < hs.length) : iW (hs.drop j) = if kL (ah hs (j : Int)).f0.f0 (ah hs (j : Int)).f0.f1 (ah hs (j : Int)).f1 = 0 then iW (hs.drop (j + 1)) else kL (ah hs (j : Int)).f0.f0 (ah hs (j : Int)).f0.f1 (ah hs (j : Int)).f1 := by
 rw [List.drop_eq_getElem_cons h, iW, kV hs j h]
theorem EF (sq : List (List S27)) (j : Nat) (h : j < sq.length) : iQ (sq.drop j) = if wF (cZ sq (j : Int)) = 0 then iQ (sq.drop (j + 1)) else wF (cZ sq (j : Int)) := by
 (have e : cZ sq (j : Int) = sq[j] := by simp [cZ, List.getD_eq_getElem?_getD, h]); rw [List.drop_eq_getElem_cons h, iQ, e, wF]; by_cases h4 : sq[j].length > 4
 ·rw [if_pos h4, if_pos h4, if_neg (by decide)]
 ·rw [if_neg h4, if_neg h4]
set_option maxRecDepth 100000 in
set_option maxHeartbeats 4000000 in
theorem Dm (A1 : Option Addr) (c1 : Nat) (hs : List S66) (W S t : Int) (A4 : Option Addr) (c4 : Nat) (sq : List (List S27)) (w : World)
 (hh : Kd.C k66 w A1 hs.length hs) (hr : Kd.C (Kd.slice 27 k27) w A4 sq.length sq) :
 Calls Try.prog 41 #[.agg #[.slice A1 hs.length c1, .int .i64 W, .int .i64 S, .int .i64 t, .slice A4 sq.length c4]] w fun e w' => e = .returned (.int .i64 (dY hs W S t sq)) ∧ Below w.heap.size w w' := by
 have HR := aa.mk hr; have HH := aa.mk hh; clear hr hh; go_enter Try.func41, Try.ntmps41; (go_upto_region 1 with (fail)); obtain ⟨W1, hW1⟩ : ∃ W1, W1 = w.alloc (.cells #[.slice A1 hs.length c1, .int .i64 W, .int .i64 S, .int .i64 t, .slice A4 sq.length c4] 25) := ⟨_, rfl⟩; have HB := aa.mk (show Below w.heap.size w W1 by rw [hW1]; exact ax (Below.refl _ _) _); have BX := aa.mk (show W1.heap[w.heap.size]? = some (.cells #[.slice A1 hs.length c1, .int .i64 W, .int .i64 S, .int .i64 t, .slice A4 sq.length c4] 25 (0, 0)) by rw [hW1]; exact heap_alloc_new w _); rw [← hW1]; clear hW1; have hb0 : W1.cell? ⟨w.heap.size, 0, none⟩ = some (.slice A1 hs.length c1) := (ae BX.out 0).trans rfl; by_cases c2 : hs.length = 0
 ·(have c2b : ((hs.length : Int) == 0) = true := by rw [c2]; rfl); (have c2c : (hs.length == 0) = true := by rw [c2]; rfl); have HG := aa.mk (show dY hs W S t sq = 7 by rw [dY, if_pos c2]); clear c2; go_wp2
  go_ret
  exact ⟨by rw [HG.out]; rfl, HB.out⟩
 have c2b : ((hs.length : Int) == 0) = false := beq_eq_false_iff_ne.2 (by omega); have c2c : (hs.length == 0) = false := beq_eq_false_iff_ne.2 c2; have HE := aa.mk (show dY hs W S t sq = if hs.length > 4 then 6 else if iW hs = 0 then (if inP W 0 10 = true ∧ inP S 0 10 = true ∧ inP t 0 40 = true then (if sq.length = 0 then 7 else if sq.length > 8 then 6 else iQ sq) else 1) else iW hs by rw [dY, if_neg c2]); clear c2; by_cases c3 : hs.length > 4
 ·have c3b : decide (4 < (hs.length : Int)) = true := decide_eq_true (by omega); have c3c : decide (4 < hs.length) = true := decide_eq_true c3; have HK := aa.mk (HE.out.trans (if_pos c3)); clear c3; go_wp2
  go_ret
  exact ⟨by rw [HK.out]; rfl, HB.out⟩
 have c3b : decide (4 < (hs.length : Int)) = false := decide_eq_false (by omega); have c3c : decide (4 < hs.length) = false := decide_eq_false c3; have HK := aa.mk (HE.out.trans (if_neg c3)); have HL4 := aa.mk (show hs.length ≤ 4 by omega); clear c3 HE; go_wp2
 go_loopw [3, 4] (fun v3 v4 wr => ∃ j : Nat, j ≤ hs.length ∧ v3 = .int .i64 j ∧ aa (iW hs = iW (hs.drop j)) ∧ aa (Below w.heap.size w wr) ∧ aa (wr.heap[w.heap.size]? = some (.cells #[.slice A1 hs.length c1, .int .i64 W, .int .i64 S, .int .i64 t, .slice A4 sq.length c4] 25 (0, 0)))) (fun v3 _ _ => hs.length - (intOf v3).toNat)
 case atStart => exact ⟨0, by omega, rfl, ⟨rfl⟩, HB, BX⟩
 case round =>
  clear hb0 HB BX; obtain ⟨j, hj, rfl, HA, HB, BX⟩ := hrel; have hb0 : wr.cell? ⟨w.heap.size, 0, none⟩ = some (.slice A1 hs.length c1) := (ae BX.out 0).trans rfl; by_cases hjl : j < hs.length
  ·have hj1 : decide ((j : Int) < (hs.length : Int)) = true := decide_eq_true (by omega); (have hjlt : (j : Int) < (hs.length : Int) := by omega); (have hj8 : (j : Int) < 8 := by have := HL4.out; omega); have HD := aa.mk (HA.out.trans (F9 hs j hjl)); obtain ⟨ad, Ah, ch, e, hx0, hx1, hx2, hl2, hi2⟩ := oC (Kd.aV HH.out HB.out) (j : Int) (by omega) (by omega); cases e; rw [Int.toNat_natCast] at hx0 hx1 hx2; obtain ⟨h, hhd⟩ : ∃ h, h = ah hs (j : Int) := ⟨_, rfl⟩; rw [← hhd] at HD hx0 hx1 hx2 hl2 hi2; have HI2 := aa.mk hi2; clear hhd hi2 hl2 HA c2b c2c c3b c3c; (go_wp2_with (fail)); refine (CJ h.f0.f0 h.f0.f1 Ah ch h.f1 _ HI2.out).mono ?_; rintro e w2 ⟨rfl, hb⟩; have HB2 := aa.mk (aC HB.out hb); have BX2 := aa.mk (au BX.out hb); obtain ⟨ev, hev⟩ : ∃ ev, ev = kL h.f0.f0 h.f0.f1 h.f1 := ⟨_, rfl⟩; rw [← hev] at HD ⊢; clear hev hx0 hx1 hx2 hb; by_cases hz : ev = 0
   ·have HZ := aa.mk hz; (have z1 : (ev == 0) = true := by rw [hz]; rfl); (have z2 : (ev != 0) = false := by rw [hz]; rfl); clear hz; go_wp2
    go_roundw
    (case rel => exact ⟨j + 1, by omega, by go_num, ⟨HD.out.trans (if_pos HZ.out)⟩, HB2, BX2⟩); case measure => simp [intOf]; omega
   ·have HZ := aa.mk (show dY hs W S t sq = ev by
     have e1 : iW hs = ev := HD.out.trans (if_neg hz)
     rw [HK.out, e1, if_neg hz])
    have z1 : (ev == 0) = false := beq_eq_false_iff_ne.2 hz; have z2 : (ev != 0) = true := bne_iff_ne.2 hz; clear hz; go_wp2
    go_ret
    exact ⟨by rw [HZ.out]; rfl, HB2.out⟩
  ·(obtain rfl : j = hs.length := by omega); have hj1 : decide ((hs.length : Int) < (hs.length : Int)) = false := by simp
   have HM := aa.mk (show dY hs W S t sq = if inP W 0 10 = true ∧ inP S 0 10 = true ∧ inP t 0 40 = true then (if sq.length = 0 then 7 else if sq.length > 8 then 6 else iQ sq) else 1 by
    rw [HK.out, HA.out, List.drop_length, iW, if_pos rfl])
   have hz1 : wr.cell? ⟨w.heap.size, 1, none⟩ = some (.int .i64 W) := (ae BX.out 1).trans rfl; have hz2 : wr.cell? ⟨w.heap.size, 2, none⟩ = some (.int .i64 S) := (ae BX.out 2).trans rfl; have hz3 : wr.cell? ⟨w.heap.size, 3, none⟩ = some (.int .i64 t) := (ae BX.out 3).trans rfl; have hz4 : wr.cell? ⟨w.heap.size, 4, none⟩ = some (.slice A4 sq.length c4) := (ae BX.out 4).trans rfl; clear HK HA hj hjl; (go_wp2_with (fail)); refine (nK W 0 10 _).mono ?_; rintro e w2 ⟨rfl, rfl⟩
   cases h1 : inP W 0 10 with
   | false =>
    have HE := aa.mk (HM.out.trans (if_neg (by rw [h1]; simp))); clear h1; go_wp2
    go_ret
    exact ⟨by rw [HE.out]; rfl, HB.out⟩
   | true =>
    have H1 := aa.mk h1; clear h1; (go_wp2_with (fail)); refine (nK S 0 10 _).mono ?_; rintro e w2 ⟨rfl, rfl⟩
    cases h2 : inP S 0 10 with
    | false =>
     have HE := aa.mk (HM.out.trans (if_neg (by rw [h2]; simp))); clear h2; go_wp2
     go_ret
     exact ⟨by rw [HE.out]; rfl, HB.out⟩
    | true =>
     have H2 := aa.mk h2; clear h2; (go_wp2_with (fail)); refine (nK t 0 40 _).mono ?_; rintro e w2 ⟨rfl, rfl⟩
     cases h3 : inP t 0 40 with
     | false =>
      have HE := aa.mk (HM.out.trans (if_neg (by rw [h3]; simp))); clear h3; go_wp2
      go_ret
      exact ⟨by rw [HE.out]; rfl, HB.out⟩
     | true =>
      have HE := aa.mk (HM.out.trans (if_pos ⟨H1.out, H2.out, h3⟩)); clear h3 HM H1 H2; by_cases d2 : sq.length = 0
      ·(have d2b : ((sq.length : Int) == 0) = true := by rw [d2]; rfl); (have d2c : (sq.length == 0) = true := by rw [d2]; rfl); have HG := aa.mk (HE.out.trans (if_pos d2)); clear d2; go_wp2
       go_ret
       exact ⟨by rw [HG.out]; rfl, HB.out⟩
      have d2b : ((sq.length : Int) == 0) = false := beq_eq_false_iff_ne.2 (by omega); have d2c : (sq.length == 0) = false := beq_eq_false_iff_ne.2 d2; have HF := aa.mk (HE.out.trans (if_neg d2)); clear d2; by_cases d3 : sq.length > 8
      ·have d3b : decide (8 < (sq.length : Int)) = true := decide_eq_true (by omega); have d3c : decide (8 < sq.length) = true := decide_eq_true d3; have HK := aa.mk (HF.out.trans (if_pos d3)); clear d3; go_wp2
       go_ret
       exact ⟨by rw [HK.out]; rfl, HB.out⟩
      have d3b : decide (8 < (sq.length : Int)) = false := decide_eq_false (by omega); have d3c : decide (8 < sq.length) = false := decide_eq_false d3; have HK := aa.mk (HF.out.trans (if_neg d3)); have HL8 := aa.mk (show sq.length ≤ 8 by omega); clear d3 HE HF; go_wp2
      go_loopw [5, 6] (fun v3 v4 wr => ∃ j : Nat, j ≤ sq.length ∧ v3 = .int .i64 j ∧ aa (dY hs W S t sq = iQ (sq.drop j)) ∧ aa (Below w.heap.size w wr) ∧ aa (wr.heap[w.heap.size]? = some (.cells #[.slice A1 hs.length c1, .int .i64 W, .int .i64 S, .int .i64 t, .slice A4 sq.length c4] 25 (0, 0)))) (fun v3 _ _ => sq.length - (intOf v3).toNat)
      case atStart => exact ⟨0, by omega, rfl, HK, HB, BX⟩
      case round =>
       clear hz1 hz2 hz3 hz4 hb0 HB BX HK; obtain ⟨j, hj, rfl, HA, HB, BX⟩ := hrel; have hb4 : wr.cell? ⟨w.heap.size, 4, none⟩ = some (.slice A4 sq.length c4) := (ae BX.out 4).trans rfl; by_cases hjl : j < sq.length
       ·have hj1 : decide ((j : Int) < (sq.length : Int)) = true := decide_eq_true (by omega); (have hjlt : (j : Int) < (sq.length : Int) := by omega); (have hj8 : (j : Int) < 8 := by have := HL8.out; omega); have HD := aa.mk (HA.out.trans (EF sq j hjl)); obtain ⟨ad, Ah, ch, e, hx0, hl2, hi2⟩ := wG (Kd.aV HR.out HB.out) (j : Int) (by omega) (by omega); cases e; rw [Int.toNat_natCast] at hx0; obtain ⟨q, hqd⟩ : ∃ q, q = cZ sq (j : Int) := ⟨_, rfl⟩; rw [← hqd] at HD hx0 hl2 hi2; have HI2 := aa.mk hi2; clear hqd hi2 hl2 HA d2b d2c d3b d3c c2b c2c c3b c3c; (go_wp2_with (fail)); refine (zT Ah ch q _ HI2.out).mono ?_; rintro e w2 ⟨rfl, hb⟩; have HB2 := aa.mk (aC HB.out hb); have BX2 := aa.mk (au BX.out hb); obtain ⟨ev, hev⟩ : ∃ ev, ev = wF q := ⟨_, rfl⟩; rw [← hev] at HD ⊢; clear hev hx0 hb; by_cases hz : ev = 0
        ·have HZ := aa.mk hz; (have z1 : (ev == 0) = true := by rw [hz]; rfl); (have z2 : (ev != 0) = false := by rw [hz]; rfl); clear hz; go_wp2
         go_roundw
         (case rel => exact ⟨j + 1, by omega, by go_num, ⟨HD.out.trans (if_pos HZ.out)⟩, HB2, BX2⟩); case measure => simp [intOf]; omega
        ·have HZ := aa.mk (HD.out.trans (if_neg hz)); have z1 : (ev == 0) = false := beq_eq_false_iff_ne.2 hz; have z2 : (ev != 0) = true := bne_iff_ne.2 hz; clear hz; go_wp2
         go_ret
         exact ⟨by rw [HZ.out]; rfl, HB2.out⟩
       ·(obtain rfl : j = sq.length := by omega); (have hj1 : decide ((sq.length : Int) < (sq.length : Int)) = false := by simp); go_wp2
        go_ret
        exact ⟨by rw [HA.out, List.drop_length]; rfl, HB.out⟩
theorem yQ {n : Int} {lo : Int} (hlo : 0 ≤ lo) (h : inP n lo 1023 = true) : 0 ≤ n ∧ n < 1024 := by
 have := ng.1 h; omega
theorem Dg : ∀ q : List S27, jW q = 0 → xu q
 | [], _ => fun x hx => by cases hx
 | y :: r, h => fun x hx => by
  rw [jW] at h; by_cases h1 : inP y.f0 0 1023 = true ∧ inP y.f1 0 1023 = true
  ·rw [if_pos h1] at h; by_cases h2 : fJ y.f1 y.f0 = 0
   ·rw [if_pos h2] at h; rcases List.mem_cons.1 hx with rfl | hx
    ·obtain ⟨f0, f1⟩ := x; have a0 := yQ (by decide) h1.1; have a1 := yQ (by decide) h1.2; obtain ⟨s, rfl⟩ : ∃ s : Nat, f0 = (s : Int) := ⟨f0.toNat, by simp only at a0; omega⟩; obtain ⟨n, rfl⟩ : ∃ n : Nat, f1 = (n : Int) := ⟨f1.toNat, by simp only at a1; omega⟩; simp only at a0 a1 h2; (have b0 : s < 1024 := by omega); (have b1 : n < 1024 := by omega); obtain ⟨c, hc, e, hz⟩ := yt b1 b0; exact ⟨s, n, b0, b1, rfl, hz (by rw [e] at h2; omega)⟩
    ·exact Dg r h x hx
   ·rw [if_neg h2] at h; exact absurd h (by decide)
  ·rw [if_neg h1] at h; exact absurd h (by decide)
theorem Ay : ∀ sq : List (List S27), iQ sq = 0 → ∀ q ∈ sq, q.length ≤ 4 ∧ xu q
 | [], _ => fun q hq => by cases hq
 | p :: r, h => fun q hq => by
  rw [iQ] at h; by_cases h1 : p.length > 4
  ·rw [if_pos h1] at h; exact absurd h (by decide)
  ·rw [if_neg h1] at h; by_cases h2 : jW p = 0
   ·rw [if_pos h2] at h; rcases List.mem_cons.1 hq with rfl | hq
    ·exact ⟨by omega, Dg _ h2⟩
    ·exact Ay r h q hq
   ·rw [if_neg h2] at h; exact absurd h h2
theorem Dw : ∀ (sh : List S86) (p : Option Int), iM p sh = 0 → ∀ s ∈ sh, 0 ≤ s.f1 ∧ s.f1 < 1024
 | [], _, _ => fun s hs => by cases hs
 | x :: r, p, h => fun s hs => by
  rw [iM] at h; by_cases h1 : x.f0 < 65 ∨ x.f0 > 90
  ·rw [if_pos h1] at h; exact absurd h (by decide)
  ·rw [if_neg h1] at h; by_cases h2 : inP x.f1 1 1023 = true
   ·rw [if_pos h2] at h; by_cases h3 : ∃ q, p = some q ∧ x.f0 ≤ q
    ·rw [if_pos h3] at h; exact absurd h (by decide)
    ·rw [if_neg h3] at h; rcases List.mem_cons.1 hs with rfl | hs
     ·exact yQ (by decide) h2
     ·exact Dw r _ h s hs
   ·rw [if_neg h2] at h; exact absurd h (by decide)
theorem FU : ∀ hs : List S66, iW hs = 0 → ∀ h ∈ hs, sS h.f1
 | [], _ => fun h hh => by cases hh
 | p :: r, e => fun h hh => by
  rw [iW] at e; by_cases h1 : kL p.f0.f0 p.f0.f1 p.f1 = 0
  ·rw [if_pos h1] at e; rcases List.mem_cons.1 hh with rfl | hh
   ·rw [kL] at h1; by_cases c1 : inP h.f0.f0 (-3000) 3000 = true ∧ inP h.f0.f1 (-3000) 3000 = true
    ·rw [if_pos c1] at h1; by_cases c2 : h.f0.f0 > h.f0.f1
     ·rw [if_pos c2] at h1; exact absurd h1 (by decide)
     ·rw [if_neg c2] at h1; by_cases c3 : h.f1.length = 0
      ·rw [if_pos c3] at h1; exact absurd h1 (by decide)
      ·rw [if_neg c3] at h1; by_cases c4 : h.f1.length > 8
       ·rw [if_pos c4] at h1; exact absurd h1 (by decide)
       ·rw [if_neg c4] at h1; exact ⟨by omega, Dw _ _ h1⟩
    ·rw [if_neg c1] at h1; exact absurd h1 (by decide)
   ·exact FU r e h hh
  ·rw [if_neg h1] at e; exact absurd e h1
theorem lc {hs : List S66} {W S t : Int} {sq : List (List S27)} (h : dY hs W S t sq = 0) : sH sq ∧ DL hs := by
 obtain ⟨_, h1, _, h2, h3, h4, _⟩ := lH h; exact ⟨⟨h2, Ay sq h4⟩, ⟨by omega, FU hs h3⟩⟩
def mP (hs : List S66) (W S t : Int) (sq : List (List S27)) : List Int × Int :=
 if dY hs W S t sq = 0 then (if gp W S t sq 0 hs = [] then ([], 9) else (gp W S t sq 0 hs, 0)) else ([], dY hs W S t sq)
set_option maxRecDepth 100000 in
set_option maxHeartbeats 4000000 in
theorem Mk (A1 : Option Addr) (c1 : Nat) (hs : List S66) (W S t : Int) (A4 : Option Addr) (c4 : Nat) (sq : List (List S27)) (w : World)
 (hh : Kd.C k66 w A1 hs.length hs) (hr : Kd.C (Kd.slice 27 k27) w A4 sq.length sq) :
 Calls Try.prog 37 #[.agg #[.slice A1 hs.length c1, .int .i64 W, .int .i64 S, .int .i64 t, .slice A4 sq.length c4]] w fun e w' => ∃ v, e = .returned (.tuple #[v, .int .i64 (mP hs W S t sq).2]) ∧ Kd.R (Kd.int .i64) 3 w' w.heap.size (fun _ => True) v (mP hs W S t sq).1 ∧ Below w.heap.size w w' := by
 have HR := aa.mk hr; have HH := aa.mk hh; clear hr hh; go_enter Try.func37, Try.ntmps37; (go_upto_region 1 with (fail)); obtain ⟨W1, hW1⟩ : ∃ W1, W1 = w.alloc (.cells #[.slice A1 hs.length c1, .int .i64 W, .int .i64 S, .int .i64 t, .slice A4 sq.length c4] 25) := ⟨_, rfl⟩; have HB := aa.mk (show Below w.heap.size w W1 by rw [hW1]; exact ax (Below.refl _ _) _); have BX := aa.mk (show W1.heap[w.heap.size]? = some (.cells #[.slice A1 hs.length c1, .int .i64 W, .int .i64 S, .int .i64 t, .slice A4 sq.length c4] 25 (0, 0)) by rw [hW1]; exact heap_alloc_new w _); rw [← hW1]; have hb0 : W1.cell? ⟨w.heap.size, 0, none⟩ = some (.slice A1 hs.length c1) := (ae BX.out 0).trans rfl; have hb1 : W1.cell? ⟨w.heap.size, 1, none⟩ = some (.int .i64 W) := (ae BX.out 1).trans rfl; have hb2 : W1.cell? ⟨w.heap.size, 2, none⟩ = some (.int .i64 S) := (ae BX.out 2).trans rfl; have hb3 : W1.cell? ⟨w.heap.size, 3, none⟩ = some (.int .i64 t) := (ae BX.out 3).trans rfl; have hb4 : W1.cell? ⟨w.heap.size, 4, none⟩ = some (.slice A4 sq.length c4) := (ae BX.out 4).trans rfl; clear hW1; (go_wp2_with (fail)); refine (Dm A1 c1 hs W S t A4 c4 sq _ (Kd.aV HH.out HB.out) (Kd.aV HR.out HB.out)).mono ?_; rintro e w2 ⟨rfl, hb⟩; have HB2 := aa.mk (aC HB.out hb); have BX2 := aa.mk (au BX.out hb); clear hb hb0 hb1 hb2 hb3 hb4; have HE := aa.mk (show mP hs W S t sq = if dY hs W S t sq = 0 then (if gp W S t sq 0 hs = [] then ([], 9) else (gp W S t sq 0 hs, 0)) else ([], dY hs W S t sq) from rfl); have HOK := aa.mk (fun h : dY hs W S t sq = 0 => lc h); obtain ⟨ev, hev⟩ : ∃ ev, ev = dY hs W S t sq := ⟨_, rfl⟩; rw [← hev] at HE HOK ⊢; clear hev; by_cases hz : ev = 0
 ·have HF := aa.mk (HE.out.trans (if_pos hz)); obtain ⟨oq, oh⟩ := HOK.out hz; have OQ := aa.mk oq; have OH := aa.mk oh; (have z1 : (ev == 0) = true := by rw [hz]; rfl); (have z2 : (ev != 0) = false := by rw [hz]; rfl); clear hz HE HOK oq oh; have hb0 : w2.cell? ⟨w.heap.size, 0, none⟩ = some (.slice A1 hs.length c1) := (ae BX2.out 0).trans rfl; have hb1 : w2.cell? ⟨w.heap.size, 1, none⟩ = some (.int .i64 W) := (ae BX2.out 1).trans rfl; have hb2 : w2.cell? ⟨w.heap.size, 2, none⟩ = some (.int .i64 S) := (ae BX2.out 2).trans rfl; have hb3 : w2.cell? ⟨w.heap.size, 3, none⟩ = some (.int .i64 t) := (ae BX2.out 3).trans rfl; have hb4 : w2.cell? ⟨w.heap.size, 4, none⟩ = some (.slice A4 sq.length c4) := (ae BX2.out 4).trans rfl; have HS2 := aa.mk (bQ BX2.out); (go_wp2_with (fail)); refine (LU A1 c1 hs W S t A4 c4 sq _ (Kd.aV HH.out HB2.out) (Kd.aV HR.out HB2.out) OQ.out OH.out).mono ?_; rintro e w3 ⟨v, rfl, hv, hb⟩; have HB3 := aa.mk (aC HB2.out hb); clear hb hb0 hb1 hb2 hb3 hb4; obtain ⟨fs, hfs⟩ : ∃ fs, fs = gp W S t sq 0 hs := ⟨_, rfl⟩; rw [← hfs] at HF hv; clear hfs; obtain ⟨A, c, rfl⟩ := Kd.fq hv; have HV := aa.mk (Kd.fE hv (Nat.le_of_lt HS2.out)); clear hv; by_cases hn : fs.length = 0
  ·(have n1 : ((fs.length : Int) == 0) = true := by rw [hn]; rfl); (have n2 : (fs.length == 0) = true := by rw [hn]; rfl); have HG := aa.mk (HF.out.trans (if_pos (List.length_eq_zero_iff.1 hn))); clear hn; go_wp2
   go_ret2
   exact ⟨_, by rw [HG.out]; rfl, by rw [HG.out]; exact Kd.qL _ _ _ _ _, HB3.out⟩
  ·have n1 : ((fs.length : Int) == 0) = false := beq_eq_false_iff_ne.2 (by omega); have n2 : (fs.length == 0) = false := beq_eq_false_iff_ne.2 hn; have HG := aa.mk (HF.out.trans (if_neg (fun e => hn (by rw [e]; rfl)))); clear hn; go_wp2
   go_ret2
   exact ⟨_, by rw [HG.out]; rfl, by rw [HG.out]; exact HV.out, HB3.out⟩
 ·have HF := aa.mk (HE.out.trans (if_neg hz)); have z1 : (ev == 0) = false := beq_eq_false_iff_ne.2 hz; have z2 : (ev != 0) = true := bne_iff_ne.2 hz; clear hz HE HOK; go_wp2
  go_ret2
  exact ⟨_, by rw [HF.out]; rfl, by rw [HF.out]; exact Kd.qL _ _ _ _ _, HB2.out⟩
def rq (W S : Int) (sq : List (List S27)) : Int → List S66 → Int
 | b, [] => b
 | b, h :: r => rq W S sq (min b (jh W S sq h.f1 [])) r
theorem Ma (W S : Int) (sq : List (List S27)) (hs : List S66) (b : Int) (j : Nat) (h : j < hs.length) : rq W S sq b (hs.drop j) = rq W S sq (min b (jh W S sq (ah hs (j : Int)).f1 [])) (hs.drop (j + 1)) := by
 rw [List.drop_eq_getElem_cons h, rq, kV hs j h]
def qf (hs : List S66) (W S t : Int) (sq : List (List S27)) : Int × Int :=
 if dY hs W S t sq = 0 then (if rq W S sq 1000 hs ≥ 1000 then (0, 9) else (rq W S sq 1000 hs, 0)) else (0, dY hs W S t sq)
set_option maxRecDepth 100000 in
set_option maxHeartbeats 4000000 in
theorem Mj (A1 : Option Addr) (c1 : Nat) (hs : List S66) (W S t : Int) (A4 : Option Addr) (c4 : Nat) (sq : List (List S27)) (w : World)
 (hh : Kd.C k66 w A1 hs.length hs) (hr : Kd.C (Kd.slice 27 k27) w A4 sq.length sq) :
 Calls Try.prog 22 #[.agg #[.slice A1 hs.length c1, .int .i64 W, .int .i64 S, .int .i64 t, .slice A4 sq.length c4]] w fun e w' => e = .returned (.tuple #[.int .i64 (qf hs W S t sq).1, .int .i64 (qf hs W S t sq).2]) ∧ Below w.heap.size w w' := by
 have HR := aa.mk hr; have HH := aa.mk hh; clear hr hh; go_enter Try.func22, Try.ntmps22; (go_upto_region 1 with (fail)); obtain ⟨W1, hW1⟩ : ∃ W1, W1 = w.alloc (.cells #[.slice A1 hs.length c1, .int .i64 W, .int .i64 S, .int .i64 t, .slice A4 sq.length c4] 25) := ⟨_, rfl⟩; have HB := aa.mk (show Below w.heap.size w W1 by rw [hW1]; exact ax (Below.refl _ _) _); have BX := aa.mk (show W1.heap[w.heap.size]? = some (.cells #[.slice A1 hs.length c1, .int .i64 W, .int .i64 S, .int .i64 t, .slice A4 sq.length c4] 25 (0, 0)) by rw [hW1]; exact heap_alloc_new w _); rw [← hW1]; have hb0 : W1.cell? ⟨w.heap.size, 0, none⟩ = some (.slice A1 hs.length c1) := (ae BX.out 0).trans rfl; have hb1 : W1.cell? ⟨w.heap.size, 1, none⟩ = some (.int .i64 W) := (ae BX.out 1).trans rfl; have hb2 : W1.cell? ⟨w.heap.size, 2, none⟩ = some (.int .i64 S) := (ae BX.out 2).trans rfl; have hb3 : W1.cell? ⟨w.heap.size, 3, none⟩ = some (.int .i64 t) := (ae BX.out 3).trans rfl; have hb4 : W1.cell? ⟨w.heap.size, 4, none⟩ = some (.slice A4 sq.length c4) := (ae BX.out 4).trans rfl; clear hW1; (go_wp2_with (fail)); refine (Dm A1 c1 hs W S t A4 c4 sq _ (Kd.aV HH.out HB.out) (Kd.aV HR.out HB.out)).mono ?_; rintro e w2 ⟨rfl, hb⟩; have HB2 := aa.mk (aC HB.out hb); have BX2 := aa.mk (au BX.out hb); clear hb hb0 hb1 hb2 hb3 hb4; have HE := aa.mk (show qf hs W S t sq = if dY hs W S t sq = 0 then (if rq W S sq 1000 hs ≥ 1000 then (0, 9) else (rq W S sq 1000 hs, 0)) else (0, dY hs W S t sq) from rfl); have HOK := aa.mk (fun h : dY hs W S t sq = 0 => lc h); obtain ⟨ev, hev⟩ : ∃ ev, ev = dY hs W S t sq := ⟨_, rfl⟩; rw [← hev] at HE HOK ⊢; clear hev; by_cases hz : ev = 0
 ·have HF := aa.mk (HE.out.trans (if_pos hz)); obtain ⟨oq, oh⟩ := HOK.out hz; have OQ := aa.mk oq; have OH := aa.mk oh; have OL := aa.mk oh.1; (have z1 : (ev == 0) = true := by rw [hz]; rfl); (have z2 : (ev != 0) = false := by rw [hz]; rfl); clear hz HE HOK oq oh; go_wp2
  go_loopw [5, 6] (fun v5 v6 wr => ∃ (j : Nat) (b : Int), j ≤ hs.length ∧ v5 = .int .i64 b ∧ v6 = .int .i64 j ∧ aa (rq W S sq 1000 hs = rq W S sq b (hs.drop j)) ∧ aa (Below w.heap.size w wr) ∧ aa (wr.heap[w.heap.size]? = some (.cells #[.slice A1 hs.length c1, .int .i64 W, .int .i64 S, .int .i64 t, .slice A4 sq.length c4] 25 (0, 0)))) (fun _ v6 _ => hs.length - (intOf v6).toNat)
  case atStart => exact ⟨0, 1000, by omega, rfl, rfl, ⟨rfl⟩, HB2, BX2⟩
  case round =>
   clear HB BX HB2 BX2; obtain ⟨j, b, hj, rfl, rfl, HA, HB, BX⟩ := hrel; have hz0 : wr.cell? ⟨w.heap.size, 0, none⟩ = some (.slice A1 hs.length c1) := (ae BX.out 0).trans rfl; by_cases hjl : j < hs.length
   ·have hj1 : decide ((j : Int) < (hs.length : Int)) = true := decide_eq_true (by omega); (have hjlt : (j : Int) < (hs.length : Int) := by omega); (have hj8 : (j : Int) < 8 := by have := OL.out; omega); have HD := aa.mk (HA.out.trans (Ma W S sq hs b j hjl)); have HSJ := aa.mk (OH.out.at hjl); obtain ⟨ad, Ah, ch, e, hx0, hx1, hx2, hl2, hi2⟩ := oC (Kd.aV HH.out HB.out) (j : Int) (by omega) (by omega); cases e; rw [Int.toNat_natCast] at hx0 hx1 hx2; obtain ⟨h, hhd⟩ : ∃ h, h = ah hs (j : Int) := ⟨_, rfl⟩; rw [← hhd] at HD HSJ hx0 hx1 hx2 hl2 hi2; have HI2 := aa.mk hi2; have hz1 : wr.cell? ⟨w.heap.size, 1, none⟩ = some (.int .i64 W) := (ae BX.out 1).trans rfl; have hz2 : wr.cell? ⟨w.heap.size, 2, none⟩ = some (.int .i64 S) := (ae BX.out 2).trans rfl; have hz3 : wr.cell? ⟨w.heap.size, 3, none⟩ = some (.int .i64 t) := (ae BX.out 3).trans rfl; have hz4 : wr.cell? ⟨w.heap.size, 4, none⟩ = some (.slice A4 sq.length c4) := (ae BX.out 4).trans rfl; clear hhd hi2 hl2; go_wp2_with (fail)
    go_region_held3 (fun w' => w'.cell? ⟨w.heap.size, 0, none⟩ = some (.slice (some ad) hs.length c1) ∧ w'.cell? ⟨w.heap.size, 1, none⟩ = some (.int .i64 W) ∧ w'.cell? ⟨w.heap.size, 2, none⟩ = some (.int .i64 S) ∧ w'.cell? ⟨w.heap.size, 3, none⟩ = some (.int .i64 t) ∧ w'.cell? ⟨w.heap.size, 4, none⟩ = some (.slice A4 sq.length c4) ∧ w'.cell? (ad.add (j * 3)) = some (.int .i64 h.f0.f0) ∧ w'.cell? ⟨(ad.add (j * 3)).block, (ad.add (j * 3)).off + 1, none⟩ = some (.int .i64 h.f0.f1) ∧ w'.cell? ⟨(ad.add (j * 3)).block, (ad.add (j * 3)).off + 2, none⟩ = some (.slice Ah h.f1.length ch))
     (go_keep)
     (((with_reducible refine (AQ (some ad) hs.length c1 W S t A4 c4 sq h.f0.f0 h.f0.f1 Ah ch h.f1 _ (Kd.aV HR.out (dF HB.out)) (Kd.aV HI2.out (dF (Below.refl _ _))) OQ.out HSJ.out).mono ?_)
       rintro e w2 ⟨rfl, hb⟩; have HB2 := aa.mk (aC (dF HB.out) hb); have BX2 := aa.mk (au (dK BX.out) hb); have _ := 0; have hz0' : w2.cell? ⟨w.heap.size, 0, none⟩ = some (.slice (some ad) hs.length c1) := (ae BX2.out 0).trans rfl; have hz1' : w2.cell? ⟨w.heap.size, 1, none⟩ = some (.int .i64 W) := (ae BX2.out 1).trans rfl; have hz2' : w2.cell? ⟨w.heap.size, 2, none⟩ = some (.int .i64 S) := (ae BX2.out 2).trans rfl; have hz3' : w2.cell? ⟨w.heap.size, 3, none⟩ = some (.int .i64 t) := (ae BX2.out 3).trans rfl; have hz4' : w2.cell? ⟨w.heap.size, 4, none⟩ = some (.slice A4 sq.length c4) := (ae BX2.out 4).trans rfl; have hx0' : w2.cell? (ad.add (j * 3)) = some (.int .i64 h.f0.f0) := (hb.cell (World.block_lt_of_cell? _ _ hx0)).trans hx0; have hx1' : w2.cell? ⟨(ad.add (j * 3)).block, (ad.add (j * 3)).off + 1, none⟩ = some (.int .i64 h.f0.f1) := (hb.cell (World.block_lt_of_cell? _ _ hx1)).trans hx1; have hx2' : w2.cell? ⟨(ad.add (j * 3)).block, (ad.add (j * 3)).off + 2, none⟩ = some (.slice Ah h.f1.length ch) := (hb.cell (World.block_lt_of_cell? _ _ hx2)).trans hx2
       clear hb))
    obtain ⟨mv, hmv⟩ : ∃ mv, mv = jh W S sq h.f1 [] := ⟨_, rfl⟩; rw [← hmv] at HD ⊢; clear hmv hx0 hx1 hx2 hz0 hz1 hz2 hz3 hz4 hx0' hx1' hx2' hz0' hz1' hz2' hz3' hz4'; go_wp2
    go_roundw
    (case rel => exact ⟨j + 1, min b mv, by omega, rfl, by go_num, HD, HB2, BX2⟩); case measure => simp [intOf]; omega
   ·(obtain rfl : j = hs.length := by omega); have hj1 : decide ((hs.length : Int) < (hs.length : Int)) = false := by simp
    have HN := aa.mk (show qf hs W S t sq = if b ≥ 1000 then (0, 9) else (b, 0) by
     have e := HA.out; rw [List.drop_length, rq] at e
     rw [HF.out, e])
    clear HF HA; by_cases hc : b ≥ 1000
    ·have hc1 : decide (1000 ≤ b) = true := decide_eq_true hc; have HG := aa.mk (HN.out.trans (if_pos hc)); clear hc; go_wp2
     go_ret2
     exact ⟨by rw [HG.out]; rfl, HB.out⟩
    ·have hc1 : decide (1000 ≤ b) = false := decide_eq_false hc; have HG := aa.mk (HN.out.trans (if_neg hc)); clear hc; go_wp2
     go_ret2
     exact ⟨by rw [HG.out]; rfl, HB.out⟩
 ·have HF := aa.mk (HE.out.trans (if_neg hz)); have z1 : (ev == 0) = false := beq_eq_false_iff_ne.2 hz; have z2 : (ev != 0) = true := bne_iff_ne.2 hz; clear hz HE HOK; go_wp2
  go_ret2
  exact ⟨by rw [HF.out]; rfl, HB2.out⟩
def gZ (W S t : Int) (hs : List S66) (sq : List (List S27)) (i : Int) (nd : List lX) : Nat → Int → List Int
 | 0, _ => []
 | n + 1, c => if jU W S t sq (nd ++ [⟨i, c⟩]) hs = true then c :: gZ W S t hs sq i nd n (c + 1) else gZ W S t hs sq i nd n (c + 1)
def mD.T5 : Bool × List (List Nat × List Nat) := (true, [([], []), ([], []), ([], []), ([1, 2], [1, 2]), ([], []), ([], []), ([4, 5], [4, 5]), ([6], [6]), ([3, 7, 3], [3, 7]), ([0, 8, 8], [0, 8])])
def mD.B5 : List Nat := [0, 0, 0, 6, 0, 0, 48, 112, 254, 511]
theorem mD.Ov : mH .any (opsOf Try.f62 5) = mD.T5 := by kernel_rfl
theorem mD.Gy : nk mD.T5.2 mD.B5 = true := by kernel_rfl
set_option maxRecDepth 100000 in
set_option maxHeartbeats 4000000 in
theorem Gx (A1 : Option Addr) (c1 : Nat) (hs : List S66) (W S t : Int) (A4 : Option Addr) (c4 : Nat) (sq : List (List S27)) (i : Int) (An : Option Addr) (cn : Nat) (nd : List lX) (w : World)
 (hh : Kd.C k66 w A1 hs.length hs) (hr : Kd.C (Kd.slice 27 k27) w A4 sq.length sq) (hn : rf.C w An nd.length nd) (hnl : nd.length ≤ 7) (hq : sH sq) (hho : DL hs) :
 Calls Try.prog 62 #[.agg #[.slice A1 hs.length c1, .int .i64 W, .int .i64 S, .int .i64 t, .slice A4 sq.length c4], .int .i64 i, .slice An nd.length cn] w fun e w' => e = .returned (.string (strOfNums (gZ W S t hs sq i nd 26 65))) ∧ Below w.heap.size w w' := by
 have HR := aa.mk hr; have HH := aa.mk hh; have HN := aa.mk hn; have HNL := aa.mk hnl; have HQ := aa.mk hq; have HS := aa.mk hho; clear hr hh hn hnl hq hho; go_enter Try.func62, Try.ntmps62; go_wp2
 go_loopw [7, 8] (fun v4 v5 wr => ∃ (j : Nat) (acc : List Int), j ≤ 26 ∧ v4 = .string (strOfNums acc) ∧ v5 = .int .u8 (65 + (j : Int)) ∧ aa (acc ++ gZ W S t hs sq i nd (26 - j) (65 + (j : Int)) = gZ W S t hs sq i nd 26 65 ∧ acc.length ≤ j ∧ ∀ c ∈ acc, 0 ≤ c ∧ c < 256) ∧ aa (Below w.heap.size w wr) ∧ aa (wr.heap[w.heap.size]? = some (.cells #[.slice A1 hs.length c1, .int .i64 W, .int .i64 S, .int .i64 t, .slice A4 sq.length c4] 25 (0, 0)))) (fun _ v5 _ => 91 - (intOf v5).toNat)
 case atStart => exact ⟨0, [], by omega, rfl, rfl, ⟨rfl, by simp, by simp⟩, ⟨ax (Below.refl _ _) _⟩, ⟨heap_alloc_new w _⟩⟩
 case round =>
  obtain ⟨j, acc, hj, rfl, rfl, HA, HB, BX⟩ := hrel; have hz0 : wr.cell? ⟨w.heap.size, 0, none⟩ = some (.slice A1 hs.length c1) := (ae BX.out 0).trans rfl; by_cases hjl : j < 26
  ·have hj1 : decide (65 + (j : Int) ≤ 90) = true := decide_eq_true (by omega); have hz1 : wr.cell? ⟨w.heap.size, 1, none⟩ = some (.int .i64 W) := (ae BX.out 1).trans rfl; have hz2 : wr.cell? ⟨w.heap.size, 2, none⟩ = some (.int .i64 S) := (ae BX.out 2).trans rfl; have hz3 : wr.cell? ⟨w.heap.size, 3, none⟩ = some (.int .i64 t) := (ae BX.out 3).trans rfl; have hz4 : wr.cell? ⟨w.heap.size, 4, none⟩ = some (.slice A4 sq.length c4) := (ae BX.out 4).trans rfl; (go_wp2_with (fail)); have nB := aa.mk (dF HB.out); have nX := aa.mk (dK BX.out); clear HB BX; have HB := nB; have BX := nX; clear nB nX; refine tV (n := 10) (S := fun w' => w'.cell? ⟨w.heap.size, 0, none⟩ = some (.slice A1 hs.length c1) ∧ w'.cell? ⟨w.heap.size, 1, none⟩ = some (.int .i64 W) ∧ w'.cell? ⟨w.heap.size, 2, none⟩ = some (.int .i64 S) ∧ w'.cell? ⟨w.heap.size, 3, none⟩ = some (.int .i64 t) ∧ w'.cell? ⟨w.heap.size, 4, none⟩ = some (.slice A4 sq.length c4)) (ds := [9]) (ba 10 0) (by kernel_rfl) rfl rfl ⟨hz0, hz1, hz2, hz3, hz4⟩ (fun cz => ?_); refine pq mD.Ov mD.Gy (fun HT_ HW_ => ?_); refine jS 2 15 (ba 10 4) HT_.out ?_
   refine jS 4 17 (ba 10 20) HT_.out ?_
   refine jS 5 18 (ba 10 52) HT_.out ?_
   refine jS 6 19 (ba 10 116) HT_.out ?_
   refine wO 0 13 (ba 10 117) HT_.out HW_.out cz ?_
   refine wJ (σ := Value × Value × Value) 2 (ba 10 255) (fun s_ => [(14, s_.1), (16, s_.2.1), (20, s_.2.2)]) (fun s_ w' => (w'.cell? ⟨w.heap.size, 0, none⟩ = some (.slice A1 hs.length c1) ∧ w'.cell? ⟨w.heap.size, 1, none⟩ = some (.int .i64 W) ∧ w'.cell? ⟨w.heap.size, 2, none⟩ = some (.int .i64 S) ∧ w'.cell? ⟨w.heap.size, 3, none⟩ = some (.int .i64 t) ∧ w'.cell? ⟨w.heap.size, 4, none⟩ = some (.slice A4 sq.length c4)) ∧ rf.R 126 w' w.heap.size (fun _ => True) s_.2.1 nd ∧ rf.R 126 w' w.heap.size (fun _ => True) s_.2.2 [⟨i, 65 + (j : Int)⟩] ∧ Below w.heap.size w w' ∧ w'.heap[w.heap.size]? = some (.cells #[.slice A1 hs.length c1, .int .i64 W, .int .i64 S, .int .i64 t, .slice A4 sq.length c4] 25 (0, 0))) ?_ ?_; rotate_left
   ·intro hCont; refine BU 1 7 14 20 (ba 10 119) (ba 10 245) HT_.out (fun K hK => ?_) (fun K hK => ?_)
    ·skip; refine Kd.iV rf w.heap.size 126 ?hg (N := 14) ?hd (xs := ([] : List lX)) (inner := []) (ok := fun _ => True) (okp := fun _ => True) ?hr ?hp (fun _ hk => hk) trivial HB.out (aH HB.out) (by simp) ?_; (case hd => rfl); (case hg => rfl); (case hr => first | (go_simp; done) | (go_simp; rfl)); (case hp => exact (dH.none _ _)); intro v14 w_ ho hb hg hat; have nO := aa.mk ho; have nX := aa.mk (bK BX.out hg (by simp)); clear BX HB; have BX := nX; have HB := aa.mk hb; have H14 := nO; clear ho hb hg hat nO nX; refine hK.out _ _ ⟨(ae BX.out 0).trans rfl, (ae BX.out 1).trans rfl, (ae BX.out 2).trans rfl, (ae BX.out 3).trans rfl, (ae BX.out 4).trans rfl⟩ (fun cz => ?_); clear hK K; refine mZ ?_
     refine BU 3 7 16 20 (ba 10 127) (ba 10 247) HT_.out (fun K hK => ?_) (fun K hK => ?_)
     ·skip; refine Kd.fG rf (w0 := w) w.heap.size (by rfl) (.tmp 14) (.tmp 15) 123 126 (.agg #[.int .i64 0, .int .u8 0]) 16 rfl Try.underlying123 zZ rfl (by decide) (by decide) v14 [] nd An _ _ (fun _ => True) (fun _ => False) rfl rfl H14.out (Kd.aV HN.out HB.out) (fun _ _ h => h) (fun _ h => h.elim) (fun _ _ => trivial) HB.out (aH HB.out) (by have := HNL.out; simp only [List.length_nil]; omega) ?_; intro v16 w_ ho hb hg hat; rw [List.nil_append] at ho; have nO := aa.mk ho; have nX := aa.mk (bK BX.out hg (Kd.ma H14.out BX.out (by decide))); clear BX HB H14; have BX := nX; have HB := aa.mk hb; have H16 := nO; clear ho hb hg hat nO nX; refine hK.out _ _ ⟨(ae BX.out 0).trans rfl, (ae BX.out 1).trans rfl, (ae BX.out 2).trans rfl, (ae BX.out 3).trans rfl, (ae BX.out 4).trans rfl⟩ (fun cz => ?_); clear hK K; refine mZ ?_
      refine on_ 7 (some 20) (ba 10 255) HT_.out (fun K hK => ?_); refine Kd.iV rf w.heap.size 126 ?hg (N := 20) ?hd (xs := ([⟨i, 65 + (j : Int)⟩] : List lX)) (inner := [.int .i64 i, .int .u8 (65 + (j : Int))]) (ok := fun _ => True) (okp := fun _ => True) ?hr ?hp (fun _ hk => hk) trivial HB.out (aH HB.out) (by simp) ?_; (case hd => rfl); (case hg => rfl); (case hr => first | (go_simp; done) | (go_simp; rfl)); (case hp => exact (dH.c2 (show Kd.M rf _ _ _ (⟨i, 65 + (j : Int)⟩ : lX) [.int .i64 i, .int .u8 (65 + (j : Int))] from Bw _ _ _ _) (dH.none _ _))); intro v20 w_ ho hb hg hat; have nO := aa.mk ho; have nX := aa.mk (bK BX.out hg (by simp)); have n16 := aa.mk (Kd.uY H16.out rfl hg (fun _ e => by cases e))
      have nD := aa.mk (show v16.ownBlock ≠ v20.ownBlock by
       obtain ⟨b, e, hlt⟩ := hat; obtain ⟨_, ho'⟩ := Kd.xK H16.out; intro e'
       exact Nat.lt_irrefl _ (Nat.lt_of_lt_of_le (yG ho' b (e'.trans e)) hlt))
      clear BX HB H16; have BX := nX; have HB := aa.mk hb; have H20 := nO; have H16 := n16; have HDIS := nD; clear nD ho hb hg hat nO nX n16; refine hK.out _ _ ⟨(ae BX.out 0).trans rfl, (ae BX.out 1).trans rfl, (ae BX.out 2).trans rfl, (ae BX.out 3).trans rfl, (ae BX.out 4).trans rfl⟩ (fun _ => hCont ⟨_, _, _⟩ _ ⟨⟨(ae BX.out 0).trans rfl, (ae BX.out 1).trans rfl, (ae BX.out 2).trans rfl, (ae BX.out 3).trans rfl, (ae BX.out 4).trans rfl⟩, H16.out, H20.out, HB.out, BX.out⟩)
     ·skip; refine Kd.iV rf w.heap.size 126 ?hg (N := 20) ?hd (xs := ([⟨i, 65 + (j : Int)⟩] : List lX)) (inner := [.int .i64 i, .int .u8 (65 + (j : Int))]) (ok := fun _ => True) (okp := fun _ => True) ?hr ?hp (fun _ hk => hk) trivial HB.out (aH HB.out) (by simp) ?_; (case hd => rfl); (case hg => rfl); (case hr => first | (go_simp; done) | (go_simp; rfl)); (case hp => exact (dH.c2 (show Kd.M rf _ _ _ (⟨i, 65 + (j : Int)⟩ : lX) [.int .i64 i, .int .u8 (65 + (j : Int))] from Bw _ _ _ _) (dH.none _ _))); intro v20 w_ ho hb hg hat; have nO := aa.mk ho; have nX := aa.mk (bK BX.out hg (by simp)); have n14 := aa.mk (Kd.uY H14.out rfl hg (fun _ e => by cases e))
      have nD := aa.mk (show v14.ownBlock ≠ v20.ownBlock by
       obtain ⟨b, e, hlt⟩ := hat; obtain ⟨_, ho'⟩ := Kd.xK H14.out; intro e'
       exact Nat.lt_irrefl _ (Nat.lt_of_lt_of_le (yG ho' b (e'.trans e)) hlt))
      clear BX HB H14; have BX := nX; have HB := aa.mk hb; have H20 := nO; have H14 := n14; have HDIS := nD; clear nD ho hb hg hat nO nX n14; refine hK.out _ _ ⟨(ae BX.out 0).trans rfl, (ae BX.out 1).trans rfl, (ae BX.out 2).trans rfl, (ae BX.out 3).trans rfl, (ae BX.out 4).trans rfl⟩ (fun cz => ?_); clear hK K; refine mZ ?_
      refine on_ 3 (some 16) (ba 10 255) HT_.out (fun K hK => ?_); refine Kd.fG rf (w0 := w) w.heap.size (by rfl) (.tmp 14) (.tmp 15) 123 126 (.agg #[.int .i64 0, .int .u8 0]) 16 rfl Try.underlying123 zZ rfl (by decide) (by decide) v14 [] nd An _ _ (fun _ => True) (fun _ => False) rfl rfl H14.out (Kd.aV HN.out HB.out) (fun _ _ h => h) (fun _ h => h.elim) (fun _ _ => trivial) HB.out (aH HB.out) (by have := HNL.out; simp only [List.length_nil]; omega) ?_; intro v16 w_ ho hb hg hat; rw [List.nil_append] at ho; have nO := aa.mk ho; have nX := aa.mk (bK BX.out hg (Kd.ma H14.out BX.out (by decide))); have n20 := aa.mk (Kd.uY H20.out rfl hg (fun k e e' => HDIS.out (e.trans e'))); clear BX HB H14 H20; have BX := nX; have HB := aa.mk hb; have H16 := nO; have H20 := n20; clear ho hb hg hat nO nX n20; refine hK.out _ _ ⟨(ae BX.out 0).trans rfl, (ae BX.out 1).trans rfl, (ae BX.out 2).trans rfl, (ae BX.out 3).trans rfl, (ae BX.out 4).trans rfl⟩ (fun _ => hCont ⟨_, _, _⟩ _ ⟨⟨(ae BX.out 0).trans rfl, (ae BX.out 1).trans rfl, (ae BX.out 2).trans rfl, (ae BX.out 3).trans rfl, (ae BX.out 4).trans rfl⟩, H16.out, H20.out, HB.out, BX.out⟩)
    ·skip; refine Kd.iV rf w.heap.size 126 ?hg (N := 20) ?hd (xs := ([⟨i, 65 + (j : Int)⟩] : List lX)) (inner := [.int .i64 i, .int .u8 (65 + (j : Int))]) (ok := fun _ => True) (okp := fun _ => True) ?hr ?hp (fun _ hk => hk) trivial HB.out (aH HB.out) (by simp) ?_; (case hd => rfl); (case hg => rfl); (case hr => first | (go_simp; done) | (go_simp; rfl)); (case hp => exact (dH.c2 (show Kd.M rf _ _ _ (⟨i, 65 + (j : Int)⟩ : lX) [.int .i64 i, .int .u8 (65 + (j : Int))] from Bw _ _ _ _) (dH.none _ _))); intro v20 w_ ho hb hg hat; have nO := aa.mk ho; have nX := aa.mk (bK BX.out hg (by simp)); clear BX HB; have BX := nX; have HB := aa.mk hb; have H20 := nO; clear ho hb hg hat nO nX; refine hK.out _ _ ⟨(ae BX.out 0).trans rfl, (ae BX.out 1).trans rfl, (ae BX.out 2).trans rfl, (ae BX.out 3).trans rfl, (ae BX.out 4).trans rfl⟩ (fun cz => ?_); clear hK K; refine mZ ?_
     refine on_ 1 (some 14) (ba 10 247) HT_.out (fun K hK => ?_); refine Kd.iV rf w.heap.size 126 ?hg (N := 14) ?hd (xs := ([] : List lX)) (inner := []) (ok := fun _ => True) (okp := fun _ => True) ?hr ?hp (fun _ hk => hk) trivial HB.out (aH HB.out) (by simp) ?_; (case hd => rfl); (case hg => rfl); (case hr => first | (go_simp; done) | (go_simp; rfl)); (case hp => exact (dH.none _ _)); intro v14 w_ ho hb hg hat; have nO := aa.mk ho; have nX := aa.mk (bK BX.out hg (by simp)); have n20 := aa.mk (Kd.uY H20.out rfl hg (fun _ e => by cases e))
     have nD := aa.mk (show v20.ownBlock ≠ v14.ownBlock by
      obtain ⟨b, e, hlt⟩ := hat; obtain ⟨_, ho'⟩ := Kd.xK H20.out; intro e'
      exact Nat.lt_irrefl _ (Nat.lt_of_lt_of_le (yG ho' b (e'.trans e)) hlt))
     clear BX HB H20; have BX := nX; have HB := aa.mk hb; have H14 := nO; have H20 := n20; have HDIS := nD; clear nD ho hb hg hat nO nX n20; refine hK.out _ _ ⟨(ae BX.out 0).trans rfl, (ae BX.out 1).trans rfl, (ae BX.out 2).trans rfl, (ae BX.out 3).trans rfl, (ae BX.out 4).trans rfl⟩ (fun cz => ?_); clear hK K; refine mZ ?_
     refine on_ 3 (some 16) (ba 10 255) HT_.out (fun K hK => ?_); refine Kd.fG rf (w0 := w) w.heap.size (by rfl) (.tmp 14) (.tmp 15) 123 126 (.agg #[.int .i64 0, .int .u8 0]) 16 rfl Try.underlying123 zZ rfl (by decide) (by decide) v14 [] nd An _ _ (fun _ => True) (fun _ => False) rfl rfl H14.out (Kd.aV HN.out HB.out) (fun _ _ h => h) (fun _ h => h.elim) (fun _ _ => trivial) HB.out (aH HB.out) (by have := HNL.out; simp only [List.length_nil]; omega) ?_; intro v16 w_ ho hb hg hat; rw [List.nil_append] at ho; have nO := aa.mk ho; have nX := aa.mk (bK BX.out hg (Kd.ma H14.out BX.out (by decide))); have n20 := aa.mk (Kd.uY H20.out rfl hg (fun k e e' => HDIS.out ((e.trans e').symm))); clear BX HB H14 H20; have BX := nX; have HB := aa.mk hb; have H16 := nO; have H20 := n20; clear ho hb hg hat nO nX n20; refine hK.out _ _ ⟨(ae BX.out 0).trans rfl, (ae BX.out 1).trans rfl, (ae BX.out 2).trans rfl, (ae BX.out 3).trans rfl, (ae BX.out 4).trans rfl⟩ (fun _ => hCont ⟨_, _, _⟩ _ ⟨⟨(ae BX.out 0).trans rfl, (ae BX.out 1).trans rfl, (ae BX.out 2).trans rfl, (ae BX.out 3).trans rfl, (ae BX.out 4).trans rfl⟩, H16.out, H20.out, HB.out, BX.out⟩)
   rintro ⟨v14, v16, v20⟩ w_ ⟨cz, h16, h20, hb, hx⟩; clear HB BX hz0 hz1 hz2 hz3 hz4; have HB := aa.mk hb; have BX := aa.mk hx; have H16 := aa.mk h16; clear hb hx h16; obtain ⟨A20, c20, e20, _, hc20⟩ := Kd.tZ h20; simp only at e20; subst e20; have Ms := aa.mk hc20; clear hc20 h20; refine CF ?_
   refine on_ 8 (some 21) (ba 10 511) HT_.out (fun K hK => ?_); refine Kd.fG rf (w0 := w) w.heap.size (by rfl) (.tmp 16) (.tmp 20) 123 126 (.agg #[.int .i64 0, .int .u8 0]) 16 rfl Try.underlying123 zZ rfl (by decide) (by decide) v16 nd [⟨i, 65 + (j : Int)⟩] A20 _ _ (fun _ => True) (fun _ => False) rfl rfl H16.out Ms.out (fun _ _ h => h) (fun _ h => h.elim) (fun _ _ => trivial) HB.out (aH HB.out) (by have := HNL.out; simp only [List.length_cons, List.length_nil]; omega) ?_; intro v21 w5 ho hb hg hat; have nX := aa.mk (bK BX.out hg (Kd.ma H16.out BX.out (by decide))); obtain ⟨A21, c21, rfl, _, hc21⟩ := Kd.tZ ho; have aaW := aa.mk hc21; clear BX HB H16; have BX := nX; have HB := aa.mk hb; clear ho hb hg hat nX hc21; refine hK.out _ _ ⟨(ae BX.out 0).trans rfl, (ae BX.out 1).trans rfl, (ae BX.out 2).trans rfl, (ae BX.out 3).trans rfl, (ae BX.out 4).trans rfl⟩ (fun cz => ?_); clear hK K; refine mZ ?_
   refine Ir 9 (some 22) (ba 10 1023) HT_.out (fun K hK => ?_); refine FP Try.func81 (by kernel_rfl) rfl #[.agg #[.slice A1 hs.length c1, .int .i64 W, .int .i64 S, .int .i64 t, .slice A4 sq.length c4], .slice A21 (nd ++ [(⟨i, 65 + (j : Int)⟩ : lX)]).length c21] (by rfl) rfl rfl (by (try simp only [List.map_toArray, List.map_cons, List.map_nil]); first | done | rfl) ?_; (with_reducible refine (OZ A1 c1 hs W S t A4 c4 sq A21 c21 (nd ++ [(⟨i, 65 + (j : Int)⟩ : lX)]) _ (Kd.aV HH.out HB.out) (Kd.aV HR.out HB.out) aaW.out (by have := HNL.out; simp only [List.length_append, List.length_cons, List.length_nil]; omega) HQ.out HS.out).mono ?_); rintro e w6 ⟨rfl, hb⟩; refine ⟨_, rfl, ?_⟩; have nB := aa.mk (aC HB.out hb); have nX := aa.mk (au BX.out hb); clear HB BX; have HB := nB; have BX := nX; clear nB nX hb Ms aaW cz; refine hK.out _ _ ?_; clear hK K; refine I9 HT_.out ?_; obtain ⟨fv, hfv⟩ : ∃ fv, fv = jU W S t sq (nd ++ [(⟨i, 65 + (j : Int)⟩ : lX)]) hs := ⟨_, rfl⟩; rw [← hfv]
   cases fv with
   | false =>
    have HV := aa.mk hfv; (have hw8 : IntKind.u8.wrap (65 + (j : Int) + 1) = 65 + ((j + 1 : Nat) : Int) := by rw [IntKind.wrap_u8]; omega); clear hfv; go_wp2
    go_roundw
    case rel =>
     refine ⟨j + 1, acc, by omega, rfl, by first | exact congrArg (Value.int .u8) hw8 | (rw [hw8]) | go_num, ⟨?_, by have := HA.out.2.1; omega, HA.out.2.2⟩, HB, BX⟩; have e := HA.out.1; rw [show 26 - j = (26 - (j + 1)) + 1 by omega, gZ, ← HV.out, if_neg (by decide)] at e; rw [← e, show (65 : Int) + ((j + 1 : Nat) : Int) = 65 + (j : Int) + 1 by omega]
    case measure => simp [intOf]; omega
   | true =>
    have HV := aa.mk hfv; have hw8 : IntKind.u8.wrap (65 + (j : Int) + 1) = 65 + ((j + 1 : Nat) : Int) := by rw [IntKind.wrap_u8]; omega
    have hcv : (convert 88 9 (.slice (some ⟨w6.heap.size, 0, none⟩) 1 1)).run Try.prog (w6.alloc (.cells #[.int .u8 (65 + (j : Int))] 5)) = .ok (.string (strOfNums [65 + (j : Int)])) (w6.alloc (.cells #[.int .u8 (65 + (j : Int))] 5)) := by
     refine run_convert_bytes_arg (P := Try.prog) _ 88 5 Try.underlying88 Try.underlying5 w6.heap.size 0 1 1 [65 + (j : Int)] rfl (fun k hk => ?_) 9 Try.underlying9; (obtain rfl : k = 0 := by omega); exact (ae (heap_alloc_new w6 _) 0).trans rfl
    (have hcv' : ∀ s : ByteArray, s = strOfNums [65 + (j : Int)] → strOfNums acc ++ s = strOfNums (acc ++ [65 + (j : Int)]) := fun s e => by rw [e, Au]); (have hlim : ¬ 9223372036854775807 < (strOfNums acc).size + (strOfNums [65 + (j : Int)]).size := by have := HA.out.2.1; rw [strOfNums_size, strOfNums_size, List.length_singleton]; omega); clear hfv; go_wp2
    go_roundw
    case rel =>
     refine ⟨j + 1, acc ++ [65 + (j : Int)], by omega, by first | rfl | exact congrArg Value.string (hcv' _ rfl), by first | exact congrArg (Value.int .u8) hw8 | (rw [hw8]) | go_num, ⟨?_, by have := HA.out.2.1; simp; omega, ?_⟩, ⟨ax HB.out _⟩, ⟨bT BX.out _⟩⟩
     ·have e := HA.out.1; rw [show 26 - j = (26 - (j + 1)) + 1 by omega, gZ, ← HV.out, if_pos rfl] at e; rw [← e, show (65 : Int) + ((j + 1 : Nat) : Int) = 65 + (j : Int) + 1 by omega, List.append_assoc]; rfl
     ·intro c hc; rcases List.mem_append.1 hc with hc | hc
      ·exact HA.out.2.2 c hc
      ·rw [List.mem_singleton] at hc; omega
    case measure => simp [intOf]; omega
  ·(obtain rfl : j = 26 := by omega); (have hj1 : decide (65 + ((26 : Nat) : Int) ≤ 90) = false := by decide); go_wp2
   go_ret
   exact ⟨by have e := HA.out.1; rw [Nat.sub_self, gZ, List.append_nil] at e; rw [e]; rfl, HB.out⟩
def Ei (W S t : Int) (hs : List S66) (sq : List (List S27)) (i : Int) : List Int := gZ W S t hs sq i [] 26 65
def gD (W S t : Int) (hs : List S66) (sq : List (List S27)) (n : Nat) : List ByteArray := (List.range n).map fun (i : Nat) => strOfNums (Ei W S t hs sq (i : Int))
def ic (hs : List S66) (W S t : Int) (sq : List (List S27)) : List ByteArray × Int := if (mP hs W S t sq).2 = 0 then (gD W S t hs sq sq.length, 0) else ([], (mP hs W S t sq).2)
theorem zF {hs : List S66} {W S t : Int} {sq : List (List S27)} (h : (mP hs W S t sq).2 = 0) : sH sq ∧ DL hs := by
 by_cases hc : dY hs W S t sq = 0
 ·exact lc hc
 ·rw [mP, if_neg hc] at h; exact absurd h hc
set_option maxRecDepth 100000 in
set_option maxHeartbeats 4000000 in
theorem Gw (A1 : Option Addr) (c1 : Nat) (hs : List S66) (W S t : Int) (A4 : Option Addr) (c4 : Nat) (sq : List (List S27)) (w : World)
 (hh : Kd.C k66 w A1 hs.length hs) (hr : Kd.C (Kd.slice 27 k27) w A4 sq.length sq) :
 Calls Try.prog 38 #[.agg #[.slice A1 hs.length c1, .int .i64 W, .int .i64 S, .int .i64 t, .slice A4 sq.length c4]] w fun e w' => ∃ v, e = .returned (.tuple #[v, .int .i64 (ic hs W S t sq).2]) ∧ Kd.R Kd.string 9 w' w.heap.size (fun _ => True) v (ic hs W S t sq).1 ∧ Below w.heap.size w w' := by
 have HR := aa.mk hr; have HH := aa.mk hh; clear hr hh; go_enter Try.func38, Try.ntmps38; (go_upto_region 1 with (fail)); obtain ⟨W1, hW1⟩ : ∃ W1, W1 = w.alloc (.cells #[.slice A1 hs.length c1, .int .i64 W, .int .i64 S, .int .i64 t, .slice A4 sq.length c4] 25) := ⟨_, rfl⟩; have HB := aa.mk (show Below w.heap.size w W1 by rw [hW1]; exact ax (Below.refl _ _) _); have BX := aa.mk (show W1.heap[w.heap.size]? = some (.cells #[.slice A1 hs.length c1, .int .i64 W, .int .i64 S, .int .i64 t, .slice A4 sq.length c4] 25 (0, 0)) by rw [hW1]; exact heap_alloc_new w _); rw [← hW1]; have hb0 : W1.cell? ⟨w.heap.size, 0, none⟩ = some (.slice A1 hs.length c1) := (ae BX.out 0).trans rfl; have hb1 : W1.cell? ⟨w.heap.size, 1, none⟩ = some (.int .i64 W) := (ae BX.out 1).trans rfl; have hb2 : W1.cell? ⟨w.heap.size, 2, none⟩ = some (.int .i64 S) := (ae BX.out 2).trans rfl; have hb3 : W1.cell? ⟨w.heap.size, 3, none⟩ = some (.int .i64 t) := (ae BX.out 3).trans rfl; have hb4 : W1.cell? ⟨w.heap.size, 4, none⟩ = some (.slice A4 sq.length c4) := (ae BX.out 4).trans rfl; clear hW1; (go_wp2_with (fail)); refine (Mk A1 c1 hs W S t A4 c4 sq _ (Kd.aV HH.out HB.out) (Kd.aV HR.out HB.out)).mono ?_; rintro e w2 ⟨hv, rfl, _, hb⟩; have HB2 := aa.mk (aC HB.out hb); have BX2 := aa.mk (au BX.out hb); clear hb hb0 hb1 hb2 hb3 hb4; have HE := aa.mk (show ic hs W S t sq = if (mP hs W S t sq).2 = 0 then (gD W S t hs sq sq.length, 0) else ([], (mP hs W S t sq).2) from rfl); have HOK := aa.mk (fun h : (mP hs W S t sq).2 = 0 => zF h); obtain ⟨ev, hev⟩ : ∃ ev, ev = (mP hs W S t sq).2 := ⟨_, rfl⟩; rw [← hev] at HE HOK ⊢; clear hev; by_cases hz : ev = 0
 ·have HF := aa.mk (HE.out.trans (if_pos hz)); obtain ⟨oq, oh⟩ := HOK.out hz; have OQ := aa.mk oq; have OH := aa.mk oh; have OL := aa.mk oq.1; (have z1 : (ev == 0) = true := by rw [hz]; rfl); (have z2 : (ev != 0) = false := by rw [hz]; rfl); clear hz HE HOK oq oh; go_wp2
  go_loopw [6, 7] (fun v6 v7 wr => ∃ (j : Nat), j ≤ sq.length ∧ v7 = .int .i64 j ∧ aa (Kd.R Kd.string 9 wr w.heap.size (fun _ => True) v6 (gD W S t hs sq j)) ∧ aa (Below w.heap.size w wr) ∧ aa (wr.heap[w.heap.size]? = some (.cells #[.slice A1 hs.length c1, .int .i64 W, .int .i64 S, .int .i64 t, .slice A4 sq.length c4] 25 (0, 0)))) (fun _ v7 _ => sq.length - (intOf v7).toNat)
  case atStart => exact ⟨0, by omega, rfl, ⟨Kd.qL _ _ _ _ _⟩, HB2, BX2⟩
  case round =>
   clear HB BX HB2 BX2; obtain ⟨j, hj, rfl, HO, HB, BX⟩ := hrel; have hz0 : wr.cell? ⟨w.heap.size, 0, none⟩ = some (.slice A1 hs.length c1) := (ae BX.out 0).trans rfl; have hz1 : wr.cell? ⟨w.heap.size, 1, none⟩ = some (.int .i64 W) := (ae BX.out 1).trans rfl; have hz2 : wr.cell? ⟨w.heap.size, 2, none⟩ = some (.int .i64 S) := (ae BX.out 2).trans rfl; have hz3 : wr.cell? ⟨w.heap.size, 3, none⟩ = some (.int .i64 t) := (ae BX.out 3).trans rfl; have hz4 : wr.cell? ⟨w.heap.size, 4, none⟩ = some (.slice A4 sq.length c4) := (ae BX.out 4).trans rfl; by_cases hjl : j < sq.length
   ·have hj1 : decide ((j : Int) < (sq.length : Int)) = true := decide_eq_true (by omega); (have hjlt : (j : Int) < (sq.length : Int) := by omega); (have hj8 : (j : Int) < 8 := by have := OL.out; omega); have HLEN := aa.mk (show (gD W S t hs sq j).length = j by simp [gD]); (go_wp2_with (fail)); refine (Gx A1 c1 hs W S t A4 c4 sq (j : Int) none 0 [] _ (Kd.aV HH.out HB.out) (Kd.aV HR.out HB.out) (Kd.M8 _ _) (by decide) OQ.out OH.out).mono ?_; rintro e w3 ⟨rfl, hb⟩; have HB3 := aa.mk (aC HB.out hb); have BX3 := aa.mk (au BX.out hb); have HO3 := aa.mk (Kd.eD HO.out hb); clear hb hz0 hz1 hz2 hz3 hz4
    have HS := aa.mk (show gD W S t hs sq (j + 1) = gD W S t hs sq j ++ [strOfNums (gZ W S t hs sq (j : Int) [] 26 65)] by
     rw [gD, List.range_succ, List.map_append]; rfl)
    obtain ⟨sv, hsv⟩ : ∃ sv, sv = strOfNums (gZ W S t hs sq (j : Int) [] 26 65) := ⟨_, rfl⟩; rw [← hsv] at HS ⊢; clear hsv; have HLIM := aa.mk (show ((gD W S t hs sq j).length + 1) * 16 ≤ 140737488355328 by have := HLEN.out; omega); (go_wp2_with (at_builtin; refine Kd.wZ Kd.string (w0 := w) w.heap.size rfl (.tmp 23) (.tmp 27) 48 9 (.string ⟨#[]⟩) 16 rfl Try.underlying48 U8 rfl (by decide) (by decide) _ (gD W S t hs sq j) sv [.string sv] (fun _ => True) (fun _ => False) rfl rfl rfl (fun _ h => h.elim) (fun _ _ => trivial) HO3.out HB3.out HB3.out.size HLIM.out ?_; intro v1 w4 ho hb4 hg hat)); have HO4 := aa.mk ho; have BX4 := aa.mk (bK BX3.out hg (Kd.ma HO3.out BX3.out (by decide))); have HB4 := aa.mk hb4; clear ho hb4 hg hat; go_wp2
    go_roundw
    (case rel => exact ⟨j + 1, by omega, by go_num, ⟨by rw [HS.out]; exact HO4.out⟩, HB4, BX4⟩); case measure => simp [intOf]; omega
   ·(obtain rfl : j = sq.length := by omega); (have hj1 : decide ((sq.length : Int) < (sq.length : Int)) = false := by simp); go_wp2
    go_ret2
    exact ⟨_, by rw [HF.out]; rfl, by rw [HF.out]; exact HO.out, HB.out⟩
 ·have HF := aa.mk (HE.out.trans (if_neg hz)); have z1 : (ev == 0) = false := beq_eq_false_iff_ne.2 hz; have z2 : (ev != 0) = true := bne_iff_ne.2 hz; clear hz HE HOK; go_wp2
  go_ret2
  exact ⟨_, by rw [HF.out]; rfl, by rw [HF.out]; exact Kd.qL _ _ _ _ _, HB2.out⟩
def fZ (s x : ByteArray) : ByteArray := if x.size = 1 then s ++ x else if x.size ≤ 3 then s ++ (⟨#[123]⟩ : ByteArray) ++ x ++ (⟨#[125]⟩ : ByteArray) else s ++ (⟨#[45]⟩ : ByteArray)
def kT : ByteArray → List ByteArray → ByteArray
 | s, [] => s
 | s, x :: r => kT (fZ s x) r
theorem Cc (xs : List ByteArray) (s : ByteArray) (j : Nat) (h : j < xs.length) : kT s (xs.drop j) = kT (fZ s (iK ByteArray.empty xs (j : Int))) (xs.drop (j + 1)) := by
 (have e : iK ByteArray.empty xs (j : Int) = xs[j] := by simp [iK, List.getD_eq_getElem?_getD, h]); rw [List.drop_eq_getElem_cons h, kT, e]
theorem uS (s x : ByteArray) : (fZ s x).size ≤ s.size + 5 := by
 unfold fZ; have e1 : (⟨#[123]⟩ : ByteArray).size = 1 := rfl; have e2 : (⟨#[125]⟩ : ByteArray).size = 1 := rfl; have e3 : (⟨#[45]⟩ : ByteArray).size = 1 := rfl; split
 ·rw [ByteArray.size_append]; omega
 ·split
  ·rw [ByteArray.size_append, ByteArray.size_append, ByteArray.size_append, e1, e2]; omega
  ·rw [ByteArray.size_append, e3]; omega
def ol (hs : List S66) (W S t : Int) (sq : List (List S27)) : ByteArray × Int := if (ic hs W S t sq).2 = 0 then (kT ⟨#[]⟩ (ic hs W S t sq).1, 0) else (⟨#[]⟩, (ic hs W S t sq).2)
theorem BG {hs : List S66} {W S t : Int} {sq : List (List S27)} (h : (ic hs W S t sq).2 = 0) : (ic hs W S t sq).1.length ≤ 8 := by
 by_cases hc : (mP hs W S t sq).2 = 0
 ·rw [ic, if_pos hc]; have := (zF hc).1.1; simp [gD]; omega
 ·rw [ic, if_neg hc] at h; exact absurd h hc
set_option maxRecDepth 100000 in
set_option maxHeartbeats 4000000 in
theorem Ld (A1 : Option Addr) (c1 : Nat) (hs : List S66) (W S t : Int) (A4 : Option Addr) (c4 : Nat) (sq : List (List S27)) (w : World)
 (hh : Kd.C k66 w A1 hs.length hs) (hr : Kd.C (Kd.slice 27 k27) w A4 sq.length sq) :
 Calls Try.prog 20 #[.agg #[.slice A1 hs.length c1, .int .i64 W, .int .i64 S, .int .i64 t, .slice A4 sq.length c4]] w fun e w' => e = .returned (.tuple #[.string (ol hs W S t sq).1, .int .i64 (ol hs W S t sq).2]) ∧ Below w.heap.size w w' := by
 have HR := aa.mk hr; have HH := aa.mk hh; clear hr hh; go_enter Try.func20, Try.ntmps20; (go_upto_region 1 with (fail)); obtain ⟨W1, hW1⟩ : ∃ W1, W1 = w.alloc (.cells #[.slice A1 hs.length c1, .int .i64 W, .int .i64 S, .int .i64 t, .slice A4 sq.length c4] 25) := ⟨_, rfl⟩; have HB := aa.mk (show Below w.heap.size w W1 by rw [hW1]; exact ax (Below.refl _ _) _); have BX := aa.mk (show W1.heap[w.heap.size]? = some (.cells #[.slice A1 hs.length c1, .int .i64 W, .int .i64 S, .int .i64 t, .slice A4 sq.length c4] 25 (0, 0)) by rw [hW1]; exact heap_alloc_new w _); rw [← hW1]; have hb0 : W1.cell? ⟨w.heap.size, 0, none⟩ = some (.slice A1 hs.length c1) := (ae BX.out 0).trans rfl; have hb1 : W1.cell? ⟨w.heap.size, 1, none⟩ = some (.int .i64 W) := (ae BX.out 1).trans rfl; have hb2 : W1.cell? ⟨w.heap.size, 2, none⟩ = some (.int .i64 S) := (ae BX.out 2).trans rfl; have hb3 : W1.cell? ⟨w.heap.size, 3, none⟩ = some (.int .i64 t) := (ae BX.out 3).trans rfl; have hb4 : W1.cell? ⟨w.heap.size, 4, none⟩ = some (.slice A4 sq.length c4) := (ae BX.out 4).trans rfl; clear hW1; (go_wp2_with (fail)); refine (Gw A1 c1 hs W S t A4 c4 sq _ (Kd.aV HH.out HB.out) (Kd.aV HR.out HB.out)).mono ?_; rintro e w2 ⟨hv, rfl, hr, hb⟩; have HB2 := aa.mk (aC HB.out hb); have HE := aa.mk (show ol hs W S t sq = if (ic hs W S t sq).2 = 0 then (kT ⟨#[]⟩ (ic hs W S t sq).1, 0) else (⟨#[]⟩, (ic hs W S t sq).2) from rfl); have HOK := aa.mk (fun h : (ic hs W S t sq).2 = 0 => BG h); clear hb hb0 hb1 hb2 hb3 hb4; obtain ⟨ev, hev⟩ : ∃ ev, ev = (ic hs W S t sq).2 := ⟨_, rfl⟩; obtain ⟨xs, hxs⟩ : ∃ xs, xs = (ic hs W S t sq).1 := ⟨_, rfl⟩; rw [← hev] at HE HOK ⊢; rw [← hxs] at HE HOK hr; clear hev hxs; obtain ⟨Ax, cx, rfl, _, hc⟩ := Kd.tZ hr; have HX := aa.mk hc; clear hr hc; by_cases hz : ev = 0
 ·have HF := aa.mk (HE.out.trans (if_pos hz)); have OL := aa.mk (HOK.out hz); (have z1 : (ev == 0) = true := by rw [hz]; rfl); (have z2 : (ev != 0) = false := by rw [hz]; rfl); clear hz HE HOK; go_wp2
  go_loopw [6, 7] (fun v6 v7 wr => ∃ (j : Nat) (s : ByteArray), j ≤ xs.length ∧ v6 = .string s ∧ v7 = .int .i64 j ∧ aa (kT ⟨#[]⟩ xs = kT s (xs.drop j) ∧ s.size ≤ 5 * j) ∧ aa (Below w2.heap.size w2 wr)) (fun _ v7 _ => xs.length - (intOf v7).toNat)
  case atStart => exact ⟨0, ⟨#[]⟩, by omega, rfl, rfl, ⟨rfl, Nat.le_refl _⟩, ⟨Below.refl _ _⟩⟩
  case round =>
   clear HB; obtain ⟨j, s, hj, rfl, rfl, HA, HB⟩ := hrel; by_cases hjl : j < xs.length
   ·have hj1 : decide ((j : Int) < (xs.length : Int)) = true := decide_eq_true (by omega); (have hjlt : (j : Int) < (xs.length : Int) := by omega); (have hj8 : (j : Int) < 8 := by have := OL.out; omega); have HD := aa.mk (HA.out.1.trans (Cc xs s j hjl)); have HSZ := aa.mk (show s.size ≤ 40 by have := HA.out.2; omega); obtain ⟨ad, e, hx⟩ := Kd.vR (Kd.aV HX.out HB.out) (j : Int) (by omega) (by omega); cases e; rw [Int.toNat_natCast] at hx; obtain ⟨x, hxd⟩ : ∃ x, x = iK ByteArray.empty xs (j : Int) := ⟨_, rfl⟩; rw [← hxd] at HD hx; clear hxd; have HP := aa.mk (uS s x); have e1 : (⟨#[123]⟩ : ByteArray).size = 1 := rfl; have e2 : (⟨#[125]⟩ : ByteArray).size = 1 := rfl; have e3 : (⟨#[45]⟩ : ByteArray).size = 1 := rfl; by_cases c1 : x.size = 1
    ·(have k1 : ((x.size : Int) == 1) = true := by rw [c1]; rfl); (have k2 : (x.size == 1) = true := by rw [c1]; rfl); have HQ := aa.mk (show fZ s x = s ++ x by rw [fZ, if_pos c1]); (have hlim : ¬ 9223372036854775807 < s.size + x.size := by have := HSZ.out; omega); (have k3 : x.size ≤ 3 := by omega); clear c1; go_wp2
     go_roundw
     (case rel => exact ⟨j + 1, s ++ x, by omega, rfl, by go_num, ⟨by rw [HD.out, HQ.out], by have := HP.out; have := HA.out.2; rw [HQ.out] at *; omega⟩, HB⟩); case measure => simp [intOf]; omega
    ·have k1 : ((x.size : Int) == 1) = false := beq_eq_false_iff_ne.2 (by omega); have k2 : (x.size == 1) = false := beq_eq_false_iff_ne.2 c1; by_cases c2 : x.size ≤ 3
     ·have k3 : decide ((x.size : Int) ≤ 3) = true := decide_eq_true (by omega); have k4 : decide (x.size ≤ 3) = true := decide_eq_true c2; have HQ := aa.mk (show fZ s x = s ++ (⟨#[123]⟩ : ByteArray) ++ x ++ (⟨#[125]⟩ : ByteArray) by rw [fZ, if_neg c1, if_pos c2]); (have hlim1 : ¬ 9223372036854775807 < s.size + 1 := by have := HSZ.out; omega); (have hlim2 : ¬ 9223372036854775807 < s.size + 1 + x.size := by have := HSZ.out; omega); (have hlim3 : ¬ 9223372036854775807 < s.size + 1 + x.size + 1 := by have := HSZ.out; omega); clear c1 c2 e1 e2 e3; go_wp2
      go_roundw
      (case rel => exact ⟨j + 1, _, by omega, rfl, by go_num, ⟨by rw [HD.out, HQ.out], by have := HP.out; have := HA.out.2; rw [HQ.out] at *; omega⟩, HB⟩); case measure => simp [intOf]; omega
     ·have k3 : decide ((x.size : Int) ≤ 3) = false := decide_eq_false (by omega); have k4 : decide (x.size ≤ 3) = false := decide_eq_false c2; have HQ := aa.mk (show fZ s x = s ++ (⟨#[45]⟩ : ByteArray) by rw [fZ, if_neg c1, if_neg c2]); (have hlim1 : ¬ 9223372036854775807 < s.size + 1 := by have := HSZ.out; omega); clear c1 c2 e1 e2 e3; go_wp2
      go_roundw
      (case rel => exact ⟨j + 1, _, by omega, rfl, by go_num, ⟨by rw [HD.out, HQ.out], by have := HP.out; have := HA.out.2; rw [HQ.out] at *; omega⟩, HB⟩); case measure => simp [intOf]; omega
   ·(obtain rfl : j = xs.length := by omega); (have hj1 : decide ((xs.length : Int) < (xs.length : Int)) = false := by simp); have HG := aa.mk (show ol hs W S t sq = (s, 0) by rw [HF.out, HA.out.1, List.drop_length, kT]); go_wp2
    go_ret2
    exact ⟨by rw [HG.out]; rfl, aC HB2.out HB.out⟩
 ·have HF := aa.mk (HE.out.trans (if_neg hz)); have z1 : (ev == 0) = false := beq_eq_false_iff_ne.2 hz; have z2 : (ev != 0) = true := bne_iff_ne.2 hz; clear hz HE HOK; go_wp2
  go_ret2
  exact ⟨by rw [HF.out]; rfl, HB2.out⟩
def ku (hs : List S66) (sq : List (List S27)) : Prop := hs.length ≤ 20 ∧ sq.length ≤ 20 ∧ (∀ h ∈ hs, h.f1.length ≤ 20) ∧ ∀ q ∈ sq, q.length ≤ 20
set_option maxRecDepth 100000 in
set_option maxHeartbeats 4000000 in
theorem Lx (A1 : Option Addr) (c1 : Nat) (hs : List S66) (W S t : Int) (A4 : Option Addr) (c4 : Nat) (sq : List (List S27)) (w : World)
 (hh : Kd.C k66 w A1 hs.length hs) (hr : Kd.C (Kd.slice 27 k27) w A4 sq.length sq) :
 Calls Try.prog 13 #[.agg #[.slice A1 hs.length c1, .int .i64 W, .int .i64 S, .int .i64 t, .slice A4 sq.length c4]] w fun e w' => ∃ b, e = .returned (.bool b) ∧ (b = false → ku hs sq) ∧ Below w.heap.size w w' := by
 have HR := aa.mk hr; have HH := aa.mk hh; clear hr hh; go_enter Try.func13, Try.ntmps13; go_wp2
 go_loopw [3] (fun v2 wr => ∃ (j : Nat), j ≤ hs.length ∧ j ≤ 20 ∧ v2 = .int .i64 j ∧ aa (∀ k : Nat, k < j → (ah hs (k : Int)).f1.length ≤ 20) ∧ aa (Below w.heap.size w wr) ∧ aa (wr.heap[w.heap.size]? = some (.cells #[.slice A1 hs.length c1, .int .i64 W, .int .i64 S, .int .i64 t, .slice A4 sq.length c4] 25 (0, 0)))) (fun v2 _ => 20 - (intOf v2).toNat)
 case atStart => exact ⟨0, by omega, by omega, rfl, ⟨fun k hk => by omega⟩, ⟨ax (Below.refl _ _) _⟩, ⟨heap_alloc_new w _⟩⟩
 case round =>
  obtain ⟨j, hj, hj20, rfl, HA, HB, BX⟩ := hrel; have hz0 : wr.cell? ⟨w.heap.size, 0, none⟩ = some (.slice A1 hs.length c1) := (ae BX.out 0).trans rfl; have hz4 : wr.cell? ⟨w.heap.size, 4, none⟩ = some (.slice A4 sq.length c4) := (ae BX.out 4).trans rfl; by_cases hjl : j < hs.length ∧ j < 20
  ·have hj1 : decide ((j : Int) < (hs.length : Int)) = true := decide_eq_true (by omega); have hj2 : decide ((j : Int) < 20) = true := decide_eq_true (by omega); (have hjlt : (j : Int) < (hs.length : Int) := by omega); (have hjlt2 : (j : Int) < 20 := by omega); obtain ⟨ad, Ah, ch, e, hx0, hx1, hx2, hl2, hi2⟩ := oC (Kd.aV HH.out HB.out) (j : Int) (by omega) (by omega); cases e; rw [Int.toNat_natCast] at hx0 hx1 hx2
   have HD := aa.mk (show ∀ k : Nat, k < j + 1 → (ah hs (j : Int)).f1.length ≤ 20 → (ah hs (k : Int)).f1.length ≤ 20 by
    intro k hk h; rcases Nat.lt_or_ge k j with h' | h'
    ·exact HA.out k h'
    ·obtain rfl : k = j := by omega
     exact h)
   obtain ⟨n, hn⟩ : ∃ n, n = (ah hs (j : Int)).f1.length := ⟨_, rfl⟩; rw [← hn] at HD hx2; clear hx0 hx1 hl2 hi2 hn HA; by_cases hc : n > 20
   ·have hc1 : decide (20 < (n : Int)) = true := decide_eq_true (by omega); have hc2 : decide (20 < n) = true := decide_eq_true hc; clear hc; go_wp2
    go_ret
    exact ⟨_, rfl, fun h => by simp at h, HB.out⟩
   ·have hc1 : decide (20 < (n : Int)) = false := decide_eq_false (by omega); have hc2 : decide (20 < n) = false := decide_eq_false hc; have HC := aa.mk (show n ≤ 20 by omega); clear hc; go_wp2
    go_roundw
    (case rel => exact ⟨j + 1, by omega, by omega, by go_num, ⟨fun k hk => HD.out k hk HC.out⟩, HB, BX⟩); case measure => simp [intOf]; omega
  ·have HM := aa.mk (show hs.length ≤ 20 → ∀ h ∈ hs, h.f1.length ≤ 20 by
    intro hl h hm; obtain ⟨k, hk, rfl⟩ := List.getElem_of_mem hm; have := HA.out k (by omega)
    rwa [kV hs k hk] at this)
   (have hex : (hs.length : Int) ≤ j ∨ ((j : Int) < hs.length ∧ (20 : Int) ≤ j) := by omega); clear HA hjl hj hj20; rcases hex with hk1 | ⟨hk1, hk2⟩
   ·have hj1 : decide ((j : Int) < (hs.length : Int)) = false := decide_eq_false (by omega); go_wp2; clear hz0 hz4 hj1 hk1
    go_loopw [4] (fun v2 wr => ∃ (j : Nat), j ≤ sq.length ∧ j ≤ 20 ∧ v2 = .int .i64 j ∧ aa (∀ k : Nat, k < j → (cZ sq (k : Int)).length ≤ 20) ∧ aa (Below w.heap.size w wr) ∧ aa (wr.heap[w.heap.size]? = some (.cells #[.slice A1 hs.length c1, .int .i64 W, .int .i64 S, .int .i64 t, .slice A4 sq.length c4] 25 (0, 0)))) (fun v2 _ => 20 - (intOf v2).toNat)
    case atStart => exact ⟨0, by omega, by omega, rfl, ⟨fun k hk => by omega⟩, HB, BX⟩
    case round =>
     clear HB BX; obtain ⟨j, hj, hj20, rfl, HA, HB, BX⟩ := hrel; have hz0 : wr.cell? ⟨w.heap.size, 0, none⟩ = some (.slice A1 hs.length c1) := (ae BX.out 0).trans rfl; have hz4 : wr.cell? ⟨w.heap.size, 4, none⟩ = some (.slice A4 sq.length c4) := (ae BX.out 4).trans rfl; by_cases hjl : j < sq.length ∧ j < 20
     ·have hj1 : decide ((j : Int) < (sq.length : Int)) = true := decide_eq_true (by omega); have hj2 : decide ((j : Int) < 20) = true := decide_eq_true (by omega); (have hjlt : (j : Int) < (sq.length : Int) := by omega); (have hjlt2 : (j : Int) < 20 := by omega); obtain ⟨ad, Ah, ch, e, hx0, hl2, hi2⟩ := wG (Kd.aV HR.out HB.out) (j : Int) (by omega) (by omega); cases e; rw [Int.toNat_natCast] at hx0
      have HD := aa.mk (show ∀ k : Nat, k < j + 1 → (cZ sq (j : Int)).length ≤ 20 → (cZ sq (k : Int)).length ≤ 20 by
       intro k hk h; rcases Nat.lt_or_ge k j with h' | h'
       ·exact HA.out k h'
       ·obtain rfl : k = j := by omega
        exact h)
      obtain ⟨n, hn⟩ : ∃ n, n = (cZ sq (j : Int)).length := ⟨_, rfl⟩; rw [← hn] at HD hx0; clear hl2 hi2 hn HA; by_cases hc : n > 20
      ·have hc1 : decide (20 < (n : Int)) = true := decide_eq_true (by omega); have hc2 : decide (20 < n) = true := decide_eq_true hc; clear hc; go_wp2
       go_ret
       exact ⟨_, rfl, fun h => by simp at h, HB.out⟩
      ·have hc1 : decide (20 < (n : Int)) = false := decide_eq_false (by omega); have hc2 : decide (20 < n) = false := decide_eq_false hc; have HC := aa.mk (show n ≤ 20 by omega); clear hc; go_wp2
       go_roundw
       (case rel => exact ⟨j + 1, by omega, by omega, by go_num, ⟨fun k hk => HD.out k hk HC.out⟩, HB, BX⟩); case measure => simp [intOf]; omega
     ·have HM2 := aa.mk (show sq.length ≤ 20 → ∀ q ∈ sq, q.length ≤ 20 by
       intro hl q hm; obtain ⟨k, hk, rfl⟩ := List.getElem_of_mem hm; have := HA.out k (by omega)
       rwa [rO sq k hk] at this)
      (have hex2 : (sq.length : Int) ≤ j ∨ ((j : Int) < sq.length ∧ (20 : Int) ≤ j) := by omega); clear HA hjl hj hj20
      have hend : ∀ b1 b2 : Bool, b1 = decide (20 < hs.length) → b2 = decide (20 < sq.length) → (b1 || b2) = false → ku hs sq := by
       rintro b1 b2 rfl rfl h; simp only [Bool.or_eq_false_iff, decide_eq_false_iff_not, Nat.not_lt] at h; exact ⟨h.1, h.2, HM.out h.1, HM2.out h.2⟩
      have HEND := aa.mk hend; clear hend; rcases hex2 with hk1 | ⟨hk1, hk2⟩
      ·have hj1 : decide ((j : Int) < (sq.length : Int)) = false := decide_eq_false (by omega); by_cases g1 : 20 < hs.length
       ·have g1a : decide (20 < (hs.length : Int)) = true := decide_eq_true (by omega); have g1b : decide (20 < hs.length) = true := decide_eq_true g1; (have g1c : (20 : Int) < hs.length := by omega); go_wp2
        go_ret
        exact ⟨_, rfl, fun h => by simp at h, HB.out⟩
       ·have g1a : decide (20 < (hs.length : Int)) = false := decide_eq_false (by omega); have g1b : decide (20 < hs.length) = false := decide_eq_false g1; by_cases g2 : 20 < sq.length
        ·have g2a : decide (20 < (sq.length : Int)) = true := decide_eq_true (by omega); have g2b : decide (20 < sq.length) = true := decide_eq_true g2; go_wp2
         go_ret
         exact ⟨_, rfl, fun h => by simp at h, HB.out⟩
        ·have g2a : decide (20 < (sq.length : Int)) = false := decide_eq_false (by omega); have g2b : decide (20 < sq.length) = false := decide_eq_false g2; have HSM := aa.mk (HEND.out _ _ rfl rfl (by rw [g1b, g2b]; rfl)); go_wp2
         go_ret
         exact ⟨_, rfl, fun _ => HSM.out, HB.out⟩
      ·have hj1 : decide ((j : Int) < (sq.length : Int)) = true := decide_eq_true (by omega); have hj2 : decide ((j : Int) < 20) = false := decide_eq_false (by omega); by_cases g1 : 20 < hs.length
       ·have g1a : decide (20 < (hs.length : Int)) = true := decide_eq_true (by omega); have g1b : decide (20 < hs.length) = true := decide_eq_true g1; (have g1c : (20 : Int) < hs.length := by omega); go_wp2
        go_ret
        exact ⟨_, rfl, fun h => by simp at h, HB.out⟩
       ·have g1a : decide (20 < (hs.length : Int)) = false := decide_eq_false (by omega); have g1b : decide (20 < hs.length) = false := decide_eq_false g1; by_cases g2 : 20 < sq.length
        ·have g2a : decide (20 < (sq.length : Int)) = true := decide_eq_true (by omega); have g2b : decide (20 < sq.length) = true := decide_eq_true g2; go_wp2
         go_ret
         exact ⟨_, rfl, fun h => by simp at h, HB.out⟩
        ·exfalso; omega
   ·have hj1 : decide ((j : Int) < (hs.length : Int)) = true := decide_eq_true (by omega); have hj2 : decide ((j : Int) < 20) = false := decide_eq_false (by omega); go_wp2; clear hz0 hz4 hj1 hj2 hk1 hk2
    go_loopw [4] (fun v2 wr => ∃ (j : Nat), j ≤ sq.length ∧ j ≤ 20 ∧ v2 = .int .i64 j ∧ aa (∀ k : Nat, k < j → (cZ sq (k : Int)).length ≤ 20) ∧ aa (Below w.heap.size w wr) ∧ aa (wr.heap[w.heap.size]? = some (.cells #[.slice A1 hs.length c1, .int .i64 W, .int .i64 S, .int .i64 t, .slice A4 sq.length c4] 25 (0, 0)))) (fun v2 _ => 20 - (intOf v2).toNat)
    case atStart => exact ⟨0, by omega, by omega, rfl, ⟨fun k hk => by omega⟩, HB, BX⟩
    case round =>
     clear HB BX; obtain ⟨j, hj, hj20, rfl, HA, HB, BX⟩ := hrel; have hz0 : wr.cell? ⟨w.heap.size, 0, none⟩ = some (.slice A1 hs.length c1) := (ae BX.out 0).trans rfl; have hz4 : wr.cell? ⟨w.heap.size, 4, none⟩ = some (.slice A4 sq.length c4) := (ae BX.out 4).trans rfl; by_cases hjl : j < sq.length ∧ j < 20
     ·have hj1 : decide ((j : Int) < (sq.length : Int)) = true := decide_eq_true (by omega); have hj2 : decide ((j : Int) < 20) = true := decide_eq_true (by omega); (have hjlt : (j : Int) < (sq.length : Int) := by omega); (have hjlt2 : (j : Int) < 20 := by omega); obtain ⟨ad, Ah, ch, e, hx0, hl2, hi2⟩ := wG (Kd.aV HR.out HB.out) (j : Int) (by omega) (by omega); cases e; rw [Int.toNat_natCast] at hx0
      have HD := aa.mk (show ∀ k : Nat, k < j + 1 → (cZ sq (j : Int)).length ≤ 20 → (cZ sq (k : Int)).length ≤ 20 by
       intro k hk h; rcases Nat.lt_or_ge k j with h' | h'
       ·exact HA.out k h'
       ·obtain rfl : k = j := by omega
        exact h)
      obtain ⟨n, hn⟩ : ∃ n, n = (cZ sq (j : Int)).length := ⟨_, rfl⟩; rw [← hn] at HD hx0; clear hl2 hi2 hn HA; by_cases hc : n > 20
      ·have hc1 : decide (20 < (n : Int)) = true := decide_eq_true (by omega); have hc2 : decide (20 < n) = true := decide_eq_true hc; clear hc; go_wp2
       go_ret
       exact ⟨_, rfl, fun h => by simp at h, HB.out⟩
      ·have hc1 : decide (20 < (n : Int)) = false := decide_eq_false (by omega); have hc2 : decide (20 < n) = false := decide_eq_false hc; have HC := aa.mk (show n ≤ 20 by omega); clear hc; go_wp2
       go_roundw
       (case rel => exact ⟨j + 1, by omega, by omega, by go_num, ⟨fun k hk => HD.out k hk HC.out⟩, HB, BX⟩); case measure => simp [intOf]; omega
     ·have HM2 := aa.mk (show sq.length ≤ 20 → ∀ q ∈ sq, q.length ≤ 20 by
       intro hl q hm; obtain ⟨k, hk, rfl⟩ := List.getElem_of_mem hm; have := HA.out k (by omega)
       rwa [rO sq k hk] at this)
      (have hex2 : (sq.length : Int) ≤ j ∨ ((j : Int) < sq.length ∧ (20 : Int) ≤ j) := by omega); clear HA hjl hj hj20
      have hend : ∀ b1 b2 : Bool, b1 = decide (20 < hs.length) → b2 = decide (20 < sq.length) → (b1 || b2) = false → ku hs sq := by
       rintro b1 b2 rfl rfl h; simp only [Bool.or_eq_false_iff, decide_eq_false_iff_not, Nat.not_lt] at h; exact ⟨h.1, h.2, HM.out h.1, HM2.out h.2⟩
      have HEND := aa.mk hend; clear hend; rcases hex2 with hk1 | ⟨hk1, hk2⟩
      ·have hj1 : decide ((j : Int) < (sq.length : Int)) = false := decide_eq_false (by omega); by_cases g1 : 20 < hs.length
       ·have g1a : decide (20 < (hs.length : Int)) = true := decide_eq_true (by omega); have g1b : decide (20 < hs.length) = true := decide_eq_true g1; (have g1c : (20 : Int) < hs.length := by omega); go_wp2
        go_ret
        exact ⟨_, rfl, fun h => by simp at h, HB.out⟩
       ·have g1a : decide (20 < (hs.length : Int)) = false := decide_eq_false (by omega); have g1b : decide (20 < hs.length) = false := decide_eq_false g1; by_cases g2 : 20 < sq.length
        ·have g2a : decide (20 < (sq.length : Int)) = true := decide_eq_true (by omega); have g2b : decide (20 < sq.length) = true := decide_eq_true g2; go_wp2
         go_ret
         exact ⟨_, rfl, fun h => by simp at h, HB.out⟩
        ·have g2a : decide (20 < (sq.length : Int)) = false := decide_eq_false (by omega); have g2b : decide (20 < sq.length) = false := decide_eq_false g2; have HSM := aa.mk (HEND.out _ _ rfl rfl (by rw [g1b, g2b]; rfl)); go_wp2
         go_ret
         exact ⟨_, rfl, fun _ => HSM.out, HB.out⟩
      ·have hj1 : decide ((j : Int) < (sq.length : Int)) = true := decide_eq_true (by omega); have hj2 : decide ((j : Int) < 20) = false := decide_eq_false (by omega); by_cases g1 : 20 < hs.length
       ·have g1a : decide (20 < (hs.length : Int)) = true := decide_eq_true (by omega); have g1b : decide (20 < hs.length) = true := decide_eq_true g1; (have g1c : (20 : Int) < hs.length := by omega); go_wp2
        go_ret
        exact ⟨_, rfl, fun h => by simp at h, HB.out⟩
       ·have g1a : decide (20 < (hs.length : Int)) = false := decide_eq_false (by omega); have g1b : decide (20 < hs.length) = false := decide_eq_false g1; by_cases g2 : 20 < sq.length
        ·have g2a : decide (20 < (sq.length : Int)) = true := decide_eq_true (by omega); have g2b : decide (20 < sq.length) = true := decide_eq_true g2; go_wp2
         go_ret
         exact ⟨_, rfl, fun h => by simp at h, HB.out⟩
        ·exfalso; omega
end Go.Proofs.Ytihedeofkhapiaa.Pr
end
section
namespace Go.Proofs.Ytihedeofkhapiaa.Pr
open Go.RowKit Go.Proofs.YtihedeofkhapiaaW.PrintWords Go.Proofs.YtihedeofkhapiaaW.PrintLast Go.Proofs.YtihedeofkhapiaaW.PrintMore
attribute [local go_sem high] aar aay aa7
def zL.T5 : Bool × List (List Nat × List Nat) := (true, [([], []), ([0], [0]), ([], []), ([1, 2], [1, 2]), ([3], [3]), ([], []), ([5], [5]), ([], []), ([6, 7], [6, 7]), ([8], [8]), ([], []), ([], []), ([10, 4, 0, 1, 2, 3, 4, 10, 11], [4, 10]), ([11, 9, 12, 0, 1, 2, 3, 4, 5, 6, 7, 8, 9, 10, 11, 12], [9, 11])])
def zL.B5 : List Nat := [0, 1, 0, 7, 15, 0, 32, 0, 224, 480, 0, 0, 3103, 8191]
theorem zL.Ov : mH .any (opsOf Try.f23 5) = zL.T5 := by kernel_rfl
theorem zL.Gy : nk zL.T5.2 zL.B5 = true := by kernel_rfl
section
variable {W : World} {g g' : Nat} {t t' : TypeId} {a b c : Value} {cs : Array Value}
theorem Di (h : W.heap[g]? = some (.cells #[a, b, c] t (0, 0))) (x y z : Value) : (((W.setCell ⟨g, 0, none⟩ x).setCell ⟨g, 1, none⟩ y).setCell ⟨g, 2, none⟩ z).heap[g]? = some (.cells #[x, y, z] t (0, 0)) := bP (bP (bP h 0 x rfl) 1 y rfl) 2 z rfl
theorem oW (h : W.heap[g']? = some (.cells cs t (0, 0))) (hne : g' ≠ g) (x y z : Value) : (((W.setCell ⟨g, 0, none⟩ x).setCell ⟨g, 1, none⟩ y).setCell ⟨g, 2, none⟩ z).heap[g']? = some (.cells cs t (0, 0)) := bu (bu (bu h hne _) hne _) hne _
theorem wW {w : World} (h : Below w.heap.size w W) (hg : w.heap.size ≤ g) (x y z : Value) : Below w.heap.size w (((W.setCell ⟨g, 0, none⟩ x).setCell ⟨g, 1, none⟩ y).setCell ⟨g, 2, none⟩ z) := bZ (bZ (bZ h hg) hg) hg
end
set_option maxRecDepth 100000 in
set_option maxHeartbeats 8000000 in
theorem I6 (A1 B1 A4 B4 : Option Addr) (c1 d1 c4 d4 : Nat) (hs : List S66) (W S t : Int) (sq : List (List S27)) (w : World)
 (hh : Kd.C k66 w A1 hs.length hs) (hr : Kd.C (Kd.slice 27 k27) w A4 sq.length sq) (hh' : Kd.C k66 w B1 hs.length hs) (hr' : Kd.C (Kd.slice 27 k27) w B4 sq.length sq) (hsm : ku hs sq) :
 Calls Try.prog 23 #[.agg #[.slice A1 hs.length c1, .int .i64 W, .int .i64 S, .int .i64 t, .slice A4 sq.length c4], .agg #[.slice B1 hs.length d1, .int .i64 W, .int .i64 S, .int .i64 t, .slice B4 sq.length d4]] w fun e w' => e = .returned (.bool true) ∧ Below w.heap.size w w' := by
 have HA := aa.mk hh; have HB4 := aa.mk hr; have HC := aa.mk hh'; have HD4 := aa.mk hr'; have HL1 := aa.mk hsm.1; have HL2 := aa.mk hsm.2.1; have HL3 := aa.mk hsm.2.2.1; have HL4 := aa.mk hsm.2.2.2; clear hh hr hh' hr' hsm; go_enter Try.func23, Try.ntmps23; (go_upto_region 1 with (fail)); obtain ⟨W1, hW1⟩ : ∃ W1, W1 = (w.alloc (.cells #[.slice A1 hs.length c1, .int .i64 W, .int .i64 S, .int .i64 t, .slice A4 sq.length c4] 25)).alloc (.cells #[.slice B1 hs.length d1, .int .i64 W, .int .i64 S, .int .i64 t, .slice B4 sq.length d4] 25) := ⟨_, rfl⟩; have HB := aa.mk (show Below w.heap.size w W1 by rw [hW1]; exact ax (ax (Below.refl _ _) _) _); have BXa := aa.mk (show W1.heap[w.heap.size]? = some (.cells #[.slice A1 hs.length c1, .int .i64 W, .int .i64 S, .int .i64 t, .slice A4 sq.length c4] 25 (0, 0)) by rw [hW1]; exact bT (heap_alloc_new w _) _)
 have BXb := aa.mk (show W1.heap[w.heap.size + 1]? = some (.cells #[.slice B1 hs.length d1, .int .i64 W, .int .i64 S, .int .i64 t, .slice B4 sq.length d4] 25 (0, 0)) by
  rw [hW1]; have := heap_alloc_new (w.alloc (.cells #[.slice A1 hs.length c1, .int .i64 W, .int .i64 S, .int .i64 t, .slice A4 sq.length c4] 25)) (.cells #[.slice B1 hs.length d1, .int .i64 W, .int .i64 S, .int .i64 t, .slice B4 sq.length d4] 25)
  rwa [World.size_alloc] at this)
 have hW1' : W1 = _ := hW1; (first | rw [← hW1] | skip); clear hW1 hW1'; have ha0 : W1.cell? ⟨w.heap.size, 0, none⟩ = some (.slice A1 hs.length c1) := (ae BXa.out 0).trans rfl; have hb0 : W1.cell? ⟨w.heap.size + 1, 0, none⟩ = some (.slice B1 hs.length d1) := (ae BXb.out 0).trans rfl; have ha1 : W1.cell? ⟨w.heap.size, 1, none⟩ = some (.int .i64 W) := (ae BXa.out 1).trans rfl; have hb1 : W1.cell? ⟨w.heap.size + 1, 1, none⟩ = some (.int .i64 W) := (ae BXb.out 1).trans rfl; have ha2 : W1.cell? ⟨w.heap.size, 2, none⟩ = some (.int .i64 S) := (ae BXa.out 2).trans rfl; have hb2 : W1.cell? ⟨w.heap.size + 1, 2, none⟩ = some (.int .i64 S) := (ae BXb.out 2).trans rfl; have ha3 : W1.cell? ⟨w.heap.size, 3, none⟩ = some (.int .i64 t) := (ae BXa.out 3).trans rfl; have hb3 : W1.cell? ⟨w.heap.size + 1, 3, none⟩ = some (.int .i64 t) := (ae BXb.out 3).trans rfl; have ha4 : W1.cell? ⟨w.heap.size, 4, none⟩ = some (.slice A4 sq.length c4) := (ae BXa.out 4).trans rfl; have hb4 : W1.cell? ⟨w.heap.size + 1, 4, none⟩ = some (.slice B4 sq.length d4) := (ae BXb.out 4).trans rfl; go_wp2; clear ha0 ha1 ha2 ha3 ha4 hb0 hb1 hb2 hb3 hb4
 go_loopw [5, 6, 7, 8, 9] (fun v5 v6 v7 v8 v9 wr => ∃ (j : Nat), j ≤ hs.length ∧ v5 = .bool true ∧ v6 = .int .i64 j ∧ aa (Below w.heap.size w wr) ∧ aa (wr.heap[w.heap.size]? = some (.cells #[.slice A1 hs.length c1, .int .i64 W, .int .i64 S, .int .i64 t, .slice A4 sq.length c4] 25 (0, 0))) ∧ aa (wr.heap[w.heap.size + 1]? = some (.cells #[.slice B1 hs.length d1, .int .i64 W, .int .i64 S, .int .i64 t, .slice B4 sq.length d4] 25 (0, 0)))) (fun _ v6 _ _ _ _ => hs.length - (intOf v6).toNat)
 case atStart => exact ⟨0, by omega, rfl, rfl, HB, BXa, BXb⟩
 case round =>
  clear HB BXa BXb; obtain ⟨j, hj, rfl, rfl, HB, BXa, BXb⟩ := hrel; have ha0 : wr.cell? ⟨w.heap.size, 0, none⟩ = some (.slice A1 hs.length c1) := (ae BXa.out 0).trans rfl; have hb0 : wr.cell? ⟨w.heap.size + 1, 0, none⟩ = some (.slice B1 hs.length d1) := (ae BXb.out 0).trans rfl; by_cases hjl : j < hs.length
  ·have hj1 : decide ((j : Int) < (hs.length : Int)) = true := decide_eq_true (by omega); (have hjlt : (j : Int) < (hs.length : Int) := by omega); (have hj20 : (j : Int) < 20 := by have := HL1.out; omega); obtain ⟨ad, Ah, ch, e, hx0, hx1, hx2, hl2, hi2⟩ := oC HA.out (j : Int) (by omega) (by omega); cases e; obtain ⟨bd, Bh, dh, e, hy0, hy1, hy2, hl3, hi3⟩ := oC HC.out (j : Int) (by omega) (by omega); cases e; rw [Int.toNat_natCast] at hx0 hx1 hx2 hy0 hy1 hy2; have HSL := aa.mk (show (ah hs (j : Int)).f1.length ≤ 20 by rw [kV hs j hjl]; exact HL3.out _ (List.getElem_mem hjl)); obtain ⟨h, hhd⟩ : ∃ h, h = ah hs (j : Int) := ⟨_, rfl⟩; rw [← hhd] at HSL hx0 hx1 hx2 hy0 hy1 hy2 hl2 hl3 hi2 hi3; have HI2 := aa.mk hi2; have HI3 := aa.mk hi3; have X0 := aa.mk hx0; have X1 := aa.mk hx1; have X2 := aa.mk hx2; have Y0 := aa.mk hy0; have Y1 := aa.mk hy1; have Y2 := aa.mk hy2; clear hhd hi2 hi3 hl2 hl3 hx0 hx1 hx2 hy0 hy1 hy2; (go_wp2_with (fail)); have nB := aa.mk (dF HB.out); have nX := aa.mk (dK BXa.out); have nY := aa.mk (dK BXb.out); clear HB BXa BXb ha0 hb0; have HB := nB; have BXa := nX; have BXb := nY; clear nB nX nY; refine tV (n := 14) (S := fun w' => w'.cell? ⟨w.heap.size, 0, none⟩ = some (.slice (some ad) hs.length c1) ∧ w'.cell? ⟨w.heap.size + 1, 0, none⟩ = some (.slice (some bd) hs.length d1) ∧ w'.cell? (ad.add (j * 3)) = some (.int .i64 h.f0.f0) ∧ w'.cell? ⟨(ad.add (j * 3)).block, (ad.add (j * 3)).off + 1, none⟩ = some (.int .i64 h.f0.f1) ∧ w'.cell? ⟨(ad.add (j * 3)).block, (ad.add (j * 3)).off + 2, none⟩ = some (.slice Ah h.f1.length ch) ∧ w'.cell? (bd.add (j * 3)) = some (.int .i64 h.f0.f0) ∧ w'.cell? ⟨(bd.add (j * 3)).block, (bd.add (j * 3)).off + 1, none⟩ = some (.int .i64 h.f0.f1) ∧ w'.cell? ⟨(bd.add (j * 3)).block, (bd.add (j * 3)).off + 2, none⟩ = some (.slice Bh h.f1.length dh)) (ds := [13]) (ba 14 0) (by kernel_rfl) rfl rfl ⟨(ae BXa.out 0).trans rfl, (ae BXb.out 0).trans rfl, (HB.out.cell (World.block_lt_of_cell? _ _ X0.out)).trans X0.out, (HB.out.cell (World.block_lt_of_cell? _ _ X1.out)).trans X1.out, (HB.out.cell (World.block_lt_of_cell? _ _ X2.out)).trans X2.out, (HB.out.cell (World.block_lt_of_cell? _ _ Y0.out)).trans Y0.out, (HB.out.cell (World.block_lt_of_cell? _ _ Y1.out)).trans Y1.out, (HB.out.cell (World.block_lt_of_cell? _ _ Y2.out)).trans Y2.out⟩ (fun cz => ?_); refine pq zL.Ov zL.Gy (fun HT_ HW_ => ?_); refine jS 0 61 (ba 14 1) HT_.out ?_
   refine jS 2 63 (ba 14 5) HT_.out ?_
   refine jS 5 66 (ba 14 37) HT_.out ?_
   refine jS 7 68 (ba 14 165) HT_.out ?_
   refine wO 1 62 (ba 14 167) HT_.out HW_.out cz ?_
   refine jS 3 64 (ba 14 175) HT_.out ?_
   refine wO 4 65 (ba 14 191) HT_.out HW_.out cz ?_
   refine wO 6 67 (ba 14 255) HT_.out HW_.out cz ?_
   refine jS 8 69 (ba 14 511) HT_.out ?_
   refine wO 9 70 (ba 14 1023) HT_.out HW_.out cz ?_
   refine wJ (σ := Nat × Nat) 2 (ba 14 4095) (fun s_ => [(7, .pointer (some ⟨s_.1, 0, none⟩)), (8, .pointer (some ⟨s_.2, 0, none⟩))]) (fun s_ w' => (w'.cell? ⟨w.heap.size, 0, none⟩ = some (.slice (some ad) hs.length c1) ∧ w'.cell? ⟨w.heap.size + 1, 0, none⟩ = some (.slice (some bd) hs.length d1) ∧ w'.cell? (ad.add (j * 3)) = some (.int .i64 h.f0.f0) ∧ w'.cell? ⟨(ad.add (j * 3)).block, (ad.add (j * 3)).off + 1, none⟩ = some (.int .i64 h.f0.f1) ∧ w'.cell? ⟨(ad.add (j * 3)).block, (ad.add (j * 3)).off + 2, none⟩ = some (.slice Ah h.f1.length ch) ∧ w'.cell? (bd.add (j * 3)) = some (.int .i64 h.f0.f0) ∧ w'.cell? ⟨(bd.add (j * 3)).block, (bd.add (j * 3)).off + 1, none⟩ = some (.int .i64 h.f0.f1) ∧ w'.cell? ⟨(bd.add (j * 3)).block, (bd.add (j * 3)).off + 2, none⟩ = some (.slice Bh h.f1.length dh)) ∧ w'.heap[s_.1]? = some (.cells #[.int .i64 0, .int .i64 0, .slice none 0 0] 66 (0, 0)) ∧ w'.heap[s_.2]? = some (.cells #[.int .i64 0, .int .i64 0, .slice none 0 0] 66 (0, 0)) ∧ s_.1 ≠ s_.2 ∧ w.heap.size + 1 < s_.1 ∧ w.heap.size + 1 < s_.2 ∧ Below w.heap.size w w' ∧ w'.heap[w.heap.size]? = some (.cells #[.slice (some ad) hs.length c1, .int .i64 W, .int .i64 S, .int .i64 t, .slice A4 sq.length c4] 25 (0, 0)) ∧ w'.heap[w.heap.size + 1]? = some (.cells #[.slice (some bd) hs.length d1, .int .i64 W, .int .i64 S, .int .i64 t, .slice B4 sq.length d4] 25 (0, 0))) ?_ ?_; rotate_left
   ·intro hCont; refine BU 10 11 7 8 (ba 14 2047) (ba 14 3071) HT_.out (fun K hK => ?_) (fun K hK => ?_)
    ·skip; refine xe ?hg (N := 7) ?hd (cs := #[.int .i64 0, .int .i64 0, .slice none 0 0]) (t := 66) ?hr ?_; (case hd => rfl); (case hg => rfl); (case hr => first | (go_simp; done) | (go_simp; rfl)); intro g1 hg w_ hbox hb; have nX := aa.mk (au BXa.out hb); have nY := aa.mk (au BXb.out hb); have nB := aa.mk (aC HB.out hb); have Gg1 := aa.mk (show w.heap.size + 1 < g1 by rw [hg]; exact bQ BXb.out); have Kg1 := aa.mk hbox; clear BXa BXb HB; have BXa := nX; have BXb := nY; have HB := nB; clear nX nY nB hg hbox hb; refine hK.out _ _ ⟨(ae BXa.out 0).trans rfl, (ae BXb.out 0).trans rfl, (HB.out.cell (World.block_lt_of_cell? _ _ X0.out)).trans X0.out, (HB.out.cell (World.block_lt_of_cell? _ _ X1.out)).trans X1.out, (HB.out.cell (World.block_lt_of_cell? _ _ X2.out)).trans X2.out, (HB.out.cell (World.block_lt_of_cell? _ _ Y0.out)).trans Y0.out, (HB.out.cell (World.block_lt_of_cell? _ _ Y1.out)).trans Y1.out, (HB.out.cell (World.block_lt_of_cell? _ _ Y2.out)).trans Y2.out⟩ (fun cz => ?_); clear hK K; refine mZ ?_
     refine on_ 11 (some 8) (ba 14 4095) HT_.out (fun K hK => ?_); refine xe ?hg (N := 8) ?hd (cs := #[.int .i64 0, .int .i64 0, .slice none 0 0]) (t := 66) ?hr ?_; (case hd => rfl); (case hg => rfl); (case hr => first | (go_simp; done) | (go_simp; rfl)); intro g2 hg w_ hbox hb; have nX := aa.mk (au BXa.out hb); have nY := aa.mk (au BXb.out hb); have nB := aa.mk (aC HB.out hb); have Gg2 := aa.mk (show w.heap.size + 1 < g2 by rw [hg]; exact bQ BXb.out); have ng1 := aa.mk (au Kg1.out hb); have HNE := aa.mk (show g1 ≠ g2 by have := bQ Kg1.out; omega); have Kg2 := aa.mk hbox; clear BXa BXb HB Kg1; have BXa := nX; have BXb := nY; have HB := nB; have Kg1 := ng1; clear nX nY nB hg hbox hb ng1; refine hK.out _ _ ⟨(ae BXa.out 0).trans rfl, (ae BXb.out 0).trans rfl, (HB.out.cell (World.block_lt_of_cell? _ _ X0.out)).trans X0.out, (HB.out.cell (World.block_lt_of_cell? _ _ X1.out)).trans X1.out, (HB.out.cell (World.block_lt_of_cell? _ _ X2.out)).trans X2.out, (HB.out.cell (World.block_lt_of_cell? _ _ Y0.out)).trans Y0.out, (HB.out.cell (World.block_lt_of_cell? _ _ Y1.out)).trans Y1.out, (HB.out.cell (World.block_lt_of_cell? _ _ Y2.out)).trans Y2.out⟩ (fun _ => hCont ⟨g1, g2⟩ _ ⟨⟨(ae BXa.out 0).trans rfl, (ae BXb.out 0).trans rfl, (HB.out.cell (World.block_lt_of_cell? _ _ X0.out)).trans X0.out, (HB.out.cell (World.block_lt_of_cell? _ _ X1.out)).trans X1.out, (HB.out.cell (World.block_lt_of_cell? _ _ X2.out)).trans X2.out, (HB.out.cell (World.block_lt_of_cell? _ _ Y0.out)).trans Y0.out, (HB.out.cell (World.block_lt_of_cell? _ _ Y1.out)).trans Y1.out, (HB.out.cell (World.block_lt_of_cell? _ _ Y2.out)).trans Y2.out⟩, Kg1.out, Kg2.out, HNE.out, Gg1.out, Gg2.out, HB.out, BXa.out, BXb.out⟩)
    ·skip; refine xe ?hg (N := 8) ?hd (cs := #[.int .i64 0, .int .i64 0, .slice none 0 0]) (t := 66) ?hr ?_; (case hd => rfl); (case hg => rfl); (case hr => first | (go_simp; done) | (go_simp; rfl)); intro g2 hg w_ hbox hb; have nX := aa.mk (au BXa.out hb); have nY := aa.mk (au BXb.out hb); have nB := aa.mk (aC HB.out hb); have Gg2 := aa.mk (show w.heap.size + 1 < g2 by rw [hg]; exact bQ BXb.out); have Kg2 := aa.mk hbox; clear BXa BXb HB; have BXa := nX; have BXb := nY; have HB := nB; clear nX nY nB hg hbox hb; refine hK.out _ _ ⟨(ae BXa.out 0).trans rfl, (ae BXb.out 0).trans rfl, (HB.out.cell (World.block_lt_of_cell? _ _ X0.out)).trans X0.out, (HB.out.cell (World.block_lt_of_cell? _ _ X1.out)).trans X1.out, (HB.out.cell (World.block_lt_of_cell? _ _ X2.out)).trans X2.out, (HB.out.cell (World.block_lt_of_cell? _ _ Y0.out)).trans Y0.out, (HB.out.cell (World.block_lt_of_cell? _ _ Y1.out)).trans Y1.out, (HB.out.cell (World.block_lt_of_cell? _ _ Y2.out)).trans Y2.out⟩ (fun cz => ?_); clear hK K; refine mZ ?_
     refine on_ 10 (some 7) (ba 14 4095) HT_.out (fun K hK => ?_); refine xe ?hg (N := 7) ?hd (cs := #[.int .i64 0, .int .i64 0, .slice none 0 0]) (t := 66) ?hr ?_; (case hd => rfl); (case hg => rfl); (case hr => first | (go_simp; done) | (go_simp; rfl)); intro g1 hg w_ hbox hb; have nX := aa.mk (au BXa.out hb); have nY := aa.mk (au BXb.out hb); have nB := aa.mk (aC HB.out hb); have Gg1 := aa.mk (show w.heap.size + 1 < g1 by rw [hg]; exact bQ BXb.out); have ng2 := aa.mk (au Kg2.out hb); have HNE := aa.mk (show g2 ≠ g1 by have := bQ Kg2.out; omega); have Kg1 := aa.mk hbox; clear BXa BXb HB Kg2; have BXa := nX; have BXb := nY; have HB := nB; have Kg2 := ng2; clear nX nY nB hg hbox hb ng2; refine hK.out _ _ ⟨(ae BXa.out 0).trans rfl, (ae BXb.out 0).trans rfl, (HB.out.cell (World.block_lt_of_cell? _ _ X0.out)).trans X0.out, (HB.out.cell (World.block_lt_of_cell? _ _ X1.out)).trans X1.out, (HB.out.cell (World.block_lt_of_cell? _ _ X2.out)).trans X2.out, (HB.out.cell (World.block_lt_of_cell? _ _ Y0.out)).trans Y0.out, (HB.out.cell (World.block_lt_of_cell? _ _ Y1.out)).trans Y1.out, (HB.out.cell (World.block_lt_of_cell? _ _ Y2.out)).trans Y2.out⟩ (fun _ => hCont ⟨g1, g2⟩ _ ⟨⟨(ae BXa.out 0).trans rfl, (ae BXb.out 0).trans rfl, (HB.out.cell (World.block_lt_of_cell? _ _ X0.out)).trans X0.out, (HB.out.cell (World.block_lt_of_cell? _ _ X1.out)).trans X1.out, (HB.out.cell (World.block_lt_of_cell? _ _ X2.out)).trans X2.out, (HB.out.cell (World.block_lt_of_cell? _ _ Y0.out)).trans Y0.out, (HB.out.cell (World.block_lt_of_cell? _ _ Y1.out)).trans Y1.out, (HB.out.cell (World.block_lt_of_cell? _ _ Y2.out)).trans Y2.out⟩, Kg1.out, Kg2.out, HNE.out.symm, Gg1.out, Gg2.out, HB.out, BXa.out, BXb.out⟩)
   rintro ⟨g1, g2⟩ w7 ⟨cz, k1, k2, hne, hg1, hg2, hb, hxa, hxb⟩; clear HB BXa BXb; have HB := aa.mk hb; have BXa := aa.mk hxa; have BXb := aa.mk hxb; have K1 := aa.mk k1; have K2 := aa.mk k2; have NE := aa.mk hne; have G1 := aa.mk hg1; have G2 := aa.mk hg2; clear hb hxa hxb k1 k2 hne hg1 hg2; refine CF ?_
   refine on_ 12 none (ba 14 8191) HT_.out (fun K hK => ?_); have hs0 : w7.cell? ⟨g1, 0, none⟩ = some (.int .i64 0) := (ae K1.out 0).trans rfl; have hf0 := aN K1.out 0; have hs1 : w7.cell? ⟨g1, 1, none⟩ = some (.int .i64 0) := (ae K1.out 1).trans rfl; have hf1 := aN K1.out 1; have hs2 : w7.cell? ⟨g1, 2, none⟩ = some (.slice none 0 0) := (ae K1.out 2).trans rfl; have hf2 := aN K1.out 2; obtain ⟨w8, hw8⟩ : ∃ x, x = ((w7.setCell ⟨g1, 0, none⟩ (.int .i64 h.f0.f0)).setCell ⟨g1, 1, none⟩ (.int .i64 h.f0.f1)).setCell ⟨g1, 2, none⟩ (.slice Ah h.f1.length ch) := ⟨_, rfl⟩; refine yn (w1 := w8) (by rfl) rfl ?_ ?_
   ·rw [hw8]; first | (go_simp; done) | (go_simp; rfl)
   have n1 := aa.mk (show w8.heap[g1]? = some (.cells #[.int .i64 h.f0.f0, .int .i64 h.f0.f1, .slice Ah h.f1.length ch] 66 (0, 0)) by rw [hw8]; exact Di K1.out _ _ _); have n2 := aa.mk (show w8.heap[g2]? = some (.cells #[.int .i64 0, .int .i64 0, .slice none 0 0] 66 (0, 0)) by rw [hw8]; exact oW K2.out NE.out.symm _ _ _); have nX := aa.mk (show w8.heap[w.heap.size]? = some (.cells #[.slice (some ad) hs.length c1, .int .i64 W, .int .i64 S, .int .i64 t, .slice A4 sq.length c4] 25 (0, 0)) by rw [hw8]; exact oW BXa.out (by have := G1.out; omega) _ _ _); have nY := aa.mk (show w8.heap[w.heap.size + 1]? = some (.cells #[.slice (some bd) hs.length d1, .int .i64 W, .int .i64 S, .int .i64 t, .slice B4 sq.length d4] 25 (0, 0)) by rw [hw8]; exact oW BXb.out (by have := G1.out; omega) _ _ _); have nB := aa.mk (show Below w.heap.size w w8 by rw [hw8]; exact wW HB.out (by have := G1.out; omega) _ _ _); clear BXa BXb HB K1 K2 hs0 hs1 hs2 hf0 hf1 hf2 hw8; have BXa := nX; have BXb := nY; have HB := nB; have K1 := n1; have K2 := n2; clear n1 n2 nX nY nB; refine hK.out _ _ ⟨(ae BXa.out 0).trans rfl, (ae BXb.out 0).trans rfl, (HB.out.cell (World.block_lt_of_cell? _ _ X0.out)).trans X0.out, (HB.out.cell (World.block_lt_of_cell? _ _ X1.out)).trans X1.out, (HB.out.cell (World.block_lt_of_cell? _ _ X2.out)).trans X2.out, (HB.out.cell (World.block_lt_of_cell? _ _ Y0.out)).trans Y0.out, (HB.out.cell (World.block_lt_of_cell? _ _ Y1.out)).trans Y1.out, (HB.out.cell (World.block_lt_of_cell? _ _ Y2.out)).trans Y2.out⟩ (fun cz => ?_); clear hK K; refine Ir 13 none (ba 14 16383) HT_.out (fun K hK => ?_); have hs0 : w8.cell? ⟨g2, 0, none⟩ = some (.int .i64 0) := (ae K2.out 0).trans rfl; have hf0 := aN K2.out 0; have hs1 : w8.cell? ⟨g2, 1, none⟩ = some (.int .i64 0) := (ae K2.out 1).trans rfl; have hf1 := aN K2.out 1; have hs2 : w8.cell? ⟨g2, 2, none⟩ = some (.slice none 0 0) := (ae K2.out 2).trans rfl; have hf2 := aN K2.out 2; obtain ⟨w9, hw9⟩ : ∃ x, x = ((w8.setCell ⟨g2, 0, none⟩ (.int .i64 h.f0.f0)).setCell ⟨g2, 1, none⟩ (.int .i64 h.f0.f1)).setCell ⟨g2, 2, none⟩ (.slice Bh h.f1.length dh) := ⟨_, rfl⟩; refine yn (w1 := w9) (by rfl) rfl ?_ ?_
   ·rw [hw9]; first | (go_simp; done) | (go_simp; rfl)
   have n1 := aa.mk (show w9.heap[g2]? = some (.cells #[.int .i64 h.f0.f0, .int .i64 h.f0.f1, .slice Bh h.f1.length dh] 66 (0, 0)) by rw [hw9]; exact Di K2.out _ _ _); have n2 := aa.mk (show w9.heap[g1]? = some (.cells #[.int .i64 h.f0.f0, .int .i64 h.f0.f1, .slice Ah h.f1.length ch] 66 (0, 0)) by rw [hw9]; exact oW K1.out NE.out _ _ _); have nX := aa.mk (show w9.heap[w.heap.size]? = some (.cells #[.slice (some ad) hs.length c1, .int .i64 W, .int .i64 S, .int .i64 t, .slice A4 sq.length c4] 25 (0, 0)) by rw [hw9]; exact oW BXa.out (by have := G2.out; omega) _ _ _); have nY := aa.mk (show w9.heap[w.heap.size + 1]? = some (.cells #[.slice (some bd) hs.length d1, .int .i64 W, .int .i64 S, .int .i64 t, .slice B4 sq.length d4] 25 (0, 0)) by rw [hw9]; exact oW BXb.out (by have := G2.out; omega) _ _ _); have nB := aa.mk (show Below w.heap.size w w9 by rw [hw9]; exact wW HB.out (by have := G2.out; omega) _ _ _); clear BXa BXb HB K1 K2 hs0 hs1 hs2 hf0 hf1 hf2 hw9; have BXa := nX; have BXb := nY; have HB := nB; have K2 := n1; have K1 := n2; clear n1 n2 nX nY nB; refine hK.out _ _ ?_; clear hK K; refine I9 HT_.out ?_; clear cz; have hg10 : w9.cell? ⟨g1, 0, none⟩ = some (.int .i64 h.f0.f0) := (ae K1.out 0).trans rfl; have hg11 : w9.cell? ⟨g1, 1, none⟩ = some (.int .i64 h.f0.f1) := (ae K1.out 1).trans rfl; have hg12 : w9.cell? ⟨g1, 2, none⟩ = some (.slice Ah h.f1.length ch) := (ae K1.out 2).trans rfl; have hg20 : w9.cell? ⟨g2, 0, none⟩ = some (.int .i64 h.f0.f0) := (ae K2.out 0).trans rfl; have hg21 : w9.cell? ⟨g2, 1, none⟩ = some (.int .i64 h.f0.f1) := (ae K2.out 1).trans rfl; have hg22 : w9.cell? ⟨g2, 2, none⟩ = some (.slice Bh h.f1.length dh) := (ae K2.out 2).trans rfl; go_wp2
   go_loopw [5, 9] (fun v5 v9 wr => ∃ (i : Nat), i ≤ h.f1.length ∧ v5 = .bool true ∧ v9 = .int .i64 i ∧ aa (Below w.heap.size w wr) ∧ aa (wr.heap[w.heap.size]? = some (.cells #[.slice (some ad) hs.length c1, .int .i64 W, .int .i64 S, .int .i64 t, .slice A4 sq.length c4] 25 (0, 0))) ∧ aa (wr.heap[w.heap.size + 1]? = some (.cells #[.slice (some bd) hs.length d1, .int .i64 W, .int .i64 S, .int .i64 t, .slice B4 sq.length d4] 25 (0, 0))) ∧ aa (wr.heap[g1]? = some (.cells #[.int .i64 h.f0.f0, .int .i64 h.f0.f1, .slice Ah h.f1.length ch] 66 (0, 0))) ∧ aa (wr.heap[g2]? = some (.cells #[.int .i64 h.f0.f0, .int .i64 h.f0.f1, .slice Bh h.f1.length dh] 66 (0, 0)))) (fun _ v9 _ => h.f1.length - (intOf v9).toNat)
   case atStart => exact ⟨0, by omega, rfl, rfl, HB, BXa, BXb, K1, K2⟩
   case round =>
    clear HB BXa BXb K1 K2; obtain ⟨i, hi, rfl, rfl, HB, BXa, BXb, K1, K2⟩ := hrel; have hq2 : wr.cell? ⟨g1, 2, none⟩ = some (.slice Ah h.f1.length ch) := (ae K1.out 2).trans rfl; have hr2 : wr.cell? ⟨g2, 2, none⟩ = some (.slice Bh h.f1.length dh) := (ae K2.out 2).trans rfl; by_cases hil : i < h.f1.length
    ·have hi1 : decide ((i : Int) < (h.f1.length : Int)) = true := decide_eq_true (by omega); (have hilt : (i : Int) < (h.f1.length : Int) := by omega); (have hi20 : (i : Int) < 20 := by have := HSL.out; omega); obtain ⟨ed, e, hp0, hp1⟩ := mF (Kd.aV HI2.out HB.out) (i : Int) (by omega) (by omega); cases e; obtain ⟨fd, e, ho0, ho1⟩ := mF (Kd.aV HI3.out HB.out) (i : Int) (by omega) (by omega); cases e; rw [Int.toNat_natCast] at hp0 hp1 ho0 ho1; obtain ⟨p, hp⟩ : ∃ p, p = ai h.f1 (i : Int) := ⟨_, rfl⟩; rw [← hp] at hp0 hp1 ho0 ho1; clear hp; go_wp2; go_quiet (fail); go_wp2
     go_roundw
     (case rel => exact ⟨i + 1, by omega, rfl, by go_num, ⟨df HB.out _⟩, ⟨eX BXa.out _⟩, ⟨eX BXb.out _⟩, ⟨eX K1.out _⟩, ⟨eX K2.out _⟩⟩); case measure => simp [intOf]; omega
    ·(obtain rfl : i = h.f1.length := by omega); (have hi1 : decide ((h.f1.length : Int) < (h.f1.length : Int)) = false := by simp); go_wp2
     go_roundw
     (case rel => exact ⟨j + 1, by omega, rfl, by go_num, HB, BXa, BXb⟩); case measure => simp [intOf]; omega
  ·(obtain rfl : j = hs.length := by omega); (have hj1 : decide ((hs.length : Int) < (hs.length : Int)) = false := by simp); go_wp2; clear ha0 hb0 hj1
   go_loopw [5, 10, 11, 12, 13] (fun v5 v10 v11 v12 v13 wr => ∃ (j : Nat), j ≤ sq.length ∧ v5 = .bool true ∧ v10 = .int .i64 j ∧ aa (Below w.heap.size w wr) ∧ aa (wr.heap[w.heap.size]? = some (.cells #[.slice A1 hs.length c1, .int .i64 W, .int .i64 S, .int .i64 t, .slice A4 sq.length c4] 25 (0, 0))) ∧ aa (wr.heap[w.heap.size + 1]? = some (.cells #[.slice B1 hs.length d1, .int .i64 W, .int .i64 S, .int .i64 t, .slice B4 sq.length d4] 25 (0, 0)))) (fun _ v10 _ _ _ _ => sq.length - (intOf v10).toNat)
   case atStart => exact ⟨0, by omega, rfl, rfl, HB, BXa, BXb⟩
   case round =>
    clear HB BXa BXb; obtain ⟨j, hj, rfl, rfl, HB, BXa, BXb⟩ := hrel; have ha4 : wr.cell? ⟨w.heap.size, 4, none⟩ = some (.slice A4 sq.length c4) := (ae BXa.out 4).trans rfl; have hb4 : wr.cell? ⟨w.heap.size + 1, 4, none⟩ = some (.slice B4 sq.length d4) := (ae BXb.out 4).trans rfl; by_cases hjl : j < sq.length
    ·have hj1 : decide ((j : Int) < (sq.length : Int)) = true := decide_eq_true (by omega); (have hjlt : (j : Int) < (sq.length : Int) := by omega); (have hj20 : (j : Int) < 20 := by have := HL2.out; omega); obtain ⟨ad, Ah, ch, e, hx0, hl2, hi2⟩ := wG (Kd.aV HB4.out HB.out) (j : Int) (by omega) (by omega); cases e; obtain ⟨bd, Bh, dh, e, hy0, hl3, hi3⟩ := wG (Kd.aV HD4.out HB.out) (j : Int) (by omega) (by omega); cases e; rw [Int.toNat_natCast] at hx0 hy0; have HSL := aa.mk (show (cZ sq (j : Int)).length ≤ 20 by rw [rO sq j hjl]; exact HL4.out _ (List.getElem_mem hjl)); obtain ⟨q, hqd⟩ : ∃ q, q = cZ sq (j : Int) := ⟨_, rfl⟩; rw [← hqd] at HSL hx0 hy0 hl2 hl3 hi2 hi3; have HI2 := aa.mk hi2; have HI3 := aa.mk hi3; clear hqd hi2 hi3 hl2 hl3; go_wp2; go_quiet (fail); have nB := aa.mk (df HB.out nq); have nX := aa.mk (eX BXa.out nq); have nY := aa.mk (eX BXb.out nq); have nI := aa.mk (Kd.Ki HI2.out nq); have nJ := aa.mk (Kd.Ki HI3.out nq); clear HB BXa BXb HI2 HI3 hx0 hy0 ha4 hb4; have HB := nB; have BXa := nX; have BXb := nY; have HI2 := nI; have HI3 := nJ; clear nB nX nY nI nJ; go_wp2; obtain ⟨ws, hws⟩ : ∃ ws, ws = wr.drewN nq := ⟨_, rfl⟩; rw [← hws] at HB BXa BXb HI2 HI3 ⊢; clear hws
     go_loopw [5, 13] (fun v5 v13 wt => ∃ (i : Nat), i ≤ q.length ∧ v5 = .bool true ∧ v13 = .int .i64 i ∧ aa (Below w.heap.size w wt) ∧ aa (wt.heap[w.heap.size]? = some (.cells #[.slice A1 hs.length c1, .int .i64 W, .int .i64 S, .int .i64 t, .slice (some ad) sq.length c4] 25 (0, 0))) ∧ aa (wt.heap[w.heap.size + 1]? = some (.cells #[.slice B1 hs.length d1, .int .i64 W, .int .i64 S, .int .i64 t, .slice (some bd) sq.length d4] 25 (0, 0))) ∧ aa (Below ws.heap.size ws wt)) (fun _ v13 _ => q.length - (intOf v13).toNat)
     case atStart => exact ⟨0, by omega, rfl, rfl, HB, BXa, BXb, ⟨Below.refl _ _⟩⟩
     case round =>
      clear HB BXa BXb; obtain ⟨i, hi, rfl, rfl, HB, BXa, BXb, HWS⟩ := hrel; by_cases hil : i < q.length
      ·have hi1 : decide ((i : Int) < (q.length : Int)) = true := decide_eq_true (by omega); (have hilt : (i : Int) < (q.length : Int) := by omega); (have hi20 : (i : Int) < 20 := by have := HSL.out; omega); obtain ⟨ed, e, hp0, hp1⟩ := uN (Kd.aV HI2.out HWS.out) (i : Int) (by omega) (by omega); cases e; obtain ⟨fd, e, ho0, ho1⟩ := uN (Kd.aV HI3.out HWS.out) (i : Int) (by omega) (by omega); cases e; rw [Int.toNat_natCast] at hp0 hp1 ho0 ho1; obtain ⟨p, hp⟩ : ∃ p, p = dV q (i : Int) := ⟨_, rfl⟩; rw [← hp] at hp0 hp1 ho0 ho1; clear hp; go_wp2; go_quiet (fail); go_wp2
       go_roundw
       (case rel => exact ⟨i + 1, by omega, rfl, by go_num, ⟨df HB.out _⟩, ⟨eX BXa.out _⟩, ⟨eX BXb.out _⟩, ⟨df HWS.out _⟩⟩); case measure => simp [intOf]; omega
      ·(obtain rfl : i = q.length := by omega); (have hi1 : decide ((q.length : Int) < (q.length : Int)) = false := by simp); go_wp2
       go_roundw
       (case rel => exact ⟨j + 1, by omega, rfl, by go_num, HB, BXa, BXb⟩); case measure => simp [intOf]; omega
    ·(obtain rfl : j = sq.length := by omega); (have hj1 : decide ((sq.length : Int) < (sq.length : Int)) = false := by simp); go_wp2
     go_ret
     exact ⟨rfl, HB.out⟩
end Go.Proofs.Ytihedeofkhapiaa.Pr
end
section
namespace Go.Proofs.Ytihedeofkhapiaa.Pr
open Go.RowKit Go.Proofs.YtihedeofkhapiaaW.PrintWords Go.Proofs.YtihedeofkhapiaaW.PrintLast Go.Proofs.YtihedeofkhapiaaW.PrintMore
def nW (k : Nat) (hs : List S66) (W S t : Int) (sq : List (List S27)) : Prop :=
 ku hs sq ∧ az.f k hs W S t sq = some (hs, W, S, t, sq) ∧ bz.f k hs W S t sq = some ((ol hs W S t sq).1, (ol hs W S t sq).2) ∧ yX hs W S t sq = qf hs W S t sq
def DZ (k : Nat) (W0 : World) (g i : Nat) : Prop :=
 ∃ (A : Option Addr) (c : Nat) (hs : List S66) (W S t : Int) (B : Option Addr) (d : Nat) (sq : List (List S27)),
  (W0.cell? ⟨g, i * 5, none⟩ = some (.slice A hs.length c) ∧ W0.cell? ⟨g, i * 5 + 1, none⟩ = some (.int .i64 W) ∧ W0.cell? ⟨g, i * 5 + 2, none⟩ = some (.int .i64 S) ∧ W0.cell? ⟨g, i * 5 + 3, none⟩ = some (.int .i64 t) ∧ W0.cell? ⟨g, i * 5 + 4, none⟩ = some (.slice B sq.length d)) ∧
  Kd.C k66 W0 A hs.length hs ∧ hs.length ≤ c ∧ Kd.C (Kd.slice 27 k27) W0 B sq.length sq ∧ sq.length ≤ d ∧ nW k hs W S t sq
theorem Ym {w : World} {g t t' : Nat} {c c' : Array Value} (h : w.heap[g]? = some (.cells c t (0, 0))) (h' : w.heap[g]? = some (.cells c' t' (0, 0))) : t = t' := by
 rw [h] at h'; injection h' with h'; injection h' with _ h'
theorem LK {α : Type} (d : Kd α) {W : World} (base e : Nat) {xs : List α} {inner : List Value} {ok okp : Nat → Prop} (hrep : dH (d.M W base okp) d.sz xs inner) (hok : ∀ k, okp k → ok k) (hfresh : ok W.heap.size) (hbase : base ≤ W.heap.size) (hm : xs.length ≤ 9223372036854775807) :
 d.R e (W.alloc (.cells inner.toArray e)) base ok (.slice (some ⟨W.heap.size, 0, none⟩) xs.length xs.length) xs := by
 refine ⟨fun k hk => ?_, inner, ?_, ?_⟩
 ·(have : W.heap.size = k := by simpa [Value.ownBlock] using hk); subst this; exact hfresh
 ·have h2 := World.ownsRow_lit (base := base) (e := e) (size := d.sz) W inner.toArray xs.length hbase (by simpa [maxLen] using hm) (by simpa using hrep.1)
  simpa using h2
 ·refine hrep.sV (fun p c hp => d.M_mono (fun k hk => ⟨hok k hk.1, fun he => ?_⟩) (Kd.DX (d.M_bound hp) (ax (Below.refl _ _) _))); (have h3 : k = W.heap.size := by simpa [Value.ownBlock] using he); have := hk.2.2.1; omega
set_option maxRecDepth 100000 in
set_option maxHeartbeats 8000000 in
theorem D5 (k : Nat) (A0 B0 An : Option Addr) (c0 d0 cn : Nat) (hs : List S66) (W S t : Int) (sq : List (List S27)) (x0 x1 at_ : Int) (ns : List Int) (a b : Int) (mh : List S66) (mw ms mt : Int) (mq : List (List S27)) (cut : Int) (txt : ByteArray) (vis : List Int) (y0 y1 : Int) (kk : Nat) (w : World)
 (hh : Kd.C k66 w A0 hs.length hs) (hhc : hs.length ≤ c0) (hr : Kd.C (Kd.slice 27 k27) w B0 sq.length sq) (hrc : sq.length ≤ d0) (hn : Kd.C (Kd.int .i64) w An ns.length ns) (hnc : ns.length ≤ cn)
 (h1 : dB.f k = some true) (h2 : kR.f ns = some (a, b)) (h3 : ag.f k a b 3 5 4 = some (mh, mw, ms, mt, mq, cut, txt, vis, y0, y1)) (h4 : jg.f at_ (mq.length : Int) = some (kk : Int)) (hkk : kk < mq.length) (hml : mq.length ≤ 8)
 (hA : ku hs sq → nW k hs W S t sq) (hM : nW k mh mw ms mt mq) (hO : nW k mh mw ms 40 (mq.set kk [⟨x0, x1⟩])) :
 Calls Try.prog 3 #[.agg #[.slice A0 hs.length c0, .int .i64 W, .int .i64 S, .int .i64 t, .slice B0 sq.length d0], .agg #[.int .i64 x0, .int .i64 x1], .int .i64 at_, .slice An ns.length cn] w fun e w' => e = .returned (.bool true) ∧ Below w.heap.size w w' := by
 have HH := aa.mk hh; have HHC := aa.mk hhc; have HR := aa.mk hr; have HRC := aa.mk hrc; have HN := aa.mk hn; have HNC := aa.mk hnc; have F1 := aa.mk h1; have F2 := aa.mk h2; have F3 := aa.mk h3; have F4 := aa.mk h4; have F5 := aa.mk hM.2.1; have HPA := aa.mk hA; have HPM := aa.mk hM; have HPO := aa.mk hO; have HKK := aa.mk hkk; have HML := aa.mk hml; clear hh hhc hr hrc hn hnc h1 h2 h3 h4 hA hM hO hkk hml; go_enter Try.func3, Try.ntmps3; (go_upto_region 1 with (fail)); obtain ⟨W1, hW1⟩ : ∃ W1, W1 = (w.alloc (.cells #[.slice A0 hs.length c0, .int .i64 W, .int .i64 S, .int .i64 t, .slice B0 sq.length d0] 25)).alloc (.cells #[.int .i64 x0, .int .i64 x1] 27) := ⟨_, rfl⟩; have HB1 := aa.mk (show Below w.heap.size w W1 by rw [hW1]; exact ax (ax (Below.refl _ _) _) _); have BL1 := aa.mk (show W1.heap[w.heap.size]? = some (.cells #[.slice A0 hs.length c0, .int .i64 W, .int .i64 S, .int .i64 t, .slice B0 sq.length d0] 25 (0, 0)) by rw [hW1]; exact bT (heap_alloc_new w _) _)
 have BX1 := aa.mk (show W1.heap[w.heap.size + 1]? = some (.cells #[.int .i64 x0, .int .i64 x1] 27 (0, 0)) by
  rw [hW1]; have := heap_alloc_new (w.alloc (.cells #[.slice A0 hs.length c0, .int .i64 W, .int .i64 S, .int .i64 t, .slice B0 sq.length d0] 25)) (.cells #[.int .i64 x0, .int .i64 x1] 27)
  rwa [World.size_alloc] at this)
 rw [← hW1]; clear hW1; have hz0 : W1.cell? ⟨w.heap.size, 0, none⟩ = some (.slice A0 hs.length c0) := (ae BL1.out 0).trans rfl; have hz1 : W1.cell? ⟨w.heap.size, 1, none⟩ = some (.int .i64 W) := (ae BL1.out 1).trans rfl; have hz2 : W1.cell? ⟨w.heap.size, 2, none⟩ = some (.int .i64 S) := (ae BL1.out 2).trans rfl; have hz3 : W1.cell? ⟨w.heap.size, 3, none⟩ = some (.int .i64 t) := (ae BL1.out 3).trans rfl; have hz4 : W1.cell? ⟨w.heap.size, 4, none⟩ = some (.slice B0 sq.length d0) := (ae BL1.out 4).trans rfl; (go_wp2_with (fail)); refine (Lx A0 c0 hs W S t B0 d0 sq _ (Kd.aV HH.out HB1.out) (Kd.aV HR.out HB1.out)).mono ?_; rintro e w2 ⟨bb, rfl, hbb, hb⟩; have HB2 := aa.mk (aC HB1.out hb); have BL2 := aa.mk (au BL1.out hb); have BX2 := aa.mk (au BX1.out hb); have HSM := aa.mk hbb; clear hz0 hz1 hz2 hz3 hz4 hb hbb HB1 BL1 BX1
 cases bb with
 | true =>
  (go_wp2_with (fail)); refine (dB.calls k true _ F1.out).mono ?_; rintro e w3 ⟨rfl, hb⟩; go_wp2
  go_ret
  exact ⟨rfl, aC HB2.out hb⟩
 | false =>
  have HP1 := aa.mk (HPA.out (HSM.out rfl)); clear HPA HSM; (go_wp2_with (fail)); refine (kR.calls _ _ ns _ _ w _ HB2.out HN.out HNC.out F2.out).mono ?_; rintro e w3 ⟨g, rfl, hI, hB, hb3⟩; have HI1 := aa.mk hI; have HB3 := aa.mk hB; have HG1 := aa.mk hI.lt; have BL3 := aa.mk (au BL2.out hb3); have BX3 := aa.mk (au BX2.out hb3); have NE1 := aa.mk (PO BL3.out HI1.out.1 (by decide)); have NE2 := aa.mk (PO BX3.out HI1.out.1 (by decide)); clear hI hB hb3 BL2 BX2; (go_wp2_with (fail)); refine (ag.calls k g a b 3 5 4 _ _ _ _ _ _ _ _ _ _ w _ HI1.out HB3.out F3.out).mono ?_; rintro e w4 ⟨v0, v4, v7, rfl, ho0, ho1, ho2, hI, hB, hk⟩; obtain ⟨A1, c1, rfl⟩ := Kd.jX ho0; obtain ⟨B1, d1, rfl⟩ := Kd.jX ho1; obtain ⟨V1, e1, rfl⟩ := Kd.fq ho2; have HC1 := aa.mk (Kd.iT ho0).2.1; have HD1 := aa.mk (Kd.iT ho1).2.1; have MM1 := aa.mk (Kd.iT ho0).2.2; have MM2 := aa.mk (Kd.iT ho1).2.2; have HB4 := aa.mk hB; have BL4 := aa.mk (aj.blk hk BL3.out NE1.out (by simp)); have BX4 := aa.mk (aj.blk hk BX3.out NE2.out (by simp)); clear hI hB ho0 ho1 ho2 hk HI1 HB3 BL3 BX3; (go_upto_region 4 with (fail)); obtain ⟨W5, hW5⟩ : ∃ W5, W5 = ((w4.alloc (.cells #[.slice A1 mh.length c1, .int .i64 mw, .int .i64 ms, .int .i64 mt, .slice B1 mq.length d1] 25)).alloc (.cells #[.int .i64 cut, .string txt, .slice V1 vis.length e1] 32)) := ⟨_, rfl⟩; have HB45 := aa.mk (show Below w4.heap.size w4 W5 by rw [hW5]; exact ax (ax (Below.refl _ _) _) _); have BM5 := aa.mk (show W5.heap[w4.heap.size]? = some (.cells #[.slice A1 mh.length c1, .int .i64 mw, .int .i64 ms, .int .i64 mt, .slice B1 mq.length d1] 25 (0, 0)) by rw [hW5]; exact bT (heap_alloc_new w4 _) _); rw [← hW5]; clear hW5; have HB5 := aa.mk (aC HB4.out HB45.out); have BL5 := aa.mk (au BL4.out HB45.out); have BX5 := aa.mk (au BX4.out HB45.out); have hz0 : W5.cell? ⟨w4.heap.size, 0, none⟩ = some (.slice A1 mh.length c1) := (ae BM5.out 0).trans rfl; have hz1 : W5.cell? ⟨w4.heap.size, 1, none⟩ = some (.int .i64 mw) := (ae BM5.out 1).trans rfl; have hz2 : W5.cell? ⟨w4.heap.size, 2, none⟩ = some (.int .i64 ms) := (ae BM5.out 2).trans rfl; have hz3 : W5.cell? ⟨w4.heap.size, 3, none⟩ = some (.int .i64 mt) := (ae BM5.out 3).trans rfl; have hz4 : W5.cell? ⟨w4.heap.size, 4, none⟩ = some (.slice B1 mq.length d1) := (ae BM5.out 4).trans rfl; clear BL4 BX4; (go_wp2_with (fail)); refine (az.calls k A1 c1 mh mw ms mt B1 d1 mq mh mw ms mt mq _ (Kd.aV MM1.out HB45.out) HC1.out (Kd.aV MM2.out HB45.out) HD1.out F5.out).mono ?_; rintro e w6 ⟨x0_, x4_, rfl, ho0, ho1, hb⟩; obtain ⟨A2, c2, rfl⟩ := Kd.qw ho0; obtain ⟨B2, d2, rfl⟩ := Kd.qw ho1; have HC2 := aa.mk (Kd.mY ho0).2.1; have HD2 := aa.mk (Kd.mY ho1).2.1; have MA := aa.mk (Kd.aV MM1.out HB45.out); have MB := aa.mk (Kd.aV MM2.out HB45.out); have HV6 := aa.mk hb; have SO := aa.mk ho0; have SX := aa.mk (Kd.mQ (ok' := fun k => W5.heap.size ≤ k ∧ k < w6.heap.size) (Kd.DI ho1) (fun k h => ⟨h.2.1, h.2.2.1⟩)); clear hz0 hz1 hz2 hz3 hz4 hb ho0 ho1 MM1 MM2; (go_upto_region 5 with (fail)); obtain ⟨W7, hW7⟩ : ∃ W7, W7 = (w6.alloc (.cells #[.slice A2 mh.length c2, .int .i64 mw, .int .i64 ms, .int .i64 mt, .slice B2 mq.length d2] 25)) := ⟨_, rfl⟩; have HW7 := aa.mk (show Below w6.heap.size w6 W7 by rw [hW7]; exact ax (Below.refl _ _) _); have BO7 := aa.mk (show W7.heap[w6.heap.size]? = some (.cells #[.slice A2 mh.length c2, .int .i64 mw, .int .i64 ms, .int .i64 mt, .slice B2 mq.length d2] 25 (0, 0)) by rw [hW7]; exact heap_alloc_new w6 _); rw [← hW7]; clear hW7; have hz4 : W7.cell? ⟨w6.heap.size, 4, none⟩ = some (.slice B2 mq.length d2) := (ae BO7.out 4).trans rfl; (go_wp2_with (fail)); refine (jg.calls at_ (mq.length : Int) (kk : Int) _ F4.out).mono ?_; rintro e w8 ⟨rfl, hdr⟩; have hb := dO.below hdr; have HV8 := aa.mk (aC (aC HV6.out HW7.out) hb); have SO8 := aa.mk (Kd.rJ (Kd.rJ SO.out HW7.out) hb); have SX8 := aa.mk (Kd.rJ (Kd.rJ SX.out HW7.out) hb); have BO8 := aa.mk (au BO7.out hb); have BL8 := aa.mk (au BL5.out HV8.out); have BX8 := aa.mk (au BX5.out HV8.out); have BM8 := aa.mk (au BM5.out HV8.out); have HS6 := aa.mk HV6.out.size; have HS8 := aa.mk (bQ BO8.out); clear hb hdr hz4 HW7 BO7 SO SX HV6; obtain ⟨gB, cp, hv, hgb, hgl, gcs, hgcs⟩ := Kd.WV SX8.out (by have := HKK.out; omega); injection hv with hv1 hv2 hv3; subst hv1; subst hv3; (have hkk1 : (kk : Int) < (mq.length : Int) := by have := HKK.out; omega); obtain ⟨oki, cl, hcl, hM, hcc, hfr, hoki, hH⟩ := Kd.Xe SX8.out [] (kk : Int) (by omega) hkk1; obtain ⟨vi, rfl, hRi⟩ := hM; obtain ⟨E, m, rfl⟩ := Kd.fq hRi; have hok := (Kd.S_R SX8.out).1 gB rfl; have HOKB := aa.mk hok
  have hx0 : w8.cell? ⟨gB, kk, none⟩ = some (.slice E (mq.getD (kk : Int).toNat []).length m) := by
   have := hcc 0 _ rfl
   rwa [show (Kd.slice 27 k27).sz = 1 from rfl, Nat.mul_one, Nat.add_zero, Int.toNat_natCast] at this
  have hf0 : w8.frozen? ⟨gB, kk, none⟩ = false := by
   have := hfr 0
   rwa [show (Kd.slice 27 k27).sz = 1 from rfl, Nat.mul_one, Nat.add_zero, Int.toNat_natCast] at this
  obtain ⟨qn, hqn⟩ : ∃ qn, qn = (mq.getD (kk : Int).toNat []).length := ⟨_, rfl⟩; rw [← hqn] at hx0; have HHX := aa.mk hH; have HOKI := aa.mk hoki; have HGC := aa.mk hgcs; have hne1 : gB ≠ w6.heap.size := Nat.ne_of_lt hok.2; have hne2 : w6.heap.size ≠ gB := Ne.symm hne1; have HX0 := aa.mk hx0; clear hH hoki hgcs hcc hfr hcl hRi hqn hgb hgl hv2 hok; have hx1 : w8.cell? ⟨w.heap.size + 1, 0, none⟩ = some (.int .i64 x0) := (ae BX8.out 0).trans rfl; have hx2 : w8.cell? ⟨w.heap.size + 1, 1, none⟩ = some (.int .i64 x1) := (ae BX8.out 1).trans rfl; have ht4 : w8.cell? ⟨w6.heap.size, 4, none⟩ = some (.slice (some ⟨gB, 0, none⟩) mq.length d2) := (ae BO8.out 4).trans rfl; have ht3 : w8.cell? ⟨w6.heap.size, 3, none⟩ = some (.int .i64 mt) := (ae BO8.out 3).trans rfl; have htf := aN BO8.out 3; have hl1 : gB < w8.heap.size := World.block_lt_of_cell? w8 _ hx0; have hl2 : w6.heap.size < w8.heap.size := HS8.out; have hl3 : w.heap.size + 1 < w8.heap.size := bQ BX8.out; (go_upto_region 7 with (fail)); obtain ⟨U, hU⟩ : ∃ U, U = (w8.setCell ⟨gB, kk, none⟩ (.slice (some ⟨w8.heap.size, 0, none⟩) 1 1)).setCell ⟨w6.heap.size, 3, none⟩ (.int .i64 40) := ⟨_, rfl⟩; (have hUs : U.heap.size = w8.heap.size := by rw [hU, World.size_setCell, World.size_setCell]); obtain ⟨W9, hW9⟩ : ∃ W9, W9 = U.alloc (.cells #[.int .i64 x0, .int .i64 x1] 27) := ⟨_, rfl⟩; have hg5 : W5.heap.size ≤ gB := HOKB.out.1; have HV9 := aa.mk (show Below W5.heap.size W5 W9 by rw [hW9, hU]; exact ax (bZ (bZ HV8.out hg5) HS6.out) _)
  have BO9 := aa.mk (show W9.heap[w6.heap.size]? = some (.cells #[.slice A2 mh.length c2, .int .i64 mw, .int .i64 ms, .int .i64 40, .slice (some ⟨gB, 0, none⟩) mq.length d2] 25 (0, 0)) by
   rw [hW9, hU]
   exact bT (bP (bu BO8.out hne2 _) 3 _ rfl) _)
  have BL9 := aa.mk (au BL5.out HV9.out); have BM9 := aa.mk (au BM5.out HV9.out); have CA9 := aa.mk (Kd.aV MA.out HV9.out); have CB9 := aa.mk (Kd.aV MB.out HV9.out)
  have KO9 := aa.mk (show Kd.C k66 W9 A2 mh.length mh by
   rw [hW9, hU]
   exact (Kd.mY (Kd.Uz (Kd.V4 (Kd.V4 SO8.out HGC.out (by decide) kk _) (bu BO8.out hne2 _) (by decide) 3 _) _)).2.2)
  have HQ9 := aa.mk (show Kd.C (Kd.slice 27 k27) W9 (some ⟨gB, 0, none⟩) (mq.set kk [⟨x0, x1⟩]).length (mq.set kk [⟨x0, x1⟩]) by
   have h1 := Kd.SQ (Kd.Xc (ok' := fun k => (W5.heap.size ≤ k ∧ k < w6.heap.size) ∨ w8.heap.size ≤ k) HHX.out (fun k h => .inl h)); obtain ⟨h2, _⟩ := Kd.Y8 h1 (by omega) hkk1 (seg := [.slice (some ⟨w8.heap.size, 0, none⟩) 1 1]) (j := 0) (Nat.le_refl 1) (fun q hq => by rw [List.mem_singleton] at hq; rw [hq]; rfl); rw [show (Kd.slice 27 k27).sz = 1 from rfl, Nat.mul_one, Nat.add_zero, Int.toNat_natCast] at h2; rw [show w8.setCells gB kk [.slice (some ⟨w8.heap.size, 0, none⟩) 1 1] = w8.setCell ⟨gB, kk, none⟩ (.slice (some ⟨w8.heap.size, 0, none⟩) 1 1) from rfl] at h2
   have h3 := Kd.abB (p := ⟨w6.heap.size, 3, none⟩) h2 (fun k hk => by
    rcases hk with hk | hk
    ·exact Nat.ne_of_lt hk.2
    ·exact Nat.ne_of_gt (Nat.lt_of_lt_of_le hl2 hk)) (.int .i64 40)
   have hr := LK k27 (W := U) W5.heap.size 27 (xs := [(⟨x0, x1⟩ : S27)]) (inner := [.int .i64 x0, .int .i64 x1]) (ok := fun k => w8.heap.size ≤ k) (okp := fun _ => False) (dH.c2 (vV _ _ _ (⟨x0, x1⟩ : S27)) (dH.none _ _)) (fun _ h => h.elim) (by rw [hUs]; exact Nat.le_refl _) (by rw [hUs]; omega) (by simp); have h4 := Kd.SA h3 (.cells #[.int .i64 x0, .int .i64 x1] 27); rw [hUs] at hr; have h5 := Kd.X4 h4 (x' := [(⟨x0, x1⟩ : S27)]) (okp := fun k => w8.heap.size ≤ k) ⟨.slice (some ⟨w8.heap.size, 0, none⟩) 1 1, rfl, by rw [hU] at hr; exact hr⟩ (fun k hk => .inr ⟨.inr hk, hk⟩); rw [Int.toNat_natCast] at h5; have h6 := (Kd.mY h5).2.2; rw [← (Kd.mY h5).1] at h6; rw [hW9, hU, List.length_set]
   exact h6)
  have HS9 := aa.mk (show w8.heap.size < W9.heap.size by rw [hW9, World.size_alloc, hUs]; omega); rw [← hU, ← hW9]; clear hU hW9 hUs hg5 hx0 hf0 hx1 hx2 ht4 ht3 htf hl1 hl2 hl3 HHX HOKI HGC HX0 HV8 SO8 SX8 BO8 BL8 BX8 BM8 MA MB BL5 BX5 BM5; have hl0 : W9.cell? ⟨w.heap.size, 0, none⟩ = some (.slice A0 hs.length c0) := (ae BL9.out 0).trans rfl; have hl1 : W9.cell? ⟨w.heap.size, 1, none⟩ = some (.int .i64 W) := (ae BL9.out 1).trans rfl; have hl2 : W9.cell? ⟨w.heap.size, 2, none⟩ = some (.int .i64 S) := (ae BL9.out 2).trans rfl; have hl3 : W9.cell? ⟨w.heap.size, 3, none⟩ = some (.int .i64 t) := (ae BL9.out 3).trans rfl; have hl4 : W9.cell? ⟨w.heap.size, 4, none⟩ = some (.slice B0 sq.length d0) := (ae BL9.out 4).trans rfl; have hm0 : W9.cell? ⟨w4.heap.size, 0, none⟩ = some (.slice A1 mh.length c1) := (ae BM9.out 0).trans rfl; have hm1 : W9.cell? ⟨w4.heap.size, 1, none⟩ = some (.int .i64 mw) := (ae BM9.out 1).trans rfl; have hm2 : W9.cell? ⟨w4.heap.size, 2, none⟩ = some (.int .i64 ms) := (ae BM9.out 2).trans rfl; have hm3 : W9.cell? ⟨w4.heap.size, 3, none⟩ = some (.int .i64 mt) := (ae BM9.out 3).trans rfl; have hm4 : W9.cell? ⟨w4.heap.size, 4, none⟩ = some (.slice B1 mq.length d1) := (ae BM9.out 4).trans rfl; have ho0 : W9.cell? ⟨w6.heap.size, 0, none⟩ = some (.slice A2 mh.length c2) := (ae BO9.out 0).trans rfl; have ho1 : W9.cell? ⟨w6.heap.size, 1, none⟩ = some (.int .i64 mw) := (ae BO9.out 1).trans rfl; have ho2 : W9.cell? ⟨w6.heap.size, 2, none⟩ = some (.int .i64 ms) := (ae BO9.out 2).trans rfl; have ho3 : W9.cell? ⟨w6.heap.size, 3, none⟩ = some (.int .i64 40) := (ae BO9.out 3).trans rfl; have ho4 : W9.cell? ⟨w6.heap.size, 4, none⟩ = some (.slice (some ⟨gB, 0, none⟩) mq.length d2) := (ae BO9.out 4).trans rfl; (go_upto_region 8 with (fail)); obtain ⟨WA, hWA⟩ : ∃ WA, WA = W9.alloc (.cells #[.slice A0 hs.length c0, .int .i64 W, .int .i64 S, .int .i64 t, .slice B0 sq.length d0, .slice A1 mh.length c1, .int .i64 mw, .int .i64 ms, .int .i64 mt, .slice B1 mq.length d1, .slice A2 mh.length c2, .int .i64 mw, .int .i64 ms, .int .i64 40, .slice (some ⟨gB, 0, none⟩) mq.length d2] 25) := ⟨_, rfl⟩; have HWA := aa.mk (show Below W9.heap.size W9 WA by rw [hWA]; exact ax (Below.refl _ _) _); have BA := aa.mk (show WA.heap[W9.heap.size]? = some (.cells #[.slice A0 hs.length c0, .int .i64 W, .int .i64 S, .int .i64 t, .slice B0 sq.length d0, .slice A1 mh.length c1, .int .i64 mw, .int .i64 ms, .int .i64 mt, .slice B1 mq.length d1, .slice A2 mh.length c2, .int .i64 mw, .int .i64 ms, .int .i64 40, .slice (some ⟨gB, 0, none⟩) mq.length d2] 25 (0, 0)) by rw [hWA]; exact heap_alloc_new W9 _); rw [← hWA]; clear hWA hl0 hl1 hl2 hl3 hl4 hm0 hm1 hm2 hm3 hm4 ho0 ho1 ho2 ho3 ho4; have HBA := aa.mk (aC (aC HB5.out HV9.out) HWA.out); have LA0 : DZ k WA W9.heap.size 0 := ⟨A0, c0, hs, W, S, t, B0, d0, sq, ⟨(ae BA.out 0).trans rfl, (ae BA.out 1).trans rfl, (ae BA.out 2).trans rfl, (ae BA.out 3).trans rfl, (ae BA.out 4).trans rfl⟩, Kd.aV HH.out HBA.out, HHC.out, Kd.aV HR.out HBA.out, HRC.out, HP1.out⟩; have LA1 : DZ k WA W9.heap.size 1 := ⟨A1, c1, mh, mw, ms, mt, B1, d1, mq, ⟨(ae BA.out 5).trans rfl, (ae BA.out 6).trans rfl, (ae BA.out 7).trans rfl, (ae BA.out 8).trans rfl, (ae BA.out 9).trans rfl⟩, Kd.aV CA9.out HWA.out, HC1.out, Kd.aV CB9.out HWA.out, HD1.out, HPM.out⟩; have LA2 : DZ k WA W9.heap.size 2 := ⟨A2, c2, mh, mw, ms, 40, some ⟨gB, 0, none⟩, d2, mq.set kk [⟨x0, x1⟩], ⟨(ae BA.out 10).trans rfl, (ae BA.out 11).trans rfl, (ae BA.out 12).trans rfl, (ae BA.out 13).trans rfl, by rw [List.length_set]; exact (ae BA.out 14).trans rfl⟩, Kd.aV KO9.out HWA.out, HC2.out, Kd.aV HQ9.out HWA.out, by rw [List.length_set]; exact HD2.out, HPO.out⟩
  have LA := aa.mk (show ∀ i : Nat, i < 3 → DZ k WA W9.heap.size i by
   intro i hi; rcases i with _ | _ | _ | i
   ·exact LA0
   ·exact LA1
   ·exact LA2
   ·omega)
  obtain ⟨gA, hgA⟩ : ∃ gA, gA = W9.heap.size := ⟨_, rfl⟩; rw [← hgA] at LA BA; rw [← hgA]; clear LA0 LA1 LA2 hgA; go_wp2; clear BL9 BM9 BO9 CA9 CB9 KO9 HQ9 HS9 HV9 BA HWA NE1 NE2 HC1 HD1 HC2 HD2 HB45 HB5 HB4 HPM HPO HP1 HKK HML
  go_loopw [14, 15, 16, 17, 18, 19, 20, 21, 22, 23] (fun v14 v15 v16 v17 v18 v19 v20 v21 v22 v23 wr => ∃ j : Nat, j ≤ 3 ∧ v14 = .int .i64 j ∧ aa (Below WA.heap.size WA wr)) (fun v14 _ _ _ _ _ _ _ _ _ _ => 3 - (intOf v14).toNat)
  case atStart => exact ⟨0, by omega, rfl, ⟨Below.refl _ _⟩⟩
  case round =>
   obtain ⟨j, hj, rfl, HB⟩ := hrel; by_cases hjl : j < 3
   ·have hj1 : decide ((j : Int) < 3) = true := decide_eq_true (by omega); (have hjlt : (j : Int) < 3 := by omega); obtain ⟨A, c, lh, LW, LS, Lt, B, d, lq, ⟨e0, e1, e2, e3, e4⟩, hca, hcl, hcb, hdl, hok⟩ := LA.out j hjl; have E0 := aa.mk e0; have E1 := aa.mk e1; have E2 := aa.mk e2; have E3 := aa.mk e3; have E4 := aa.mk e4; have KA := aa.mk hca; have KB := aa.mk hcb; have KC := aa.mk hcl; have KD := aa.mk hdl; have OK1 := aa.mk hok.1; have OK2 := aa.mk hok.2.1; have OK3 := aa.mk hok.2.2.1; have OK4 := aa.mk hok.2.2.2; clear e0 e1 e2 e3 e4 hca hcl hcb hdl hok; have f0 : wr.cell? ⟨gA, j * 5, none⟩ = some (.slice A lh.length c) := (HB.out.cell (World.block_lt_of_cell? _ _ E0.out)).trans E0.out; have f1 : wr.cell? ⟨gA, j * 5 + 1, none⟩ = some (.int .i64 LW) := (HB.out.cell (World.block_lt_of_cell? _ _ E1.out)).trans E1.out; have f2 : wr.cell? ⟨gA, j * 5 + 2, none⟩ = some (.int .i64 LS) := (HB.out.cell (World.block_lt_of_cell? _ _ E2.out)).trans E2.out; have f3 : wr.cell? ⟨gA, j * 5 + 3, none⟩ = some (.int .i64 Lt) := (HB.out.cell (World.block_lt_of_cell? _ _ E3.out)).trans E3.out; have f4 : wr.cell? ⟨gA, j * 5 + 4, none⟩ = some (.slice B lq.length d) := (HB.out.cell (World.block_lt_of_cell? _ _ E4.out)).trans E4.out; (go_wp2_with (fail)); refine (az.calls k A c lh LW LS Lt B d lq lh LW LS Lt lq _ (Kd.aV KA.out HB.out) KC.out (Kd.aV KB.out HB.out) KD.out OK2.out).mono ?_; rintro e r1 ⟨vo0, vo4, rfl, ho0, ho1, hb⟩; obtain ⟨Ao, co, rfl⟩ := Kd.qw ho0; obtain ⟨Bo, do_, rfl⟩ := Kd.qw ho1; have OC := aa.mk (Kd.mY ho0).2.1; have OD := aa.mk (Kd.mY ho1).2.1; have OA := aa.mk (Kd.mY ho0).2.2; have OB := aa.mk (Kd.mY ho1).2.2; have HB1 := aa.mk (aC HB.out hb); clear f0 f1 f2 f3 f4 hb ho0 ho1 HB; (go_upto_region 12 with (fail)); obtain ⟨R2, hR2⟩ : ∃ R2, R2 = r1.alloc (.cells #[.slice Ao lh.length co, .int .i64 LW, .int .i64 LS, .int .i64 Lt, .slice Bo lq.length do_] 25) := ⟨_, rfl⟩; have hb := (show Below r1.heap.size r1 R2 by rw [hR2]; exact ax (Below.refl _ _) _); have BO2 := aa.mk (show R2.heap[r1.heap.size]? = some (.cells #[.slice Ao lh.length co, .int .i64 LW, .int .i64 LS, .int .i64 Lt, .slice Bo lq.length do_] 25 (0, 0)) by rw [hR2]; exact heap_alloc_new r1 _); rw [← hR2]; have HB2 := aa.mk (aC HB1.out hb); have OA2 := aa.mk (Kd.aV OA.out hb); have OB2 := aa.mk (Kd.aV OB.out hb); obtain ⟨gO, hgO⟩ : ∃ gO, gO = r1.heap.size := ⟨_, rfl⟩; rw [← hgO] at BO2; rw [← hgO]; clear hR2 hb HB1 OA OB hgO; have p0 : R2.cell? ⟨gO, 0, none⟩ = some (.slice Ao lh.length co) := (ae BO2.out 0).trans rfl; have p1 : R2.cell? ⟨gO, 1, none⟩ = some (.int .i64 LW) := (ae BO2.out 1).trans rfl; have p2 : R2.cell? ⟨gO, 2, none⟩ = some (.int .i64 LS) := (ae BO2.out 2).trans rfl; have p3 : R2.cell? ⟨gO, 3, none⟩ = some (.int .i64 Lt) := (ae BO2.out 3).trans rfl; have p4 : R2.cell? ⟨gO, 4, none⟩ = some (.slice Bo lq.length do_) := (ae BO2.out 4).trans rfl; (go_wp2_with (fail)); refine (bz.calls k Ao co lh LW LS Lt Bo do_ lq _ _ _ OA2.out OC.out OB2.out OD.out OK3.out).mono ?_; rintro e r3 ⟨rfl, hb⟩; have HB3 := aa.mk (aC HB2.out hb); have BO3 := aa.mk (au BO2.out hb); have OA3 := aa.mk (Kd.aV OA2.out hb); have OB3 := aa.mk (Kd.aV OB2.out hb); clear hb HB2 BO2 OA2 OB2 p0 p1 p2 p3 p4; have f0 : r3.cell? ⟨gA, j * 5, none⟩ = some (.slice A lh.length c) := (HB3.out.cell (World.block_lt_of_cell? _ _ E0.out)).trans E0.out; have f1 : r3.cell? ⟨gA, j * 5 + 1, none⟩ = some (.int .i64 LW) := (HB3.out.cell (World.block_lt_of_cell? _ _ E1.out)).trans E1.out; have f2 : r3.cell? ⟨gA, j * 5 + 2, none⟩ = some (.int .i64 LS) := (HB3.out.cell (World.block_lt_of_cell? _ _ E2.out)).trans E2.out; have f3 : r3.cell? ⟨gA, j * 5 + 3, none⟩ = some (.int .i64 Lt) := (HB3.out.cell (World.block_lt_of_cell? _ _ E3.out)).trans E3.out; have f4 : r3.cell? ⟨gA, j * 5 + 4, none⟩ = some (.slice B lq.length d) := (HB3.out.cell (World.block_lt_of_cell? _ _ E4.out)).trans E4.out; (go_wp2_with (fail)); refine (Ld A c lh LW LS Lt B d lq _ (Kd.aV KA.out HB3.out) (Kd.aV KB.out HB3.out)).mono ?_; rintro e r4 ⟨rfl, hb⟩; have HB4 := aa.mk (aC HB3.out hb); have BO4 := aa.mk (au BO3.out hb); have OA4 := aa.mk (Kd.aV OA3.out hb); have OB4 := aa.mk (Kd.aV OB3.out hb); clear hb HB3 BO3 OA3 OB3 f0 f1 f2 f3 f4; have p0 : r4.cell? ⟨gO, 0, none⟩ = some (.slice Ao lh.length co) := (ae BO4.out 0).trans rfl; have p1 : r4.cell? ⟨gO, 1, none⟩ = some (.int .i64 LW) := (ae BO4.out 1).trans rfl; have p2 : r4.cell? ⟨gO, 2, none⟩ = some (.int .i64 LS) := (ae BO4.out 2).trans rfl; have p3 : r4.cell? ⟨gO, 3, none⟩ = some (.int .i64 Lt) := (ae BO4.out 3).trans rfl; have p4 : r4.cell? ⟨gO, 4, none⟩ = some (.slice Bo lq.length do_) := (ae BO4.out 4).trans rfl; obtain ⟨ps, hps⟩ : ∃ ps, ps = (ol lh LW LS Lt lq).1 := ⟨_, rfl⟩; obtain ⟨pe, hpe⟩ : ∃ pe, pe = (ol lh LW LS Lt lq).2 := ⟨_, rfl⟩; rw [← hps, ← hpe]; clear hps hpe; (go_wp2_with (fail)); refine (lw.calls Ao co lh LW LS Lt Bo do_ lq (qf lh LW LS Lt lq).1 (qf lh LW LS Lt lq).2 _ OA4.out OC.out OB4.out OD.out (by rw [lw.f, OK4.out])).mono ?_; rintro e r5 ⟨rfl, hb⟩; have HB5 := aa.mk (aC HB4.out hb); have BO5 := aa.mk (au BO4.out hb); have OA5 := aa.mk (Kd.aV OA4.out hb); have OB5 := aa.mk (Kd.aV OB4.out hb); clear hb HB4 BO4 OA4 OB4 p0 p1 p2 p3 p4; have f0 : r5.cell? ⟨gA, j * 5, none⟩ = some (.slice A lh.length c) := (HB5.out.cell (World.block_lt_of_cell? _ _ E0.out)).trans E0.out; have f1 : r5.cell? ⟨gA, j * 5 + 1, none⟩ = some (.int .i64 LW) := (HB5.out.cell (World.block_lt_of_cell? _ _ E1.out)).trans E1.out; have f2 : r5.cell? ⟨gA, j * 5 + 2, none⟩ = some (.int .i64 LS) := (HB5.out.cell (World.block_lt_of_cell? _ _ E2.out)).trans E2.out; have f3 : r5.cell? ⟨gA, j * 5 + 3, none⟩ = some (.int .i64 Lt) := (HB5.out.cell (World.block_lt_of_cell? _ _ E3.out)).trans E3.out; have f4 : r5.cell? ⟨gA, j * 5 + 4, none⟩ = some (.slice B lq.length d) := (HB5.out.cell (World.block_lt_of_cell? _ _ E4.out)).trans E4.out; (go_wp2_with (fail)); refine (Mj A c lh LW LS Lt B d lq _ (Kd.aV KA.out HB5.out) (Kd.aV KB.out HB5.out)).mono ?_; rintro e r6 ⟨rfl, hb⟩; have HB6 := aa.mk (aC HB5.out hb); have BO6 := aa.mk (au BO5.out hb); have OA6 := aa.mk (Kd.aV OA5.out hb); have OB6 := aa.mk (Kd.aV OB5.out hb); clear hb HB5 BO5 OA5 OB5 f0 f1 f2 f3 f4; have p0 : r6.cell? ⟨gO, 0, none⟩ = some (.slice Ao lh.length co) := (ae BO6.out 0).trans rfl; have p1 : r6.cell? ⟨gO, 1, none⟩ = some (.int .i64 LW) := (ae BO6.out 1).trans rfl; have p2 : r6.cell? ⟨gO, 2, none⟩ = some (.int .i64 LS) := (ae BO6.out 2).trans rfl; have p3 : r6.cell? ⟨gO, 3, none⟩ = some (.int .i64 Lt) := (ae BO6.out 3).trans rfl; have p4 : r6.cell? ⟨gO, 4, none⟩ = some (.slice Bo lq.length do_) := (ae BO6.out 4).trans rfl; have f0 : r6.cell? ⟨gA, j * 5, none⟩ = some (.slice A lh.length c) := (HB6.out.cell (World.block_lt_of_cell? _ _ E0.out)).trans E0.out; have f1 : r6.cell? ⟨gA, j * 5 + 1, none⟩ = some (.int .i64 LW) := (HB6.out.cell (World.block_lt_of_cell? _ _ E1.out)).trans E1.out; have f2 : r6.cell? ⟨gA, j * 5 + 2, none⟩ = some (.int .i64 LS) := (HB6.out.cell (World.block_lt_of_cell? _ _ E2.out)).trans E2.out; have f3 : r6.cell? ⟨gA, j * 5 + 3, none⟩ = some (.int .i64 Lt) := (HB6.out.cell (World.block_lt_of_cell? _ _ E3.out)).trans E3.out; have f4 : r6.cell? ⟨gA, j * 5 + 4, none⟩ = some (.slice B lq.length d) := (HB6.out.cell (World.block_lt_of_cell? _ _ E4.out)).trans E4.out; obtain ⟨pm, hpm⟩ : ∃ pm, pm = (qf lh LW LS Lt lq).1 := ⟨_, rfl⟩; obtain ⟨px, hpx⟩ : ∃ px, px = (qf lh LW LS Lt lq).2 := ⟨_, rfl⟩; rw [← hpm, ← hpx]; clear hpm hpx; go_wp2_with (fail)
    go_region_held3 (fun w' => w'.cell? ⟨gO, 0, none⟩ = some (.slice Ao lh.length co) ∧ w'.cell? ⟨gO, 1, none⟩ = some (.int .i64 LW) ∧ w'.cell? ⟨gO, 2, none⟩ = some (.int .i64 LS) ∧ w'.cell? ⟨gO, 3, none⟩ = some (.int .i64 Lt) ∧ w'.cell? ⟨gO, 4, none⟩ = some (.slice Bo lq.length do_) ∧ w'.cell? ⟨gA, j * 5, none⟩ = some (.slice A lh.length c) ∧ w'.cell? ⟨gA, j * 5 + 1, none⟩ = some (.int .i64 LW) ∧ w'.cell? ⟨gA, j * 5 + 2, none⟩ = some (.int .i64 LS) ∧ w'.cell? ⟨gA, j * 5 + 3, none⟩ = some (.int .i64 Lt) ∧ w'.cell? ⟨gA, j * 5 + 4, none⟩ = some (.slice B lq.length d))
     (go_keep)
     (((with_reducible refine (I6 Ao A Bo B co c do_ d lh LW LS Lt lq _ (Kd.aV OA6.out (dF (Below.refl _ _))) (Kd.aV OB6.out (dF (Below.refl _ _))) (Kd.aV KA.out (dF HB6.out)) (Kd.aV KB.out (dF HB6.out)) OK1.out).mono ?_)
       rintro e r7 ⟨rfl, hb⟩; have HB7 := aa.mk (aC (dF HB6.out) hb); have BO7 := aa.mk (au (dK BO6.out) hb); have q0 : r7.cell? ⟨gO, 0, none⟩ = some (.slice Ao lh.length co) := (ae BO7.out 0).trans rfl; have q1 : r7.cell? ⟨gO, 1, none⟩ = some (.int .i64 LW) := (ae BO7.out 1).trans rfl; have q2 : r7.cell? ⟨gO, 2, none⟩ = some (.int .i64 LS) := (ae BO7.out 2).trans rfl; have q3 : r7.cell? ⟨gO, 3, none⟩ = some (.int .i64 Lt) := (ae BO7.out 3).trans rfl; have q4 : r7.cell? ⟨gO, 4, none⟩ = some (.slice Bo lq.length do_) := (ae BO7.out 4).trans rfl; have g0 : r7.cell? ⟨gA, j * 5, none⟩ = some (.slice A lh.length c) := (HB7.out.cell (World.block_lt_of_cell? _ _ E0.out)).trans E0.out; have g1 : r7.cell? ⟨gA, j * 5 + 1, none⟩ = some (.int .i64 LW) := (HB7.out.cell (World.block_lt_of_cell? _ _ E1.out)).trans E1.out; have g2 : r7.cell? ⟨gA, j * 5 + 2, none⟩ = some (.int .i64 LS) := (HB7.out.cell (World.block_lt_of_cell? _ _ E2.out)).trans E2.out; have g3 : r7.cell? ⟨gA, j * 5 + 3, none⟩ = some (.int .i64 Lt) := (HB7.out.cell (World.block_lt_of_cell? _ _ E3.out)).trans E3.out; have g4 : r7.cell? ⟨gA, j * 5 + 4, none⟩ = some (.slice B lq.length d) := (HB7.out.cell (World.block_lt_of_cell? _ _ E4.out)).trans E4.out
       clear hb))
    clear p0 p1 p2 p3 p4 f0 f1 f2 f3 f4 q0 q1 q2 q3 q4 g0 g1 g2 g3 g4; go_wp2
    go_roundw
    (case rel => exact ⟨j + 1, by omega, by go_num, HB7⟩); case measure => simp [intOf]; omega
   ·(obtain rfl : j = 3 := by omega); (have hj1 : decide (((3 : Nat) : Int) < 3) = false := by decide); (go_wp2_with (fail)); refine (dB.calls k true _ F1.out).mono ?_; rintro e r3 ⟨rfl, hb⟩; go_wp2
    go_ret
    exact ⟨rfl, aC (aC HBA.out HB.out) hb⟩
theorem Eo (W S : Int) {sh : List S86} (hsh : sS sh) {q : List S27} (hq : xu q) {k : Nat} (hk : k < sh.length) : 0 ≤ cellP W S (fP q) (ai sh (k : Int)) ∧ (cellP W S (fP q) (ai sh (k : Int)) ≤ 20 ∨ cellP W S (fP q) (ai sh (k : Int)) = 1048576) := by
 have hs := hsh.at hk; exact Jp W S hq (ai sh (k : Int)) hs.1 hs.2
def mr (W S : Int) (sq : List (List S27)) (sh : List S86) (i : Nat) : Int := xG W S sh (cZ sq (i : Int))
theorem Pb (W S : Int) {sq : List (List S27)} (hq : sH sq) {sh : List S86} (hsh : sS sh) :
 (fF (-1) 0 (eu W S sq sh sq.length) sh sq.length).2 = iP (mr W S sq sh) sq.length ∧ ∀ i (h : i < sq.length), (fF (-1) 0 (eu W S sq sh sq.length) sh sq.length).1.getD i 0 = mr W S sq sh i := by
 have hnn : ∀ i k, i < sq.length → k < sh.length → 0 ≤ (eu W S sq sh sq.length).getD (i * 8 + k) 0 := fun i k hi hk => by
  rw [oF W S sq sh hsh.1 sq.length hq.1 i k hi hk]; exact (Eo W S hsh (hq.at hi).2 hk).1
 obtain ⟨e1, e2⟩ := KS (eu W S sq sh sq.length) sh sq.length hq.1 hnn
 have hE : ∀ i (h : i < sq.length), ig (-1) 0 (eu W S sq sh sq.length) i sh sh.length = mr W S sq sh i := fun i h => by
  rw [zz W S sq hq.1 sh hsh.1 i h _ (Nat.le_refl _)]; rfl
 refine ⟨?_, fun i h => by rw [e2 i h, hE i h]⟩; rw [e1]; exact tH _ (fun i hi => hE i hi)
theorem sK (W S : Int) {sq : List (List S27)} (hq : sH sq) {sh : List S86} (hsh : sS sh) {i : Nat} (hi : i < sq.length) : 0 ≤ mr W S sq sh i ∧ (mr W S sq sh i ≤ 20 ∨ mr W S sq sh i = 1048576) := (tN W S (hq.at hi).2 hsh _ (Nat.le_refl _)).2
theorem DT (f : Nat → Int) : ∀ n, (∀ i, i < n → 0 ≤ f i ∧ (f i ≤ 20 ∨ f i = 1048576)) → (iP f n = iP (fun i => qb (f i)) n ∧ 0 ≤ iP f n ∧ iP f n ≤ 20 * n) ∨ (1048576 ≤ iP f n ∧ 1000 ≤ iP (fun i => qb (f i)) n)
 | 0, _ => .inl ⟨rfl, Int.le_refl _, Int.le_refl _⟩
 | n + 1, h => by
  have h1 := DT f n (fun i hi => h i (by omega)); have h2 := h n (by omega)
  have hc : 0 ≤ qb (f n) ∧ ((qb (f n) = f n ∧ f n ≤ 20) ∨ (qb (f n) = 1000 ∧ f n = 1048576)) := by
   unfold qb; split <;> omega
  simp only [iP]
  have hp : 0 ≤ iP f n ∧ 0 ≤ iP (fun i => qb (f i)) n := by
   rcases h1 with h1 | h1 <;> omega
  rcases h1 with h1 | h1 <;> omega
theorem yx (W S : Int) {sq : List (List S27)} (hq : sH sq) {sh : List S86} (hsh : sS sh) : ∀ n, n ≤ sq.length → lG W S sq sh [] n = some (iP (fun i => qb (mr W S sq sh i)) n)
 | 0, _ => rfl
 | n + 1, hn => by
  have e := (tN W S (hq.at (i := n) (by omega)).2 hsh _ (Nat.le_refl _)).1; rw [lG, yx W S hq hsh n (by omega)]; simp only [Option.bind_some, rP, List.foldl_nil]; rw [e]; rfl
theorem Kb (hs : List S66) (W S : Int) {sq : List (List S27)} (hq : sH sq) (x : Nat) (hsh : sS (ah hs (x : Int)).f1) : kg hs W S sq x = iP (mr W S sq (ah hs (x : Int)).f1) sq.length := (Pb W S hq hsh).1
theorem zq (hs : List S66) (W S : Int) {sq : List (List S27)} (hq : sH sq) (x : Nat) (hsh : sS (ah hs (x : Int)).f1) :
 (kg hs W S sq x = jh W S sq (ah hs (x : Int)).f1 [] ∧ 0 ≤ kg hs W S sq x ∧ kg hs W S sq x ≤ 160) ∨ (1048576 ≤ kg hs W S sq x ∧ 1000 ≤ jh W S sq (ah hs (x : Int)).f1 []) := by
 have h1 := DT (mr W S sq (ah hs (x : Int)).f1) sq.length (fun i hi => sK W S hq hsh hi); have h2 := hq.1; rw [Kb hs W S hq x hsh, jh, yx W S hq hsh _ (Nat.le_refl _), Option.getD_some]; rcases h1 with ⟨a, b, c⟩ | h1
 ·exact .inl ⟨a, b, by omega⟩
 ·exact .inr h1
theorem Gg (hs : List S66) (W S : Int) {t : Int} (ht : t ≤ 40) {sq : List (List S27)} (hq : sH sq) (x : Nat) (hsh : sS (ah hs (x : Int)).f1) : kg hs W S sq x ≤ t ↔ jh W S sq (ah hs (x : Int)).f1 [] ≤ t := by
 rcases zq hs W S hq x hsh with ⟨a, _⟩ | ⟨a, b⟩
 ·rw [a]
 ·omega
def GU (b b' : Int) : Prop := (b = b' ∧ 0 ≤ b ∧ b ≤ 160) ∨ (1048576 ≤ b ∧ 1000 ≤ b')
theorem XL {a a' b b' : Int} (h : GU a a') (h' : GU b b') : GU (mn a b) (min a' b') := by
 unfold GU mn at *; rw [Int.min_def]
 (repeat' split) <;> omega
theorem GJ {α : Type} (T R : α → Int) : ∀ (l : List α) (b b' : Int), GU b b' → (∀ x ∈ l, GU (T x) (R x)) → GU (l.foldl (fun b x => mn b (T x)) b) (l.foldl (fun b x => min b (R x)) b')
 | [], _, _, h, _ => h
 | x :: r, b, b', h, hl => by
  rw [List.foldl_cons, List.foldl_cons]; exact GJ T R r _ _ (XL h (hl x List.mem_cons_self)) (fun y hy => hl y (List.mem_cons_of_mem _ hy))
theorem DC (W S : Int) (sq : List (List S27)) : ∀ (hs : List S66) (b : Int), rq W S sq b hs = hs.foldl (fun b h => min b (jh W S sq h.f1 [])) b
 | [], _ => rfl
 | h :: r, b => by rw [rq, List.foldl_cons, DC W S sq r]
theorem qM (hs : List S66) (x : Fin hs.length) : ah hs ((x.1 : Nat) : Int) = hs.get x := by rw [kV hs x.1 x.2]; rfl
theorem Oc {β : Type} (hs : List S66) (g : β → S66 → β) (b : β) : hs.foldl g b = (List.finRange hs.length).foldl (fun b x => g b (hs.get x)) b := by
 have e : hs = (List.finRange hs.length).map hs.get := by
  apply List.ext_getElem
  ·simp
  ·intro i h1 h2; simp
 conv => lhs; rw [e]
 rw [List.foldl_map]
theorem NB {hs : List S66} {W S t : Int} {sq : List (List S27)} (hc : dY hs W S t sq = 0) : GU (oH hs W S sq (List.finRange hs.length)) (rq W S sq 1000 hs) := by
 obtain ⟨hq, hh⟩ := lc hc; rw [DC, Oc]
 exact GJ (fun x : Fin hs.length => kg hs W S sq x.1) (fun x => jh W S sq (hs.get x).f1 []) _ _ _ (.inr ⟨Int.le_refl _, Int.le_refl _⟩) (fun x _ => by
  have h := zq hs W S hq x.1 (hh.at x.2); rw [qM hs x] at h; rcases h with ⟨h1, h2, h3⟩ | h
  ·exact .inl ⟨h1, h2, h3⟩
  ·exact .inr h)
theorem Jl (hs : List S66) (W S t : Int) (sq : List (List S27)) : yX hs W S t sq = qf hs W S t sq := by
 by_cases hc : dY hs W S t sq = 0
 ·rw [yX, qf, if_pos hc, if_pos hc]; have h := NB hc; generalize oH hs W S sq (List.finRange hs.length) = b at h; generalize rq W S sq 1000 hs = b' at h; rcases h with ⟨h1, h2, h3⟩ | ⟨h1, h2⟩
  ·subst h1; rw [if_neg (by omega), if_neg (by omega)]
  ·rw [if_pos h1, if_pos h2]
 ·rw [yX, qf, if_neg hc, if_neg hc]
theorem GD {hs : List S66} {W S t : Int} (ht : t ≤ 40) {sq : List (List S27)} (hq : sH sq) (hh : DL hs) : ∀ (d j : Nat), j + d = hs.length → gp W S t sq j (hs.drop j) = lS hs W S t sq ((List.finRange hs.length).drop j)
 | 0, j, h => by
  rw [List.drop_eq_nil_of_le (by omega), List.drop_eq_nil_of_le (by simp; omega)]; rfl
 | d + 1, j, h => by
  (have hj : j < hs.length := by omega); (have hj2 : j < (List.finRange hs.length).length := by simpa using hj); have ih := GD (W := W) (S := S) ht hq hh d (j + 1) (by omega); (have e : (List.finRange hs.length)[j] = ⟨j, hj⟩ := by simp); have hle := Gg hs W S ht hq j (hh.at hj); rw [Aq W S t sq hs j hj, ih, List.drop_eq_getElem_cons hj2, e]; generalize (List.finRange hs.length).drop (j + 1) = L; by_cases hc : jh W S sq (ah hs (j : Int)).f1 [] ≤ t
  ·rw [if_pos hc]; (show _ = ((⟨j, hj⟩ :: L).filter fun x => decide (kg hs W S sq x.1 ≤ t)).map fun x => (x.1 : Int)); rw [List.filter_cons_of_pos (by simpa using hle.2 hc), List.map_cons]; rfl
  ·rw [if_neg hc]; (show _ = ((⟨j, hj⟩ :: L).filter fun x => decide (kg hs W S sq x.1 ≤ t)).map fun x => (x.1 : Int)); rw [List.filter_cons_of_neg (by simpa using fun h => hc (hle.1 h))]; rfl
theorem Bf {hs : List S66} {W S t : Int} {sq : List (List S27)} (hc : dY hs W S t sq = 0) : gp W S t sq 0 hs = lS hs W S t sq (List.finRange hs.length) := by
 obtain ⟨hq, hh⟩ := lc hc; obtain ⟨_, _, _, _, _, _, _, _, h9⟩ := lH hc; have := ng.1 h9; exact GD this.2 hq hh hs.length 0 (by omega)
theorem tY (hs : List S66) (W S t : Int) (sq : List (List S27)) : kP hs W S t sq = mP hs W S t sq := by
 by_cases hc : dY hs W S t sq = 0
 ·rw [kP, mP, if_pos hc, if_pos hc, Bf hc]
 ·rw [kP, mP, if_neg hc, if_neg hc]
theorem Fa (f : Nat → Int) (i : Nat) (v : Int) : ∀ n, iP (fun j => if j = i then v else f j) n = if i < n then iP f n - f i + v else iP f n
 | 0 => by simp [iP]
 | n + 1 => by
  simp only [iP]; rw [Fa f i v n]; by_cases h1 : n = i
  ·subst h1; rw [if_neg (by omega), if_pos rfl, if_pos (by omega)]; omega
  ·rw [if_neg h1]; by_cases h2 : i < n
   ·rw [if_pos h2, if_pos (by omega)]; omega
   ·rw [if_neg h2, if_neg (by omega)]
theorem uX {f : Nat → Int} : ∀ n, (∀ i, i < n → 0 ≤ f i) → ∀ i, i < n → f i ≤ iP f n ∧ 0 ≤ iP f n
 | 0, _, i, hi => by omega
 | n + 1, h, i, hi => by
  simp only [iP]; have h0 := h n (by omega)
  have hp : 0 ≤ iP f n := by
   rcases Nat.eq_zero_or_pos n with rfl | hn
   ·exact Int.le_refl _
   ·exact (uX n (fun j hj => h j (by omega)) 0 hn).2
  by_cases e : i = n
  ·subst e; omega
  ·have := (uX n (fun j hj => h j (by omega)) i (by omega)).1; omega
def Ris (sh : List S86) : Prop := sh.Pairwise (fun a b => a.f0 < b.f0) ∧ ∀ s ∈ sh, 65 ≤ s.f0 ∧ s.f0 ≤ 90
theorem Nl : ∀ (sh : List S86) (p : Option Int), iM p sh = 0 → Ris sh ∧ ∀ q, p = some q → ∀ s ∈ sh, q < s.f0
 | [], _, _ => ⟨⟨List.Pairwise.nil, fun s hs => by cases hs⟩, fun q _ s hs => by cases hs⟩
 | x :: r, p, h => by
  rw [iM] at h; by_cases h1 : x.f0 < 65 ∨ x.f0 > 90
  ·rw [if_pos h1] at h; exact absurd h (by decide)
  ·rw [if_neg h1] at h; by_cases h2 : inP x.f1 1 1023 = true
   ·rw [if_pos h2] at h; by_cases h3 : ∃ q, p = some q ∧ x.f0 ≤ q
    ·rw [if_pos h3] at h; exact absurd h (by decide)
    ·rw [if_neg h3] at h; obtain ⟨⟨hr1, hr2⟩, hr3⟩ := Nl r _ h; have hx := hr3 x.f0 rfl; refine ⟨⟨List.Pairwise.cons hx hr1, fun s hs => ?_⟩, fun q hq s hs => ?_⟩
     ·rcases List.mem_cons.1 hs with rfl | hs
      ·omega
      ·exact hr2 s hs
     ·(have hqx : q < x.f0 := Int.not_le.1 fun hle => h3 ⟨q, hq, hle⟩); rcases List.mem_cons.1 hs with rfl | hs
      ·exact hqx
      ·have := hx s hs; omega
   ·rw [if_neg h2] at h; exact absurd h (by decide)
theorem vv : ∀ (sh : List S86), sh.Pairwise (fun a b => a.f0 < b.f0) → ∀ (k : Nat) (hk : k < sh.length) (c : Int), (sh[k]).f0 = c → jT sh c = ((sh[k]).f1, true)
 | s :: r, h, 0, _, c, e => by
  simp only [List.getElem_cons_zero] at e ⊢; rw [jT, if_pos e]
 | s :: r, h, k + 1, hk, c, e => by
  simp only [List.getElem_cons_succ] at e ⊢; rw [List.pairwise_cons] at h; (have hk' : k < r.length := by simpa using hk); have := h.1 _ (List.getElem_mem hk'); rw [jT, if_neg (by omega)]; exact vv r h.2 k hk' c e
theorem BJ : ∀ (sh : List S86) (c : Int), (∀ s ∈ sh, s.f0 ≠ c) → jT sh c = (0, false)
 | [], _, _ => rfl
 | s :: r, c, h => by
  rw [jT, if_neg (h s List.mem_cons_self)]; exact BJ r c (fun y hy => h y (List.mem_cons_of_mem _ hy))
theorem Dp (f : Nat → Int) : ∀ n, (∀ i, i < n → 0 ≤ f i ∧ (f i ≤ 20 ∨ f i = 1048576)) → iP f n ≤ 1048576 * n
 | 0, _ => by simp [iP]
 | n + 1, h => by
  have h1 := Dp f n (fun i hi => h i (by omega)); have h2 := h n (by omega); simp only [iP]; push_cast; omega
def ql (W S : Int) (sq : List (List S27)) (sh : List S86) (i : Nat) (v : Int) (j : Nat) : Int := if j = i then v else mr W S sq sh j
theorem Ls {a b : Int} (ha : 0 ≤ a ∧ (a ≤ 20 ∨ a = 1048576)) (hb : 0 ≤ b ∧ (b ≤ 20 ∨ b = 1048576)) (h : a ≤ b) : mx (qb a) (qb b) = qb b := by
 unfold mx qb
 (repeat' split) <;> omega
theorem zi (W S : Int) {sq : List (List S27)} (hq : sH sq) {sh : List S86} (hsh : sS sh) {i : Nat} {c : Int} {k : Nat} (hk : k < sh.length) (hs : jT sh c = ((ai sh (k : Int)).f1, true)) : ∀ n, n ≤ sq.length →
 lG W S sq sh [⟨(i : Int), c⟩] n = some (iP (fun j => qb (ql W S sq sh i (cellP W S (fP (cZ sq (i : Int))) (ai sh (k : Int))) j)) n)
 | 0, _ => rfl
 | n + 1, hn => by
  have hl := tN W S (hq.at (i := n) (by omega)).2 hsh _ (Nat.le_refl _); rw [lG, zi W S hq hsh hk hs n (by omega)]; simp only [Option.bind_some, rP, List.foldl_cons, List.foldl_nil, jP, hs, if_true]; by_cases e : i = n
  ·subst e; rw [if_pos rfl]; have hle : mW W S (fP (cZ sq (i : Int))) sh sh.length ≤ cellP W S (fP (cZ sq (i : Int))) (ai sh (k : Int)) := KR W S _ sh sh.length k hk; have hm := Ls hl.2 (Eo W S hsh (hq.at (i := i) (by omega)).2 hk) hle; rw [hl.1, Dv, hm]; simp only [Option.bind_some, iP, ql, if_true]
  ·rw [if_neg (by omega), hl.1]; simp only [Option.bind_some, iP, ql]; rw [if_neg (Ne.symm e)]; rfl
theorem AY (W S : Int) (sq : List (List S27)) (sh : List S86) {i : Nat} {c : Int} (hs : jT sh c = (0, false)) : ∀ n, i < n → lG W S sq sh [⟨(i : Int), c⟩] n = none
 | 0, h => by omega
 | n + 1, h => by
  rw [lG]; by_cases e : i = n
  ·subst e
   have : rP W S (cZ sq (i : Int)) sh i [⟨(i : Int), c⟩] = none := by
    simp [rP, jP, hs]
   rw [this]; cases lG W S sq sh [⟨(i : Int), c⟩] i <;> rfl
  ·rw [AY W S sq sh hs n (by omega)]; rfl
theorem JB (hs : List S66) (W S : Int) {t : Int} (ht : t ≤ 40) {sq : List (List S27)} (hq : sH sq) (x : Nat) (hsh : sS (ah hs (x : Int)).f1) {i : Nat} (hi : i < sq.length) {k : Nat} (hk : k < (ah hs (x : Int)).f1.length) :
 wT (-1) 0 W S t hs sq i x k = true ↔ iP (fun j => qb (ql W S sq (ah hs (x : Int)).f1 i (cellP W S (fP (cZ sq (i : Int))) (ai (ah hs (x : Int)).f1 (k : Int))) j)) sq.length ≤ t := by
 obtain ⟨e1, e2⟩ := Pb W S hq hsh; have hm := oF W S sq (ah hs (x : Int)).f1 hsh.1 sq.length hq.1 i k hi hk; have hv := Eo W S hsh (hq.at hi).2 hk
 have h3 : wT (-1) 0 W S t hs sq i x k = (decide (cellP W S (fP (cZ sq (i : Int))) (ai (ah hs (x : Int)).f1 (k : Int)) < 1048576) && decide (wrap64 (wrap64 (iP (mr W S sq (ah hs (x : Int)).f1) sq.length - mr W S sq (ah hs (x : Int)).f1 i) + cellP W S (fP (cZ sq (i : Int))) (ai (ah hs (x : Int)).f1 (k : Int))) ≤ t)) := by
  show (wN (-1) 0 (i : Int) _ && decide ((eu W S sq (ah hs (x : Int)).f1 sq.length).getD (i * 8 + k) 0 < 1048576) && decide (wrap64 (wrap64 ((fF (-1) 0 (eu W S sq (ah hs (x : Int)).f1 sq.length) (ah hs (x : Int)).f1 sq.length).2 - (fF (-1) 0 (eu W S sq (ah hs (x : Int)).f1 sq.length) (ah hs (x : Int)).f1 sq.length).1.getD i 0) + (eu W S sq (ah hs (x : Int)).f1 sq.length).getD (i * 8 + k) 0) ≤ t)) = _; rw [EA, Bool.true_and, hm, e1, e2 i hi]
 rw [h3]; generalize hV : cellP W S (fP (cZ sq (i : Int))) (ai (ah hs (x : Int)).f1 (k : Int)) = v at hv; have hu := Fa (mr W S sq (ah hs (x : Int)).f1) i v sq.length; rw [if_pos hi] at hu
 have hf : ∀ j, j < sq.length → 0 ≤ ql W S sq (ah hs (x : Int)).f1 i v j ∧ (ql W S sq (ah hs (x : Int)).f1 i v j ≤ 20 ∨ ql W S sq (ah hs (x : Int)).f1 i v j = 1048576) := fun j hj => by
  unfold ql; split
  ·exact hv
  ·exact sK W S hq hsh hj
 have h2 := DT _ sq.length hf; have hmem := (uX (f := ql W S sq (ah hs (x : Int)).f1 i v) sq.length (fun j hj => (hf j hj).1) i hi).1; (have hvi : ql W S sq (ah hs (x : Int)).f1 i v i = v := by rw [ql, if_pos rfl]); rw [hvi] at hmem; have hn := uX (f := mr W S sq (ah hs (x : Int)).f1) sq.length (fun j hj => (sK W S hq hsh hj).1) i hi; have hn0 := (sK W S hq hsh hi).1; have hub := Dp (mr W S sq (ah hs (x : Int)).f1) sq.length (fun j hj => sK W S hq hsh hj); have h8 := hq.1; have hw : iP (ql W S sq (ah hs (x : Int)).f1 i v) sq.length = iP (mr W S sq (ah hs (x : Int)).f1) sq.length - mr W S sq (ah hs (x : Int)).f1 i + v := hu; generalize iP (ql W S sq (ah hs (x : Int)).f1 i v) sq.length = A at *; generalize iP (fun j => qb (ql W S sq (ah hs (x : Int)).f1 i v j)) sq.length = B at *; generalize iP (mr W S sq (ah hs (x : Int)).f1) sq.length = C at *; generalize mr W S sq (ah hs (x : Int)).f1 i = D at *; (have w1 : wrap64 (C - D) = C - D := by unfold wrap64; omega); (have w2 : wrap64 (C - D + v) = C - D + v := by unfold wrap64; omega); rw [w1, w2, Bool.and_eq_true, decide_eq_true_eq, decide_eq_true_eq]; rcases h2 with h2 | h2 <;> omega
theorem SL (hs : List S66) (W S : Int) {t : Int} (ht : t ≤ 40) {sq : List (List S27)} (hq : sH sq) (x : Nat) (hsh : sS (ah hs (x : Int)).f1) (hr : Ris (ah hs (x : Int)).f1) {i : Nat} (hi : i < sq.length) (c : Int) :
 jh W S sq (ah hs (x : Int)).f1 [⟨(i : Int), c⟩] ≤ t ↔ ∃ k, k < (ah hs (x : Int)).f1.length ∧ wT (-1) 0 W S t hs sq i x k = true ∧ c = (ai (ah hs (x : Int)).f1 (k : Int)).f0 := by
 by_cases hex : ∃ k, ∃ hk : k < (ah hs (x : Int)).f1.length, ((ah hs (x : Int)).f1[k]).f0 = c
 ·obtain ⟨k, hk, e⟩ := hex; have hf := vv _ hr.1 k hk c e; rw [← kS _ k hk] at hf e; have hm := zi (i := i) W S hq hsh hk hf sq.length (Nat.le_refl _); rw [jh, hm, Option.getD_some, ← JB hs W S ht hq x hsh hi hk]; constructor
  ·intro h; exact ⟨k, hk, h, e.symm⟩
  ·rintro ⟨k', hk', h, e'⟩
   have : k' = k := by
    have h1 := vv _ hr.1 k' hk' c (by rw [← kS _ k' hk']; exact e'.symm); rcases Nat.lt_trichotomy k' k with hlt | he | hlt
    ·have := List.pairwise_iff_getElem.1 hr.1 k' k hk' hk hlt; rw [← kS _ k' hk', ← kS _ k hk, e, ← e'] at this; omega
    ·exact he
    ·have := List.pairwise_iff_getElem.1 hr.1 k k' hk hk' hlt; rw [← kS _ k' hk', ← kS _ k hk, e, ← e'] at this; omega
   rw [← this]; exact h
 ·have hn := BJ (ah hs (x : Int)).f1 c (fun s hs' e => by
   obtain ⟨k, hk, rfl⟩ := List.getElem_of_mem hs'
   exact hex ⟨k, hk, e⟩)
  rw [jh, AY W S sq _ hn sq.length hi]; constructor
  ·intro h; simp only [Option.getD_none] at h; omega
  ·rintro ⟨k, hk, _, e⟩; exact absurd ⟨k, hk, by rw [← kS _ k hk]; exact e.symm⟩ hex
theorem Kq (W S t : Int) (sq : List (List S27)) (nd : List lX) : ∀ hs : List S66, jU W S t sq nd hs = true ↔ ∃ h ∈ hs, jh W S sq h.f1 nd ≤ t
 | [] => by simp [jU]
 | h :: r => by
  rw [jU]; by_cases hc : jh W S sq h.f1 nd ≤ t
  ·rw [if_pos hc]; exact ⟨fun _ => ⟨h, List.mem_cons_self, hc⟩, fun _ => rfl⟩
  ·rw [if_neg hc, Kq W S t sq nd r]; constructor
   ·rintro ⟨y, hy, e⟩; exact ⟨y, List.mem_cons_of_mem _ hy, e⟩
   ·rintro ⟨y, hy, e⟩; rcases List.mem_cons.1 hy with rfl | hy
    ·exact absurd e hc
    ·exact ⟨y, hy, e⟩
theorem row_iff (gs gl W S t : Int) (hs : List S66) (sq : List (List S27)) (i x : Nat) (c : Int) : ∀ K, mg gs gl W S t hs sq i x K c = true ↔ ∃ k, k < K ∧ wT gs gl W S t hs sq i x k = true ∧ c = (ai (ah hs (x : Int)).f1 (k : Int)).f0
 | 0 => by simp [mg]
 | K + 1 => by
  rw [mg, Bool.or_eq_true, row_iff gs gl W S t hs sq i x c K, Bool.and_eq_true, beq_iff_eq]; constructor
  ·rintro (⟨k, hk, h⟩ | h)
   ·exact ⟨k, by omega, h⟩
   ·exact ⟨K, by omega, h⟩
  ·rintro ⟨k, hk, h⟩; by_cases e : k = K
   ·subst e; exact .inr h
   ·exact .inl ⟨k, by omega, h⟩
def Ic (hs : List S66) : Prop := ∀ h ∈ hs, Ris h.f1
theorem yz : ∀ hs : List S66, iW hs = 0 → Ic hs
 | [], _ => fun h hh => by cases hh
 | p :: r, e => fun h hh => by
  rw [iW] at e; by_cases h1 : kL p.f0.f0 p.f0.f1 p.f1 = 0
  ·rw [if_pos h1] at e; rcases List.mem_cons.1 hh with rfl | hh
   ·rw [kL] at h1; by_cases c1 : inP h.f0.f0 (-3000) 3000 = true ∧ inP h.f0.f1 (-3000) 3000 = true
    ·rw [if_pos c1] at h1; by_cases c2 : h.f0.f0 > h.f0.f1
     ·rw [if_pos c2] at h1; exact absurd h1 (by decide)
     ·rw [if_neg c2] at h1; by_cases c3 : h.f1.length = 0
      ·rw [if_pos c3] at h1; exact absurd h1 (by decide)
      ·rw [if_neg c3] at h1; by_cases c4 : h.f1.length > 8
       ·rw [if_pos c4] at h1; exact absurd h1 (by decide)
       ·rw [if_neg c4] at h1; exact (Nl _ _ h1).1
    ·rw [if_neg c1] at h1; exact absurd h1 (by decide)
   ·exact yz r e h hh
  ·rw [if_neg h1] at e; exact absurd e h1
theorem LQ {hs : List S66} {W S t : Int} {sq : List (List S27)} (ht : t ≤ 40) (hq : sH sq) (hh : DL hs) (hr : Ic hs) {i : Nat} (hi : i < sq.length) (c : Int) :
 jU W S t sq [⟨(i : Int), c⟩] hs = jb (-1) 0 W S t hs sq i (List.finRange hs.length) c := by
 rw [Bool.eq_iff_iff, Kq, jb, List.any_eq_true]; (have hone := fun x : Fin hs.length => SL hs W S ht hq x.1 (hh.at x.2) (by rw [qM]; exact hr _ (List.get_mem _ _)) hi c); constructor
 ·rintro ⟨h, hm, e⟩; obtain ⟨n, hn, rfl⟩ := List.getElem_of_mem hm; refine ⟨⟨n, hn⟩, List.mem_finRange _, ?_⟩; rw [row_iff]; have := hone ⟨n, hn⟩; rw [qM] at this; have h2 := this.1 e; rw [qM]
  simpa only [qM] using h2
 ·rintro ⟨x, _, h⟩; rw [row_iff] at h; refine ⟨hs.get x, List.get_mem _ _, ?_⟩; have := (hone x).2 h
  rwa [qM] at this
theorem uO {hs : List S66} {W S t : Int} {sq : List (List S27)} (hr : Ic hs) (i : Nat) (c : Int) (h : jb (-1) 0 W S t hs sq i (List.finRange hs.length) c = true) : 65 ≤ c ∧ c ≤ 90 := by
 rw [jb, List.any_eq_true] at h; obtain ⟨x, _, h⟩ := h; rw [row_iff] at h; obtain ⟨k, hk, _, rfl⟩ := h; rw [qM] at hk ⊢; rw [kS _ k hk]; exact (hr _ (List.get_mem _ _)).2 _ (List.getElem_mem hk)
theorem zn (W S t : Int) (hs : List S66) (sq : List (List S27)) (i : Int) (nd : List lX) : ∀ (n a : Nat), gZ W S t hs sq i nd n (a : Int) = ((List.range' a n).map Int.ofNat).filter (fun c => jU W S t sq (nd ++ [⟨i, c⟩]) hs)
 | 0, a => rfl
 | n + 1, a => by
  rw [gZ, show ((a : Int) + 1) = ((a + 1 : Nat) : Int) by omega, zn W S t hs sq i nd n (a + 1), List.range'_succ, List.map_cons, List.filter_cons]; rfl
theorem xf {hs : List S66} {W S t : Int} {sq : List (List S27)} (hc : dY hs W S t sq = 0) {i : Nat} (hi : i < sq.length) : Ei W S t hs sq (i : Int) = gK (-1) 0 W S t hs sq i := by
 obtain ⟨hq, hh⟩ := lc hc; obtain ⟨_, _, _, _, h5, _, _, _, h9⟩ := lH hc; have ht := (ng.1 h9).2; have hr := yz hs h5; (have hf : ∀ c : Int, jU W S t sq ([] ++ [⟨(i : Int), c⟩]) hs = jb (-1) 0 W S t hs sq i (List.finRange hs.length) c := fun c => LQ ht hq hh hr hi c); rw [Ei, show (65 : Int) = ((65 : Nat) : Int) from rfl, zn, gK]; (have e : List.range 256 = List.range' 0 65 ++ (List.range' 65 26 ++ List.range' 91 165) := by decide +kernel); rw [e, List.map_append, List.map_append, List.filter_append, List.filter_append]
 have z1 : ((List.range' 0 65).map Int.ofNat).filter (jb (-1) 0 W S t hs sq i (List.finRange hs.length)) = [] := by
  rw [List.filter_eq_nil_iff]; intro c hm h; have := uO hr i c h; obtain ⟨n, hn, rfl⟩ := List.mem_map.1 hm; rw [List.mem_range'_1] at hn; have e3 : Int.ofNat n = (n : Int) := rfl; omega
 have z2 : ((List.range' 91 165).map Int.ofNat).filter (jb (-1) 0 W S t hs sq i (List.finRange hs.length)) = [] := by
  rw [List.filter_eq_nil_iff]; intro c hm h; have := uO hr i c h; obtain ⟨n, hn, rfl⟩ := List.mem_map.1 hm; rw [List.mem_range'_1] at hn; have e3 : Int.ofNat n = (n : Int) := rfl; omega
 rw [z1, z2, List.nil_append, List.append_nil]; exact List.filter_congr (fun c _ => hf c)
theorem Gd {hs : List S66} {W S t : Int} {sq : List (List S27)} (hc : dY hs W S t sq = 0) (hne : gp W S t sq 0 hs ≠ []) {i : Nat} (hi : i < sq.length) : gK (-1) 0 W S t hs sq i ≠ [] := by
 obtain ⟨hq, hh⟩ := lc hc; obtain ⟨_, _, _, _, h5, _, _, _, h9⟩ := lH hc; have ht := (ng.1 h9).2; have hr := yz hs h5; rw [Bf hc, lS] at hne; obtain ⟨y, hy⟩ := List.exists_mem_of_ne_nil _ hne; obtain ⟨x, hx, _⟩ := List.mem_map.1 hy; (have hle : kg hs W S sq x.1 ≤ t := by simpa using (List.mem_filter.1 hx).2); have hsh := hh.at x.2; have hle2 := (Gg hs W S ht hq x.1 hsh).1 hle; rw [jh, yx W S hq hsh _ (Nat.le_refl _), Option.getD_some] at hle2; have htt := Kb hs W S hq x.1 hsh; have hmem := (uX (f := mr W S sq (ah hs (x.1 : Int)).f1) sq.length (fun j hj => (sK W S hq hsh hj).1) i hi).1
 have hcell : ∃ k, k < (ah hs (x.1 : Int)).f1.length ∧ mr W S sq (ah hs (x.1 : Int)).f1 i = cellP W S (fP (cZ sq (i : Int))) (ai (ah hs (x.1 : Int)).f1 (k : Int)) := by
  rcases Fj W S (fP (cZ sq (i : Int))) (ah hs (x.1 : Int)).f1 (ah hs (x.1 : Int)).f1.length with h | h
  ·have h' : mr W S sq (ah hs (x.1 : Int)).f1 i = 1048576 := h; omega
  ·exact h
 obtain ⟨k, hk, hkv⟩ := hcell
 have hhit : wT (-1) 0 W S t hs sq i x.1 k = true := by
  rw [JB hs W S ht hq x.1 hsh hi hk, ← hkv]
  have e : iP (fun j => qb (ql W S sq (ah hs (x.1 : Int)).f1 i (mr W S sq (ah hs (x.1 : Int)).f1 i) j)) sq.length = iP (fun j => qb (mr W S sq (ah hs (x.1 : Int)).f1 j)) sq.length :=
   tH _ (fun j hj => by
    unfold ql; split
    ·rename_i h; rw [h]
    ·rfl)
  rw [e]; exact hle2
 have hf : jb (-1) 0 W S t hs sq i (List.finRange hs.length) (ai (ah hs (x.1 : Int)).f1 (k : Int)).f0 = true := by
  rw [jb, List.any_eq_true]; exact ⟨x, List.mem_finRange _, by rw [row_iff]; exact ⟨k, hk, hhit, rfl⟩⟩
 have hrg := uO hr i _ hf; intro hnil
 have : (ai (ah hs (x.1 : Int)).f1 (k : Int)).f0 ∈ gK (-1) 0 W S t hs sq i := by
  rw [gK, List.mem_filter]; refine ⟨List.mem_map.2 ⟨(ai (ah hs (x.1 : Int)).f1 (k : Int)).f0.toNat, List.mem_range.2 (by omega), ?_⟩, hf⟩; show ((Int.toNat _ : Nat) : Int) = _; omega
 rw [hnil] at this; cases this
theorem Qh (xs : List ByteArray) (hx : ∀ x ∈ xs, 1 ≤ x.size ∧ x.size ≤ 256) (hl : xs.length ≤ 8) : ∀ (d i : Nat) (s : ByteArray), i + d = xs.length → s.size ≤ 300 * i → Ev (fun k => bz.l0 k s xs (xs.length : Int) (i : Int)) (kT s (xs.drop i), 0) := by
 have b1 : (⟨#[123]⟩ : ByteArray).size = 1 := rfl; intro d
 induction d with
 | zero =>
  intro i s hi hs; refine Ev.step (f := fun _ => some (s, 0)) (fun k => by rw [bz.l0, if_neg (by omega)]) ?_; rw [List.drop_eq_nil_of_le (by omega)]; exact Ev.now _
 | succ d ih =>
  intro i s hi hs; (have hil : i < xs.length := by omega); have e : iK ByteArray.empty xs (i : Int) = xs[i] := rdO xs i hil; (have hw : wrap64 ((i : Int) + 1) = ((i + 1 : Nat) : Int) := by rw [ek (by omega) (by omega)]; omega); obtain ⟨m1, m2⟩ := hx _ (List.getElem_mem hil); rw [Cc xs s i hil, e]; generalize xs[i] = x at m1 m2 e; have hps := uS s x; by_cases c1 : x.size = 1
  ·(have hp : fZ s x = s ++ x := by rw [fZ, if_pos c1]); have q := ih (i + 1) (fZ s x) (by omega) (by omega); refine Ev.step (f := fun k => bz.j1 k s x xs (xs.length : Int) (i : Int) (x.size : Int) ((x.size : Int) == 3)) (fun k => ?_) ?_
   ·rw [bz.l0, if_pos (by omega), if_pos (by omega), if_pos (by omega), e, if_neg (by omega)]
   ·refine Ev.step (fun k => ?_) q; rw [bz.j1, if_neg (by rw [c1]; decide), if_pos (by omega), if_pos (by omega), hw, hp]
  ·by_cases c2 : x.size ≤ 3
   ·(have hp : fZ s x = s ++ (⟨#[123]⟩ : ByteArray) ++ x ++ (⟨#[125]⟩ : ByteArray) := by rw [fZ, if_neg c1, if_pos c2]); have q := ih (i + 1) (fZ s x) (by omega) (by omega); (have ea : s ++ (((⟨#[123]⟩ : ByteArray) ++ x) ++ (⟨#[125]⟩ : ByteArray)) = fZ s x := by rw [hp, ByteArray.append_assoc, ByteArray.append_assoc, ByteArray.append_assoc]); (have s1 : ((⟨#[123]⟩ : ByteArray) ++ x).size = 1 + x.size := by rw [ByteArray.size_append, b1]); (have s2 : (((⟨#[123]⟩ : ByteArray) ++ x) ++ (⟨#[125]⟩ : ByteArray)).size = 1 + x.size + 1 := by rw [ByteArray.size_append, s1]; rfl); by_cases c3 : x.size = 2
    ·refine Ev.step (f := fun k => bz.j1 k s x xs (xs.length : Int) (i : Int) (x.size : Int) ((x.size : Int) == 2)) (fun k => ?_) ?_
     ·rw [bz.l0, if_pos (by omega), if_pos (by omega), if_pos (by omega), e, if_pos (by omega)]
     ·refine Ev.step (fun k => ?_) q; rw [bz.j1, if_pos (by rw [c3]; rfl), if_pos (by omega), if_pos (by omega), if_pos (by omega), hw, ea]
    ·(have c4 : x.size = 3 := by omega); refine Ev.step (f := fun k => bz.j1 k s x xs (xs.length : Int) (i : Int) (x.size : Int) ((x.size : Int) == 3)) (fun k => ?_) ?_
     ·rw [bz.l0, if_pos (by omega), if_pos (by omega), if_pos (by omega), e, if_neg (by omega)]
     ·refine Ev.step (fun k => ?_) q; rw [bz.j1, if_pos (by rw [c4]; rfl), if_pos (by omega), if_pos (by omega), if_pos (by omega), hw, ea]
   ·(have hp : fZ s x = s ++ (⟨#[45]⟩ : ByteArray) := by rw [fZ, if_neg c1, if_neg c2]); have q := ih (i + 1) (fZ s x) (by omega) (by omega); refine Ev.step (f := fun k => bz.j1 k s x xs (xs.length : Int) (i : Int) (x.size : Int) ((x.size : Int) == 3)) (fun k => ?_) ?_
    ·rw [bz.l0, if_pos (by omega), if_pos (by omega), if_pos (by omega), e, if_neg (by omega)]
    ·refine Ev.step (fun k => ?_) q; rw [bz.j1, if_neg (by simp; omega), if_neg (by omega), if_pos (by omega), hw, hp]
theorem D6 {hs : List S66} {W S t : Int} {sq : List (List S27)} (hc : dY hs W S t sq = 0) : (jf (-1) 0 W S t hs sq).map strOfNums = gD W S t hs sq sq.length := by
 rw [jf, gD, List.map_map]; refine List.map_congr_left (fun i hi => ?_); show strOfNums (gK (-1) 0 W S t hs sq i) = _; rw [xf hc (List.mem_range.1 hi)]
theorem Fq {hs : List S66} {W S t : Int} {sq : List (List S27)} (h : (kP hs W S t sq).2 ≠ 0) : ∀ k, bG.f k hs W S t sq = some ([], (kP hs W S t sq).2) := fun k => by
 rw [bG.f, gy.f, Option.bind_some, if_neg h]
theorem CS (hs : List S66) (W S t : Int) (sq : List (List S27)) : (kP hs W S t sq).2 = 0 → dY hs W S t sq = 0 ∧ gp W S t sq 0 hs ≠ [] := by
 intro h; rw [tY, mP] at h; by_cases hc : dY hs W S t sq = 0
 ·rw [if_pos hc] at h; by_cases hn : gp W S t sq 0 hs = []
  ·rw [if_pos hn] at h; exact absurd h (by decide)
  ·exact ⟨hc, hn⟩
 ·rw [if_neg hc] at h; exact absurd h hc
theorem Pf (hs : List S66) (W S t : Int) (sq : List (List S27)) : Ev (fun k => bz.f k hs W S t sq) ((ol hs W S t sq).1, (ol hs W S t sq).2) := by
 by_cases h : (kP hs W S t sq).2 = 0
 ·obtain ⟨hc, hn⟩ := CS hs W S t sq h; obtain ⟨hq, hh⟩ := lc hc
  have hfit : gy.f hs W S t sq = some ((kP hs W S t sq).1, 0) := by
   rw [gy.f]; exact congrArg some (Prod.ext rfl h)
  have h1 := Jm hc (by have := hq.1; omega) hfit; rw [D6 hc] at h1
  have hR : ic hs W S t sq = (gD W S t hs sq sq.length, 0) := by
   rw [ic, ← tY, if_pos h]
  have hP : ol hs W S t sq = (kT ⟨#[]⟩ (gD W S t hs sq sq.length), 0) := by
   rw [ol, hR]; rfl
  rw [hP]; have hlen : (gD W S t hs sq sq.length).length = sq.length := by simp [gD]
  have hsz : ∀ x ∈ gD W S t hs sq sq.length, 1 ≤ x.size ∧ x.size ≤ 256 := by
   intro x hx; obtain ⟨i, hi, rfl⟩ := List.mem_map.1 hx; have hi' := List.mem_range.1 hi; rw [xf hc hi', strOfNums_size]; constructor
   ·exact List.length_pos_iff.2 (Gd hc hn hi')
   ·exact Nat.le_trans (List.length_filter_le _ _) (by simp)
  have h2 := Qh _ hsz (by rw [hlen]; exact hq.1) (gD W S t hs sq sq.length).length 0 ⟨#[]⟩ (by omega) (Nat.zero_le _); refine Ev.congr (fun k => by rw [bz.f]) (Ev.bind h1 ?_); refine Ev.congr (fun k => by rw [if_pos rfl]; rfl) h2
 ·have hR : ic hs W S t sq = ([], (kP hs W S t sq).2) := by
   rw [ic, ← tY, if_neg h]
  have hP : ol hs W S t sq = (⟨#[]⟩, (kP hs W S t sq).2) := by
   rw [ol, hR, if_neg h]
  rw [hP]; refine Ev.congr (fun k => ?_) (Ev.now _); rw [bz.f, Fq h k, Option.bind_some, if_neg h]
theorem Mi : Ev (fun k => dB.f k) true := Ev.of dB.mono (k := 60) (by decide +kernel)
theorem Mr (a : Int) (n : Nat) (h : 0 < n) (h8 : n ≤ 100) : ∃ kk : Nat, jg.f a (n : Int) = some (kk : Int) ∧ kk < n := by
 by_cases h2 : (n : Int) < 2
 ·exact ⟨0, by rw [jg.f, if_pos h2]; rfl, h⟩
 ·(have hp : (0 : Int) < n := by omega); have b1 := Int.tmod_lt_of_pos a hp; have b2 : -(n : Int) < Int.tmod a n := Int.lt_tmod_of_pos a hp; (have hw : wrap64 (Int.tmod a n + n) = Int.tmod a n + n := by unfold wrap64; omega); have c1 := Int.tmod_lt_of_pos (Int.tmod a n + n) hp; have c2 : 0 ≤ Int.tmod (Int.tmod a n + n) n := Int.tmod_nonneg _ (by omega); refine ⟨(Int.tmod (Int.tmod a n + n) n).toNat, ?_, by omega⟩; rw [jg.f, if_neg h2, if_neg (by omega), hw, Int.toNat_of_nonneg c2]
theorem yK {hs : List S66} {sq : List (List S27)} (hsm : ku hs sq) (W S t : Int) : ∃ K, ∀ k, K ≤ k → nW k hs W S t sq := by
 obtain ⟨a1, a2, a3, a4⟩ := hsm; obtain ⟨K1, E1⟩ := QZ hs W S t sq (by omega) (fun h hm => by have := a3 h hm; omega) (by omega) (fun q hm => by have := a4 q hm; omega); obtain ⟨K2, E2⟩ := Pf hs W S t sq; exact ⟨max K1 K2, fun k hk => ⟨⟨a1, a2, a3, a4⟩, E1 k (by omega), E2 k (by omega), Jl hs W S t sq⟩⟩
theorem FW (hs : List S66) (W S t : Int) (sq : List (List S27)) (x0 x1 at_ : Int) (ns : List Int) : ∃ (k : Nat) (a b : Int) (mh : List S66) (mw ms mt : Int) (mq : List (List S27)) (cut : Int) (txt : ByteArray) (vis : List Int) (y0 y1 : Int) (kk : Nat),
 dB.f k = some true ∧ kR.f ns = some (a, b) ∧ ag.f k a b 3 5 4 = some (mh, mw, ms, mt, mq, cut, txt, vis, y0, y1) ∧ jg.f at_ (mq.length : Int) = some (kk : Int) ∧ kk < mq.length ∧ mq.length ≤ 8 ∧
 (ku hs sq → nW k hs W S t sq) ∧ nW k mh mw ms mt mq ∧ nW k mh mw ms 40 (mq.set kk [⟨x0, x1⟩]) := by
 obtain ⟨r, ⟨K1, E1⟩, hg⟩ := Sn (oN ns).1 (oN ns).2 3 5 4 (by omega) (by omega) (by omega) (by omega) (by omega) (by omega); obtain ⟨⟨hh1, hh2, hh3⟩, hw, hc, ht, hs1, hs2, hs3⟩ := hg; obtain ⟨mh, mw, ms, mt, mq, cut, txt, vis, y0, y1⟩ := r; simp only [] at E1 hh1 hh2 hh3 hw hc ht hs1 hs2 hs3; obtain ⟨kk, hk1, hk2⟩ := Mr at_ mq.length hs1 (by omega); have sm1 : ku mh mq := ⟨by omega, by omega, fun h hm => by have := (hh3 h hm).2.2.2.2.2; omega, fun q hm => by have := (hs3 q hm).1; omega⟩
 have sm2 : ku mh (mq.set kk [⟨x0, x1⟩]) := ⟨sm1.1, by rw [List.length_set]; exact sm1.2.1, sm1.2.2.1, fun q hm => by
  rcases List.mem_or_eq_of_mem_set hm with hm | rfl
  ·exact sm1.2.2.2 q hm
  ·simp⟩
 obtain ⟨K2, E2⟩ := yK sm1 mw ms mt; obtain ⟨K3, E3⟩ := yK sm2 mw ms 40; obtain ⟨K4, E4⟩ := Mi
 obtain ⟨K5, E5⟩ : ∃ K, ∀ k, K ≤ k → ku hs sq → nW k hs W S t sq := by
  by_cases h : ku hs sq
  ·obtain ⟨K, E⟩ := yK h W S t; exact ⟨K, fun k hk _ => E k hk⟩
  ·exact ⟨0, fun k _ h' => absurd h' h⟩
 refine ⟨max K1 (max K2 (max K3 (max K4 K5))), (oN ns).1, (oN ns).2, mh, mw, ms, mt, mq, cut, txt, vis, y0, y1, kk, E4 _ (by omega), rfl, E1 _ (by omega), hk1, hk2, by omega, E5 _ (by omega), E2 _ (by omega), E3 _ (by omega)⟩
end Go.Proofs.Ytihedeofkhapiaa.Pr
end
