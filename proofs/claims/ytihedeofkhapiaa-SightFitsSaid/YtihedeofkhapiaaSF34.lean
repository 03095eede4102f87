/- Part 34 of 36 of the proof of: SightFits: for every line, light, number and slice of numbers, the law returns true: the program tells which lines are valid, which hands and letters fit, and between which years a line was cut, as the reference does, with the same errors, and changes nothing; no condition beyond the statement's own. -/
import Derived.IntWalk
import Derived.Deep.RegionHeld3
import Derived.Deep.QuietTactic
import Derived.BigQuiet
import Derived.Test.YtihedeofkhapiaaSF21
import Derived.Test.YtihedeofkhapiaaSF31
import Derived.Test.YtihedeofkhapiaaSF33
set_option linter.unusedVariables false
set_option linter.unusedSimpArgs false
section
namespace Go.Proofs.Ytihedeofkhapiaa.Pr
open Go.RowKit Go.Proofs.YtihedeofkhapiaaW.PrintWords Go.Proofs.YtihedeofkhapiaaW.PrintLast Go.Proofs.YtihedeofkhapiaaW.PrintMore
theorem Ib (sh : List S86) (j : Nat) (h : j < sh.length) : jc (rq sh j) (sh.drop j) = if (ak sh (j : Int)).f0 < 65 ∨ (ak sh (j : Int)).f0 > 90 then 8 else if inP (ak sh (j : Int)).f1 1 1023 = true then (if (∃ q, rq sh j = some q ∧ (ak sh (j : Int)).f0 ≤ q) then 5 else jc (rq sh (j + 1)) (sh.drop (j + 1))) else 1 := by
 have e : rq sh (j + 1) = some (sh[j]).f0 := by
  rw [rq, if_neg (by omega), Nat.add_sub_cancel, List.getD_eq_getElem?_getD, List.getElem?_eq_getElem h]; rfl
 rw [List.drop_eq_getElem_cons h, jc, lI sh j h, e]
set_option maxRecDepth 100000 in
set_option maxHeartbeats 4000000 in
theorem D7 (lo hi : Int) (Ah : Option Addr) (ch : Nat) (sh : List S86) (w : World) (hh : k86.C w Ah sh.length sh) :
 Calls Try.prog 66 #[.agg #[.int .i64 lo, .int .i64 hi, .slice Ah sh.length ch]] w fun e w' => e = .returned (.int .i64 (lQ lo hi sh)) ∧ Below w.heap.size w w' := by
 have HH := aa.mk hh; clear hh; go_enter Try.func66, Try.ntmps66; (go_upto_region 1 with (fail)); obtain ⟨W1, hW1⟩ : ∃ W1, W1 = w.alloc (.cells #[.int .i64 lo, .int .i64 hi, .slice Ah sh.length ch] 66) := ⟨_, rfl⟩; have HB := aa.mk (show Below w.heap.size w W1 by rw [hW1]; exact aA (Below.refl _ _) _); have BH := aa.mk (show W1.heap[w.heap.size]? = some (.cells #[.int .i64 lo, .int .i64 hi, .slice Ah sh.length ch] 66 (0, 0)) by rw [hW1]; exact heap_alloc_new w _); rw [← hW1]; clear hW1; have hb0 : W1.cell? ⟨w.heap.size, 0, none⟩ = some (.int .i64 lo) := (af BH.out 0).trans rfl; have hb1 : W1.cell? ⟨w.heap.size, 1, none⟩ = some (.int .i64 hi) := (af BH.out 1).trans rfl; have hb2 : W1.cell? ⟨w.heap.size, 2, none⟩ = some (.slice Ah sh.length ch) := (af BH.out 2).trans rfl; (go_wp2_with (fail)); refine (oG lo (-3000) 3000 _).mono ?_; rintro e w2 ⟨rfl, rfl⟩
 cases h1 : inP lo (-3000) 3000 with
 | false =>
  have HE := aa.mk (show lQ lo hi sh = 1 by rw [lQ, if_neg (by rw [h1]; simp)]); clear h1; go_wp2
  go_ret
  exact ⟨by rw [HE.out]; rfl, HB.out⟩
 | true =>
  have H1 := aa.mk h1; clear h1; (go_wp2_with (fail)); refine (oG hi (-3000) 3000 _).mono ?_; rintro e w2 ⟨rfl, rfl⟩
  cases h2 : inP hi (-3000) 3000 with
  | false =>
   have HE := aa.mk (show lQ lo hi sh = 1 by rw [lQ, if_neg (by rw [h2]; simp)]); clear h2; go_wp2
   go_ret
   exact ⟨by rw [HE.out]; rfl, HB.out⟩
  | true =>
   have HE := aa.mk (show lQ lo hi sh = if lo > hi then 5 else if sh.length = 0 then 7 else if sh.length > 8 then 6 else jc none sh by rw [lQ, if_pos ⟨H1.out, h2⟩]); clear h2; by_cases c1 : lo > hi
   ·have c1b : decide (hi < lo) = true := decide_eq_true c1; have HF := aa.mk (HE.out.trans (if_pos c1)); go_wp2
    go_ret
    exact ⟨by rw [HF.out]; rfl, HB.out⟩
   ·have c1b : decide (hi < lo) = false := decide_eq_false c1; have HF := aa.mk (HE.out.trans (if_neg c1)); clear HE c1; by_cases c2 : sh.length = 0
    ·(have c2b : ((sh.length : Int) == 0) = true := by rw [c2]; rfl); (have c2c : (sh.length == 0) = true := by rw [c2]; rfl); have HG := aa.mk (HF.out.trans (if_pos c2)); clear c2; go_wp2
     go_ret
     exact ⟨by rw [HG.out]; rfl, HB.out⟩
    ·have c2b : ((sh.length : Int) == 0) = false := beq_eq_false_iff_ne.2 (by omega); have c2c : (sh.length == 0) = false := beq_eq_false_iff_ne.2 c2; have HG := aa.mk (HF.out.trans (if_neg c2)); clear HF c2; by_cases c3 : sh.length > 8
     ·have c3b : decide (8 < (sh.length : Int)) = true := decide_eq_true (by omega); have c3c : decide (8 < sh.length) = true := decide_eq_true c3; have HK := aa.mk (HG.out.trans (if_pos c3)); clear c3; go_wp2
      go_ret
      exact ⟨by rw [HK.out]; rfl, HB.out⟩
     ·have c3b : decide (8 < (sh.length : Int)) = false := decide_eq_false (by omega); have c3c : decide (8 < sh.length) = false := decide_eq_false c3; have HK := aa.mk (HG.out.trans (if_neg c3)); have HL8 := aa.mk (show sh.length ≤ 8 by omega); clear c3 HG; go_wp2
      go_loopw [3, 4] (fun v3 v4 wr => ∃ j : Nat, j ≤ sh.length ∧ v3 = .int .i64 j ∧ aa (lQ lo hi sh = jc (rq sh j) (sh.drop j)) ∧ aa (Below w.heap.size w wr) ∧ aa (wr.heap[w.heap.size]? = some (.cells #[.int .i64 lo, .int .i64 hi, .slice Ah sh.length ch] 66 (0, 0)))) (fun v3 _ _ => sh.length - (intOf v3).toNat)
      case atStart => exact ⟨0, by omega, rfl, HK, HB, BH⟩
      case round =>
       clear hb0 hb1 hb2 HB BH HK; obtain ⟨j, hj, rfl, HA, HB, BH⟩ := hrel; have hb2 : wr.cell? ⟨w.heap.size, 2, none⟩ = some (.slice Ah sh.length ch) := (af BH.out 2).trans rfl; by_cases hjl : j < sh.length
       ·have hj1 : decide ((j : Int) < (sh.length : Int)) = true := decide_eq_true (by omega); (have hjlt : (j : Int) < (sh.length : Int) := by omega); (have hj8 : (j : Int) < 8 := by have := HL8.out; omega); obtain ⟨bd, e, hx0, hx1⟩ := nk (Kd.aT HH.out HB.out) (j : Int) (by omega) (by omega); cases e; rw [Int.toNat_natCast] at hx0 hx1; have HD := aa.mk (HA.out.trans (Ib sh j hjl)); obtain ⟨x, hx⟩ : ∃ x, x = ak sh (j : Int) := ⟨_, rfl⟩; rw [← hx] at HD hx0 hx1; have HX := aa.mk hx; have hlw : w.heap.size < wr.heap.size := bW BH.out; clear hx HA c3b c3c c2b c2c c1b; by_cases d1 : x.f0 < 65 ∨ x.f0 > 90
        ·have HF := aa.mk (HD.out.trans (if_pos d1)); by_cases d2 : x.f0 < 65
         ·have d2b : decide (x.f0 < 65) = true := decide_eq_true d2; go_wp2
          go_ret
          exact ⟨by rw [HF.out]; rfl, aA HB.out _⟩
         ·have d2b : decide (x.f0 < 65) = false := decide_eq_false d2; (have d3 : 90 < x.f0 := by omega); have d3b : decide (90 < x.f0) = true := decide_eq_true d3; go_wp2
          go_ret
          exact ⟨by rw [HF.out]; rfl, aA HB.out _⟩
        ·have HF := aa.mk (HD.out.trans (if_neg d1)); have d2b : decide (x.f0 < 65) = false := decide_eq_false (by omega); have d3b : decide (90 < x.f0) = false := decide_eq_false (by omega); clear HD d1; (go_wp2_with (fail)); refine (oG x.f1 1 1023 _).mono ?_; rintro e w2 ⟨rfl, rfl⟩
         cases h1 : inP x.f1 1 1023 with
         | false =>
          have HG := aa.mk (HF.out.trans (if_neg (by rw [h1]; simp))); clear h1; go_wp2
          go_ret
          exact ⟨by rw [HG.out]; rfl, aA HB.out _⟩
         | true =>
          have HG := aa.mk (HF.out.trans (if_pos h1)); clear h1 HF; by_cases hz : j = 0
          ·have HN := aa.mk (show lQ lo hi sh = jc (rq sh (j + 1)) (sh.drop (j + 1)) by rw [HG.out, if_neg (by rw [rq, if_pos hz]; simp)]); have hz1 : decide (0 < (j : Int)) = false := decide_eq_false (by omega); have hz2 : decide (0 < j) = false := decide_eq_false (by omega); clear hz; go_wp2; go_quiet (fail); go_wp2
           go_roundw
           (case rel => exact ⟨j + 1, by omega, by go_num, HN, ⟨dw (aA HB.out _) _⟩, ⟨fC (cK BH.out _) _⟩⟩); case measure => simp [intOf]; omega
          ·obtain ⟨bd', e, hy0, _⟩ := nk (Kd.aT HH.out HB.out) ((j : Int) - 1) (by omega) (by omega); cases e; (have ej : ((j : Int) - 1).toNat = j - 1 := by omega); rw [ej] at hy0; obtain ⟨y, hy⟩ : ∃ y, y = ak sh ((j : Int) - 1) := ⟨_, rfl⟩; rw [← hy] at hy0; have hy1 : (wr.alloc (Obj.cells #[.int .u8 x.f0, .int .i64 x.f1] 86)).cell? (bd.add ((j - 1) * 2)) = some (.int .u8 y.f0) := (World.cell?_alloc_some wr _ _ (by rw [hy0]; rfl)).trans hy0; have HY := aa.mk (show rq sh j = some y.f0 by rw [rq, if_neg hz, hy, ak, ej]); have hz1 : decide (0 < (j : Int)) = true := decide_eq_true (by omega); have hz2 : decide (0 < j) = true := decide_eq_true (by omega); (have hz3 : 0 < (j : Int) := by omega); (have hz4 : 1 ≤ (j : Int) := by omega); (have hz5 : (j : Int) - 1 < (sh.length : Int) := by omega); (have hz6 : 0 ≤ (j : Int) - 1 := by omega); have hz7 : IntKind.i64.wrap ((j : Int) - 1) = (j : Int) - 1 := IntWalk.i64_in ((j : Int) - 1) ⟨by omega, by omega⟩; have HJ := aa.mk hz; clear hz hy; by_cases d4 : x.f0 ≤ y.f0
           ·have d4b : decide (x.f0 ≤ y.f0) = true := decide_eq_true d4; have HN := aa.mk (HG.out.trans (if_pos ⟨_, HY.out, d4⟩)); go_wp2; go_quiet (fail); go_wp2
            go_ret
            exact ⟨by rw [HN.out]; rfl, dw (aA HB.out _) _⟩
           ·have d4b : decide (x.f0 ≤ y.f0) = false := decide_eq_false d4
            have HN := aa.mk (show lQ lo hi sh = jc (rq sh (j + 1)) (sh.drop (j + 1)) by
             rw [HG.out, if_neg (by rintro ⟨q, e, hq⟩; rw [HY.out] at e; cases e; exact d4 hq)])
            go_wp2; go_quiet (fail); go_wp2
            go_roundw
            (case rel => exact ⟨j + 1, by omega, by go_num, HN, ⟨dw (aA HB.out _) _⟩, ⟨fC (cK BH.out _) _⟩⟩); case measure => simp [intOf]; omega
       ·(obtain rfl : j = sh.length := by omega); (have hj1 : decide ((sh.length : Int) < (sh.length : Int)) = false := by simp); go_wp2
        go_ret
        exact ⟨by rw [HA.out, List.drop_length]; rfl, HB.out⟩
theorem IC (hs : List S66) (j : Nat) (h : j < hs.length) : jl (hs.drop j) = if lQ (ai hs (j : Int)).f0.f0 (ai hs (j : Int)).f0.f1 (ai hs (j : Int)).f1 = 0 then jl (hs.drop (j + 1)) else lQ (ai hs (j : Int)).f0.f0 (ai hs (j : Int)).f0.f1 (ai hs (j : Int)).f1 := by
 rw [List.drop_eq_getElem_cons h, jl, lN hs j h]
theorem Fp (sq : List (List S27)) (j : Nat) (h : j < sq.length) : jd (sq.drop j) = if xG (dn sq (j : Int)) = 0 then jd (sq.drop (j + 1)) else xG (dn sq (j : Int)) := by
 (have e : dn sq (j : Int) = sq[j] := by simp [dn, List.getD_eq_getElem?_getD, h]); rw [List.drop_eq_getElem_cons h, jd, e, xG]; by_cases h4 : sq[j].length > 4
 ·rw [if_pos h4, if_pos h4, if_neg (by decide)]
 ·rw [if_neg h4, if_neg h4]
set_option maxRecDepth 100000 in
set_option maxHeartbeats 4000000 in
theorem EN (A1 : Option Addr) (c1 : Nat) (hs : List S66) (W S t : Int) (A4 : Option Addr) (c4 : Nat) (sq : List (List S27)) (w : World)
 (hh : Kd.C k66 w A1 hs.length hs) (hr : Kd.C (Kd.slice 27 k27) w A4 sq.length sq) :
 Calls Try.prog 41 #[.agg #[.slice A1 hs.length c1, .int .i64 W, .int .i64 S, .int .i64 t, .slice A4 sq.length c4]] w fun e w' => e = .returned (.int .i64 (eT hs W S t sq)) ∧ Below w.heap.size w w' := by
 have HR := aa.mk hr; have HH := aa.mk hh; clear hr hh; go_enter Try.func41, Try.ntmps41; (go_upto_region 1 with (fail)); obtain ⟨W1, hW1⟩ : ∃ W1, W1 = w.alloc (.cells #[.slice A1 hs.length c1, .int .i64 W, .int .i64 S, .int .i64 t, .slice A4 sq.length c4] 25) := ⟨_, rfl⟩; have HB := aa.mk (show Below w.heap.size w W1 by rw [hW1]; exact aA (Below.refl _ _) _); have BX := aa.mk (show W1.heap[w.heap.size]? = some (.cells #[.slice A1 hs.length c1, .int .i64 W, .int .i64 S, .int .i64 t, .slice A4 sq.length c4] 25 (0, 0)) by rw [hW1]; exact heap_alloc_new w _); rw [← hW1]; clear hW1; have hb0 : W1.cell? ⟨w.heap.size, 0, none⟩ = some (.slice A1 hs.length c1) := (af BX.out 0).trans rfl; by_cases c2 : hs.length = 0
 ·(have c2b : ((hs.length : Int) == 0) = true := by rw [c2]; rfl); (have c2c : (hs.length == 0) = true := by rw [c2]; rfl); have HG := aa.mk (show eT hs W S t sq = 7 by rw [eT, if_pos c2]); clear c2; go_wp2
  go_ret
  exact ⟨by rw [HG.out]; rfl, HB.out⟩
 have c2b : ((hs.length : Int) == 0) = false := beq_eq_false_iff_ne.2 (by omega); have c2c : (hs.length == 0) = false := beq_eq_false_iff_ne.2 c2; have HE := aa.mk (show eT hs W S t sq = if hs.length > 4 then 6 else if jl hs = 0 then (if inP W 0 10 = true ∧ inP S 0 10 = true ∧ inP t 0 40 = true then (if sq.length = 0 then 7 else if sq.length > 8 then 6 else jd sq) else 1) else jl hs by rw [eT, if_neg c2]); clear c2; by_cases c3 : hs.length > 4
 ·have c3b : decide (4 < (hs.length : Int)) = true := decide_eq_true (by omega); have c3c : decide (4 < hs.length) = true := decide_eq_true c3; have HK := aa.mk (HE.out.trans (if_pos c3)); clear c3; go_wp2
  go_ret
  exact ⟨by rw [HK.out]; rfl, HB.out⟩
 have c3b : decide (4 < (hs.length : Int)) = false := decide_eq_false (by omega); have c3c : decide (4 < hs.length) = false := decide_eq_false c3; have HK := aa.mk (HE.out.trans (if_neg c3)); have HL4 := aa.mk (show hs.length ≤ 4 by omega); clear c3 HE; go_wp2
 go_loopw [3, 4] (fun v3 v4 wr => ∃ j : Nat, j ≤ hs.length ∧ v3 = .int .i64 j ∧ aa (jl hs = jl (hs.drop j)) ∧ aa (Below w.heap.size w wr) ∧ aa (wr.heap[w.heap.size]? = some (.cells #[.slice A1 hs.length c1, .int .i64 W, .int .i64 S, .int .i64 t, .slice A4 sq.length c4] 25 (0, 0)))) (fun v3 _ _ => hs.length - (intOf v3).toNat)
 case atStart => exact ⟨0, by omega, rfl, ⟨rfl⟩, HB, BX⟩
 case round =>
  clear hb0 HB BX; obtain ⟨j, hj, rfl, HA, HB, BX⟩ := hrel; have hb0 : wr.cell? ⟨w.heap.size, 0, none⟩ = some (.slice A1 hs.length c1) := (af BX.out 0).trans rfl; by_cases hjl : j < hs.length
  ·have hj1 : decide ((j : Int) < (hs.length : Int)) = true := decide_eq_true (by omega); (have hjlt : (j : Int) < (hs.length : Int) := by omega); (have hj8 : (j : Int) < 8 := by have := HL4.out; omega); have HD := aa.mk (HA.out.trans (IC hs j hjl)); obtain ⟨ad, Ah, ch, e, hx0, hx1, hx2, hl2, hi2⟩ := nH (Kd.aT HH.out HB.out) (j : Int) (by omega) (by omega); cases e; rw [Int.toNat_natCast] at hx0 hx1 hx2; obtain ⟨h, hhd⟩ : ∃ h, h = ai hs (j : Int) := ⟨_, rfl⟩; rw [← hhd] at HD hx0 hx1 hx2 hl2 hi2; have HI2 := aa.mk hi2; clear hhd hi2 hl2 HA c2b c2c c3b c3c; (go_wp2_with (fail)); refine (D7 h.f0.f0 h.f0.f1 Ah ch h.f1 _ HI2.out).mono ?_; rintro e w2 ⟨rfl, hb⟩; have HB2 := aa.mk (av HB.out hb); have BX2 := aa.mk (aj BX.out hb); obtain ⟨ev, hev⟩ : ∃ ev, ev = lQ h.f0.f0 h.f0.f1 h.f1 := ⟨_, rfl⟩; rw [← hev] at HD ⊢; clear hev hx0 hx1 hx2 hb; by_cases hz : ev = 0
   ·have HZ := aa.mk hz; (have z1 : (ev == 0) = true := by rw [hz]; rfl); (have z2 : (ev != 0) = false := by rw [hz]; rfl); clear hz; go_wp2
    go_roundw
    (case rel => exact ⟨j + 1, by omega, by go_num, ⟨HD.out.trans (if_pos HZ.out)⟩, HB2, BX2⟩); case measure => simp [intOf]; omega
   ·have HZ := aa.mk (show eT hs W S t sq = ev by
     have e1 : jl hs = ev := HD.out.trans (if_neg hz)
     rw [HK.out, e1, if_neg hz])
    have z1 : (ev == 0) = false := beq_eq_false_iff_ne.2 hz; have z2 : (ev != 0) = true := bne_iff_ne.2 hz; clear hz; go_wp2
    go_ret
    exact ⟨by rw [HZ.out]; rfl, HB2.out⟩
  ·(obtain rfl : j = hs.length := by omega); have hj1 : decide ((hs.length : Int) < (hs.length : Int)) = false := by simp
   have HM := aa.mk (show eT hs W S t sq = if inP W 0 10 = true ∧ inP S 0 10 = true ∧ inP t 0 40 = true then (if sq.length = 0 then 7 else if sq.length > 8 then 6 else jd sq) else 1 by
    rw [HK.out, HA.out, List.drop_length, jl, if_pos rfl])
   have hz1 : wr.cell? ⟨w.heap.size, 1, none⟩ = some (.int .i64 W) := (af BX.out 1).trans rfl; have hz2 : wr.cell? ⟨w.heap.size, 2, none⟩ = some (.int .i64 S) := (af BX.out 2).trans rfl; have hz3 : wr.cell? ⟨w.heap.size, 3, none⟩ = some (.int .i64 t) := (af BX.out 3).trans rfl; have hz4 : wr.cell? ⟨w.heap.size, 4, none⟩ = some (.slice A4 sq.length c4) := (af BX.out 4).trans rfl; clear HK HA hj hjl; (go_wp2_with (fail)); refine (oG W 0 10 _).mono ?_; rintro e w2 ⟨rfl, rfl⟩
   cases h1 : inP W 0 10 with
   | false =>
    have HE := aa.mk (HM.out.trans (if_neg (by rw [h1]; simp))); clear h1; go_wp2
    go_ret
    exact ⟨by rw [HE.out]; rfl, HB.out⟩
   | true =>
    have H1 := aa.mk h1; clear h1; (go_wp2_with (fail)); refine (oG S 0 10 _).mono ?_; rintro e w2 ⟨rfl, rfl⟩
    cases h2 : inP S 0 10 with
    | false =>
     have HE := aa.mk (HM.out.trans (if_neg (by rw [h2]; simp))); clear h2; go_wp2
     go_ret
     exact ⟨by rw [HE.out]; rfl, HB.out⟩
    | true =>
     have H2 := aa.mk h2; clear h2; (go_wp2_with (fail)); refine (oG t 0 40 _).mono ?_; rintro e w2 ⟨rfl, rfl⟩
     cases h3 : inP t 0 40 with
     | false =>
      have HE := aa.mk (HM.out.trans (if_neg (by rw [h3]; simp))); clear h3; go_wp2
      go_ret
      exact ⟨by rw [HE.out]; rfl, HB.out⟩
     | true =>
      have HE := aa.mk (HM.out.trans (if_pos ⟨H1.out, H2.out, h3⟩)); clear h3 HM H1 H2; by_cases d2 : sq.length = 0
      ·(have d2b : ((sq.length : Int) == 0) = true := by rw [d2]; rfl); (have d2c : (sq.length == 0) = true := by rw [d2]; rfl); have HG := aa.mk (HE.out.trans (if_pos d2)); clear d2; go_wp2
       go_ret
       exact ⟨by rw [HG.out]; rfl, HB.out⟩
      have d2b : ((sq.length : Int) == 0) = false := beq_eq_false_iff_ne.2 (by omega); have d2c : (sq.length == 0) = false := beq_eq_false_iff_ne.2 d2; have HF := aa.mk (HE.out.trans (if_neg d2)); clear d2; by_cases d3 : sq.length > 8
      ·have d3b : decide (8 < (sq.length : Int)) = true := decide_eq_true (by omega); have d3c : decide (8 < sq.length) = true := decide_eq_true d3; have HK := aa.mk (HF.out.trans (if_pos d3)); clear d3; go_wp2
       go_ret
       exact ⟨by rw [HK.out]; rfl, HB.out⟩
      have d3b : decide (8 < (sq.length : Int)) = false := decide_eq_false (by omega); have d3c : decide (8 < sq.length) = false := decide_eq_false d3; have HK := aa.mk (HF.out.trans (if_neg d3)); have HL8 := aa.mk (show sq.length ≤ 8 by omega); clear d3 HE HF; go_wp2
      go_loopw [5, 6] (fun v3 v4 wr => ∃ j : Nat, j ≤ sq.length ∧ v3 = .int .i64 j ∧ aa (eT hs W S t sq = jd (sq.drop j)) ∧ aa (Below w.heap.size w wr) ∧ aa (wr.heap[w.heap.size]? = some (.cells #[.slice A1 hs.length c1, .int .i64 W, .int .i64 S, .int .i64 t, .slice A4 sq.length c4] 25 (0, 0)))) (fun v3 _ _ => sq.length - (intOf v3).toNat)
      case atStart => exact ⟨0, by omega, rfl, HK, HB, BX⟩
      case round =>
       clear hz1 hz2 hz3 hz4 hb0 HB BX HK; obtain ⟨j, hj, rfl, HA, HB, BX⟩ := hrel; have hb4 : wr.cell? ⟨w.heap.size, 4, none⟩ = some (.slice A4 sq.length c4) := (af BX.out 4).trans rfl; by_cases hjl : j < sq.length
       ·have hj1 : decide ((j : Int) < (sq.length : Int)) = true := decide_eq_true (by omega); (have hjlt : (j : Int) < (sq.length : Int) := by omega); (have hj8 : (j : Int) < 8 := by have := HL8.out; omega); have HD := aa.mk (HA.out.trans (Fp sq j hjl)); obtain ⟨ad, Ah, ch, e, hx0, hl2, hi2⟩ := xI (Kd.aT HR.out HB.out) (j : Int) (by omega) (by omega); cases e; rw [Int.toNat_natCast] at hx0; obtain ⟨q, hqd⟩ : ∃ q, q = dn sq (j : Int) := ⟨_, rfl⟩; rw [← hqd] at HD hx0 hl2 hi2; have HI2 := aa.mk hi2; clear hqd hi2 hl2 HA d2b d2c d3b d3c c2b c2c c3b c3c; (go_wp2_with (fail)); refine (A8 Ah ch q _ HI2.out).mono ?_; rintro e w2 ⟨rfl, hb⟩; have HB2 := aa.mk (av HB.out hb); have BX2 := aa.mk (aj BX.out hb); obtain ⟨ev, hev⟩ : ∃ ev, ev = xG q := ⟨_, rfl⟩; rw [← hev] at HD ⊢; clear hev hx0 hb; by_cases hz : ev = 0
        ·have HZ := aa.mk hz; (have z1 : (ev == 0) = true := by rw [hz]; rfl); (have z2 : (ev != 0) = false := by rw [hz]; rfl); clear hz; go_wp2
         go_roundw
         (case rel => exact ⟨j + 1, by omega, by go_num, ⟨HD.out.trans (if_pos HZ.out)⟩, HB2, BX2⟩); case measure => simp [intOf]; omega
        ·have HZ := aa.mk (HD.out.trans (if_neg hz)); have z1 : (ev == 0) = false := beq_eq_false_iff_ne.2 hz; have z2 : (ev != 0) = true := bne_iff_ne.2 hz; clear hz; go_wp2
         go_ret
         exact ⟨by rw [HZ.out]; rfl, HB2.out⟩
       ·(obtain rfl : j = sq.length := by omega); (have hj1 : decide ((sq.length : Int) < (sq.length : Int)) = false := by simp); go_wp2
        go_ret
        exact ⟨by rw [HA.out, List.drop_length]; rfl, HB.out⟩
theorem zZ {n : Int} {lo : Int} (hlo : 0 ≤ lo) (h : inP n lo 1023 = true) : 0 ≤ n ∧ n < 1024 := by
 have := ow.1 h; omega
theorem Eu : ∀ q : List S27, kH q = 0 → zh q
 | [], _ => fun x hx => by cases hx
 | y :: r, h => fun x hx => by
  rw [kH] at h; by_cases h1 : inP y.f0 0 1023 = true ∧ inP y.f1 0 1023 = true
  ·rw [if_pos h1] at h; by_cases h2 : gp y.f1 y.f0 = 0
   ·rw [if_pos h2] at h; rcases List.mem_cons.1 hx with rfl | hx
    ·obtain ⟨f0, f1⟩ := x; have a0 := zZ (by decide) h1.1; have a1 := zZ (by decide) h1.2; obtain ⟨s, rfl⟩ : ∃ s : Nat, f0 = (s : Int) := ⟨f0.toNat, by simp only at a0; omega⟩; obtain ⟨n, rfl⟩ : ∃ n : Nat, f1 = (n : Int) := ⟨f1.toNat, by simp only at a1; omega⟩; simp only at a0 a1 h2; (have b0 : s < 1024 := by omega); (have b1 : n < 1024 := by omega); obtain ⟨c, hc, e, hz⟩ := zg b1 b0; exact ⟨s, n, b0, b1, rfl, hz (by rw [e] at h2; omega)⟩
    ·exact Eu r h x hx
   ·rw [if_neg h2] at h; exact absurd h (by decide)
  ·rw [if_neg h1] at h; exact absurd h (by decide)
theorem CW : ∀ sq : List (List S27), jd sq = 0 → ∀ q ∈ sq, q.length ≤ 4 ∧ zh q
 | [], _ => fun q hq => by cases hq
 | p :: r, h => fun q hq => by
  rw [jd] at h; by_cases h1 : p.length > 4
  ·rw [if_pos h1] at h; exact absurd h (by decide)
  ·rw [if_neg h1] at h; by_cases h2 : kH p = 0
   ·rw [if_pos h2] at h; rcases List.mem_cons.1 hq with rfl | hq
    ·exact ⟨by omega, Eu _ h2⟩
    ·exact CW r h q hq
   ·rw [if_neg h2] at h; exact absurd h h2
theorem Er : ∀ (sh : List S86) (p : Option Int), jc p sh = 0 → ∀ s ∈ sh, 0 ≤ s.f1 ∧ s.f1 < 1024
 | [], _, _ => fun s hs => by cases hs
 | x :: r, p, h => fun s hs => by
  rw [jc] at h; by_cases h1 : x.f0 < 65 ∨ x.f0 > 90
  ·rw [if_pos h1] at h; exact absurd h (by decide)
  ·rw [if_neg h1] at h; by_cases h2 : inP x.f1 1 1023 = true
   ·rw [if_pos h2] at h; by_cases h3 : ∃ q, p = some q ∧ x.f0 ≤ q
    ·rw [if_pos h3] at h; exact absurd h (by decide)
    ·rw [if_neg h3] at h; rcases List.mem_cons.1 hs with rfl | hs
     ·exact zZ (by decide) h2
     ·exact Er r _ h s hs
   ·rw [if_neg h2] at h; exact absurd h (by decide)
theorem IY : ∀ hs : List S66, jl hs = 0 → ∀ h ∈ hs, um h.f1
 | [], _ => fun h hh => by cases hh
 | p :: r, e => fun h hh => by
  rw [jl] at e; by_cases h1 : lQ p.f0.f0 p.f0.f1 p.f1 = 0
  ·rw [if_pos h1] at e; rcases List.mem_cons.1 hh with rfl | hh
   ·rw [lQ] at h1; by_cases c1 : inP h.f0.f0 (-3000) 3000 = true ∧ inP h.f0.f1 (-3000) 3000 = true
    ·rw [if_pos c1] at h1; by_cases c2 : h.f0.f0 > h.f0.f1
     ·rw [if_pos c2] at h1; exact absurd h1 (by decide)
     ·rw [if_neg c2] at h1; by_cases c3 : h.f1.length = 0
      ·rw [if_pos c3] at h1; exact absurd h1 (by decide)
      ·rw [if_neg c3] at h1; by_cases c4 : h.f1.length > 8
       ·rw [if_pos c4] at h1; exact absurd h1 (by decide)
       ·rw [if_neg c4] at h1; exact ⟨by omega, Er _ _ h1⟩
    ·rw [if_neg c1] at h1; exact absurd h1 (by decide)
   ·exact IY r e h hh
  ·rw [if_neg h1] at e; exact absurd e h1
theorem lY {hs : List S66} {W S t : Int} {sq : List (List S27)} (h : eT hs W S t sq = 0) : tX sq ∧ FW hs := by
 obtain ⟨_, h1, _, h2, h3, h4, _⟩ := mo h; exact ⟨⟨h2, CW sq h4⟩, ⟨by omega, IY hs h3⟩⟩
def eO (hs : List S66) (W S t : Int) (sq : List (List S27)) : List Int × Int :=
 if eT hs W S t sq = 0 then (if eQ W S t sq 0 hs = [] then ([], 9) else (eQ W S t sq 0 hs, 0)) else ([], eT hs W S t sq)
set_option maxRecDepth 100000 in
set_option maxHeartbeats 4000000 in
theorem zC (A1 : Option Addr) (c1 : Nat) (hs : List S66) (W S t : Int) (A4 : Option Addr) (c4 : Nat) (sq : List (List S27)) (w : World)
 (hh : Kd.C k66 w A1 hs.length hs) (hr : Kd.C (Kd.slice 27 k27) w A4 sq.length sq) :
 Calls Try.prog 37 #[.agg #[.slice A1 hs.length c1, .int .i64 W, .int .i64 S, .int .i64 t, .slice A4 sq.length c4]] w fun e w' => ∃ v, e = .returned (.tuple #[v, .int .i64 (eO hs W S t sq).2]) ∧ Kd.R (Kd.int .i64) 3 w' w.heap.size (fun _ => True) v (eO hs W S t sq).1 ∧ Below w.heap.size w w' := by
 have HR := aa.mk hr; have HH := aa.mk hh; clear hr hh; go_enter Try.func37, Try.ntmps37; (go_upto_region 1 with (fail)); obtain ⟨W1, hW1⟩ : ∃ W1, W1 = w.alloc (.cells #[.slice A1 hs.length c1, .int .i64 W, .int .i64 S, .int .i64 t, .slice A4 sq.length c4] 25) := ⟨_, rfl⟩; have HB := aa.mk (show Below w.heap.size w W1 by rw [hW1]; exact aA (Below.refl _ _) _); have BX := aa.mk (show W1.heap[w.heap.size]? = some (.cells #[.slice A1 hs.length c1, .int .i64 W, .int .i64 S, .int .i64 t, .slice A4 sq.length c4] 25 (0, 0)) by rw [hW1]; exact heap_alloc_new w _); rw [← hW1]; have hb0 : W1.cell? ⟨w.heap.size, 0, none⟩ = some (.slice A1 hs.length c1) := (af BX.out 0).trans rfl; have hb1 : W1.cell? ⟨w.heap.size, 1, none⟩ = some (.int .i64 W) := (af BX.out 1).trans rfl; have hb2 : W1.cell? ⟨w.heap.size, 2, none⟩ = some (.int .i64 S) := (af BX.out 2).trans rfl; have hb3 : W1.cell? ⟨w.heap.size, 3, none⟩ = some (.int .i64 t) := (af BX.out 3).trans rfl; have hb4 : W1.cell? ⟨w.heap.size, 4, none⟩ = some (.slice A4 sq.length c4) := (af BX.out 4).trans rfl; clear hW1; (go_wp2_with (fail)); refine (EN A1 c1 hs W S t A4 c4 sq _ (Kd.aT HH.out HB.out) (Kd.aT HR.out HB.out)).mono ?_; rintro e w2 ⟨rfl, hb⟩; have HB2 := aa.mk (av HB.out hb); have BX2 := aa.mk (aj BX.out hb); clear hb hb0 hb1 hb2 hb3 hb4; have HE := aa.mk (show eO hs W S t sq = if eT hs W S t sq = 0 then (if eQ W S t sq 0 hs = [] then ([], 9) else (eQ W S t sq 0 hs, 0)) else ([], eT hs W S t sq) from rfl); have HOK := aa.mk (fun h : eT hs W S t sq = 0 => lY h); obtain ⟨ev, hev⟩ : ∃ ev, ev = eT hs W S t sq := ⟨_, rfl⟩; rw [← hev] at HE HOK ⊢; clear hev; by_cases hz : ev = 0
 ·have HF := aa.mk (HE.out.trans (if_pos hz)); obtain ⟨oq, oh⟩ := HOK.out hz; have OQ := aa.mk oq; have OH := aa.mk oh; (have z1 : (ev == 0) = true := by rw [hz]; rfl); (have z2 : (ev != 0) = false := by rw [hz]; rfl); clear hz HE HOK oq oh; have hb0 : w2.cell? ⟨w.heap.size, 0, none⟩ = some (.slice A1 hs.length c1) := (af BX2.out 0).trans rfl; have hb1 : w2.cell? ⟨w.heap.size, 1, none⟩ = some (.int .i64 W) := (af BX2.out 1).trans rfl; have hb2 : w2.cell? ⟨w.heap.size, 2, none⟩ = some (.int .i64 S) := (af BX2.out 2).trans rfl; have hb3 : w2.cell? ⟨w.heap.size, 3, none⟩ = some (.int .i64 t) := (af BX2.out 3).trans rfl; have hb4 : w2.cell? ⟨w.heap.size, 4, none⟩ = some (.slice A4 sq.length c4) := (af BX2.out 4).trans rfl; have HS2 := aa.mk (bW BX2.out); (go_wp2_with (fail)); refine (Nq A1 c1 hs W S t A4 c4 sq _ (Kd.aT HH.out HB2.out) (Kd.aT HR.out HB2.out) OQ.out OH.out).mono ?_; rintro e w3 ⟨v, rfl, hv, hb⟩; have HB3 := aa.mk (av HB2.out hb); clear hb hb0 hb1 hb2 hb3 hb4; obtain ⟨fs, hfs⟩ : ∃ fs, fs = eQ W S t sq 0 hs := ⟨_, rfl⟩; rw [← hfs] at HF hv; clear hfs; obtain ⟨A, c, rfl⟩ := Kd.fe hv; have HV := aa.mk (Kd.fB hv (Nat.le_of_lt HS2.out)); clear hv; by_cases hn : fs.length = 0
  ·(have n1 : ((fs.length : Int) == 0) = true := by rw [hn]; rfl); (have n2 : (fs.length == 0) = true := by rw [hn]; rfl); have HG := aa.mk (HF.out.trans (if_pos (List.length_eq_zero_iff.1 hn))); clear hn; go_wp2
   go_ret2
   exact ⟨_, by rw [HG.out]; rfl, by rw [HG.out]; exact Kd.sw _ _ _ _ _, HB3.out⟩
  ·have n1 : ((fs.length : Int) == 0) = false := beq_eq_false_iff_ne.2 (by omega); have n2 : (fs.length == 0) = false := beq_eq_false_iff_ne.2 hn; have HG := aa.mk (HF.out.trans (if_neg (fun e => hn (by rw [e]; rfl)))); clear hn; go_wp2
   go_ret2
   exact ⟨_, by rw [HG.out]; rfl, by rw [HG.out]; exact HV.out, HB3.out⟩
 ·have HF := aa.mk (HE.out.trans (if_neg hz)); have z1 : (ev == 0) = false := beq_eq_false_iff_ne.2 hz; have z2 : (ev != 0) = true := bne_iff_ne.2 hz; clear hz HE HOK; go_wp2
  go_ret2
  exact ⟨_, by rw [HF.out]; rfl, by rw [HF.out]; exact Kd.sw _ _ _ _ _, HB2.out⟩
def xN (W S : Int) (sq : List (List S27)) : Int → List S66 → Int
 | b, [] => b
 | b, h :: r => xN W S sq (min b (jL W S sq h.f1 [])) r
theorem aa5 (W S : Int) (sq : List (List S27)) (hs : List S66) (b : Int) (j : Nat) (h : j < hs.length) : xN W S sq b (hs.drop j) = xN W S sq (min b (jL W S sq (ai hs (j : Int)).f1 [])) (hs.drop (j + 1)) := by
 rw [List.drop_eq_getElem_cons h, xN, lN hs j h]
def Kt (hs : List S66) (W S t : Int) (sq : List (List S27)) : Int × Int :=
 if eT hs W S t sq = 0 then (if xN W S sq 1000 hs ≥ 1000 then (0, 9) else (xN W S sq 1000 hs, 0)) else (0, eT hs W S t sq)
def iG (W S t : Int) (hs : List S66) (sq : List (List S27)) (i : Int) (nd : List mQ) : Nat → Int → List Int
 | 0, _ => []
 | n + 1, c => if kz W S t sq (nd ++ [⟨i, c⟩]) hs = true then c :: iG W S t hs sq i nd n (c + 1) else iG W S t hs sq i nd n (c + 1)
def nG.T5 : Bool × List (List Nat × List Nat) := (true, [([], []), ([], []), ([], []), ([1, 2], [1, 2]), ([], []), ([], []), ([4, 5], [4, 5]), ([6], [6]), ([3, 7, 3], [3, 7]), ([0, 8, 8], [0, 8])])
def nG.B5 : List Nat := [0, 0, 0, 6, 0, 0, 48, 112, 254, 511]
theorem nG.Pm : lS .any (opsOf Try.f62 5) = nG.T5 := by kernel_rfl
theorem nG.II : kI nG.T5.2 nG.B5 = true := by kernel_rfl
set_option maxRecDepth 100000 in
set_option maxHeartbeats 4000000 in
theorem GD (A1 : Option Addr) (c1 : Nat) (hs : List S66) (W S t : Int) (A4 : Option Addr) (c4 : Nat) (sq : List (List S27)) (i : Int) (An : Option Addr) (cn : Nat) (nd : List mQ) (w : World)
 (hh : Kd.C k66 w A1 hs.length hs) (hr : Kd.C (Kd.slice 27 k27) w A4 sq.length sq) (hn : rT.C w An nd.length nd) (hnl : nd.length ≤ 7) (hq : tX sq) (hho : FW hs) :
 Calls Try.prog 62 #[.agg #[.slice A1 hs.length c1, .int .i64 W, .int .i64 S, .int .i64 t, .slice A4 sq.length c4], .int .i64 i, .slice An nd.length cn] w fun e w' => e = .returned (.string (strOfNums (iG W S t hs sq i nd 26 65))) ∧ Below w.heap.size w w' := by
 have HR := aa.mk hr; have HH := aa.mk hh; have HN := aa.mk hn; have HNL := aa.mk hnl; have HQ := aa.mk hq; have HS := aa.mk hho; clear hr hh hn hnl hq hho; go_enter Try.func62, Try.ntmps62; go_wp2
 go_loopw [7, 8] (fun v4 v5 wr => ∃ (j : Nat) (acc : List Int), j ≤ 26 ∧ v4 = .string (strOfNums acc) ∧ v5 = .int .u8 (65 + (j : Int)) ∧ aa (acc ++ iG W S t hs sq i nd (26 - j) (65 + (j : Int)) = iG W S t hs sq i nd 26 65 ∧ acc.length ≤ j ∧ ∀ c ∈ acc, 0 ≤ c ∧ c < 256) ∧ aa (Below w.heap.size w wr) ∧ aa (wr.heap[w.heap.size]? = some (.cells #[.slice A1 hs.length c1, .int .i64 W, .int .i64 S, .int .i64 t, .slice A4 sq.length c4] 25 (0, 0)))) (fun _ v5 _ => 91 - (intOf v5).toNat)
 case atStart => exact ⟨0, [], by omega, rfl, rfl, ⟨rfl, by simp, by simp⟩, ⟨aA (Below.refl _ _) _⟩, ⟨heap_alloc_new w _⟩⟩
 case round =>
  obtain ⟨j, acc, hj, rfl, rfl, HA, HB, BX⟩ := hrel; have hz0 : wr.cell? ⟨w.heap.size, 0, none⟩ = some (.slice A1 hs.length c1) := (af BX.out 0).trans rfl; by_cases hjl : j < 26
  ·have hj1 : decide (65 + (j : Int) ≤ 90) = true := decide_eq_true (by omega); have hz1 : wr.cell? ⟨w.heap.size, 1, none⟩ = some (.int .i64 W) := (af BX.out 1).trans rfl; have hz2 : wr.cell? ⟨w.heap.size, 2, none⟩ = some (.int .i64 S) := (af BX.out 2).trans rfl; have hz3 : wr.cell? ⟨w.heap.size, 3, none⟩ = some (.int .i64 t) := (af BX.out 3).trans rfl; have hz4 : wr.cell? ⟨w.heap.size, 4, none⟩ = some (.slice A4 sq.length c4) := (af BX.out 4).trans rfl; (go_wp2_with (fail)); have nB := aa.mk (dV HB.out); have nX := aa.mk (dD BX.out); clear HB BX; have HB := nB; have BX := nX; clear nB nX; refine oF (n := 10) (S := fun w' => w'.cell? ⟨w.heap.size, 0, none⟩ = some (.slice A1 hs.length c1) ∧ w'.cell? ⟨w.heap.size, 1, none⟩ = some (.int .i64 W) ∧ w'.cell? ⟨w.heap.size, 2, none⟩ = some (.int .i64 S) ∧ w'.cell? ⟨w.heap.size, 3, none⟩ = some (.int .i64 t) ∧ w'.cell? ⟨w.heap.size, 4, none⟩ = some (.slice A4 sq.length c4)) (ds := [9]) (ba 10 0) (by kernel_rfl) rfl rfl ⟨hz0, hz1, hz2, hz3, hz4⟩ (fun bB => ?_); refine kw nG.Pm nG.II (fun HT_ HW_ => ?_); refine dO 2 15 (ba 10 4) HT_.out ?_
   refine dO 4 17 (ba 10 20) HT_.out ?_
   refine dO 5 18 (ba 10 52) HT_.out ?_
   refine dO 6 19 (ba 10 116) HT_.out ?_
   refine mR 0 13 (ba 10 117) HT_.out HW_.out bB ?_
   refine xL (σ := Value × Value × Value) 2 (ba 10 255) (fun s_ => [(14, s_.1), (16, s_.2.1), (20, s_.2.2)]) (fun s_ w' => (w'.cell? ⟨w.heap.size, 0, none⟩ = some (.slice A1 hs.length c1) ∧ w'.cell? ⟨w.heap.size, 1, none⟩ = some (.int .i64 W) ∧ w'.cell? ⟨w.heap.size, 2, none⟩ = some (.int .i64 S) ∧ w'.cell? ⟨w.heap.size, 3, none⟩ = some (.int .i64 t) ∧ w'.cell? ⟨w.heap.size, 4, none⟩ = some (.slice A4 sq.length c4)) ∧ rT.R 126 w' w.heap.size (fun _ => True) s_.2.1 nd ∧ rT.R 126 w' w.heap.size (fun _ => True) s_.2.2 [⟨i, 65 + (j : Int)⟩] ∧ Below w.heap.size w w' ∧ w'.heap[w.heap.size]? = some (.cells #[.slice A1 hs.length c1, .int .i64 W, .int .i64 S, .int .i64 t, .slice A4 sq.length c4] 25 (0, 0))) ?_ ?_; rotate_left
   ·intro hCont; refine DL 1 7 14 20 (ba 10 119) (ba 10 245) HT_.out (fun K hK => ?_) (fun K hK => ?_)
    ·skip; refine Kd.iL rT w.heap.size 126 ?hg (N := 14) ?hd (xs := ([] : List mQ)) (inner := []) (ok := fun _ => True) (okp := fun _ => True) ?hr ?hp (fun _ hk => hk) trivial HB.out (ay HB.out) (by simp) ?_; (case hd => rfl); (case hg => rfl); (case hr => first | (go_simp; done) | (go_simp; rfl)); (case hp => exact (dN.none _ _)); intro v14 w_ ho hb hg hat; have nO := aa.mk ho; have nX := aa.mk (bS BX.out hg (by simp)); clear BX HB; have BX := nX; have HB := aa.mk hb; have H14 := nO; clear ho hb hg hat nO nX; refine hK.out _ _ ⟨(af BX.out 0).trans rfl, (af BX.out 1).trans rfl, (af BX.out 2).trans rfl, (af BX.out 3).trans rfl, (af BX.out 4).trans rfl⟩ (fun bB => ?_); clear hK K; refine kT ?_
     refine DL 3 7 16 20 (ba 10 127) (ba 10 247) HT_.out (fun K hK => ?_) (fun K hK => ?_)
     ·skip; refine Kd.fU rT (w0 := w) w.heap.size (by rfl) (.tmp 14) (.tmp 15) 123 126 (.agg #[.int .i64 0, .int .u8 0]) 16 rfl Try.underlying123 Be rfl (by decide) (by decide) v14 [] nd An _ _ (fun _ => True) (fun _ => False) rfl rfl H14.out (Kd.aT HN.out HB.out) (fun _ _ h => h) (fun _ h => h.elim) (fun _ _ => trivial) HB.out (ay HB.out) (by have := HNL.out; simp only [List.length_nil]; omega) ?_; intro v16 w_ ho hb hg hat; rw [List.nil_append] at ho; have nO := aa.mk ho; have nX := aa.mk (bS BX.out hg (Kd.mG H14.out BX.out (by decide))); clear BX HB H14; have BX := nX; have HB := aa.mk hb; have H16 := nO; clear ho hb hg hat nO nX; refine hK.out _ _ ⟨(af BX.out 0).trans rfl, (af BX.out 1).trans rfl, (af BX.out 2).trans rfl, (af BX.out 3).trans rfl, (af BX.out 4).trans rfl⟩ (fun bB => ?_); clear hK K; refine kT ?_
      refine on_ 7 (some 20) (ba 10 255) HT_.out (fun K hK => ?_); refine Kd.iL rT w.heap.size 126 ?hg (N := 20) ?hd (xs := ([⟨i, 65 + (j : Int)⟩] : List mQ)) (inner := [.int .i64 i, .int .u8 (65 + (j : Int))]) (ok := fun _ => True) (okp := fun _ => True) ?hr ?hp (fun _ hk => hk) trivial HB.out (ay HB.out) (by simp) ?_; (case hd => rfl); (case hg => rfl); (case hr => first | (go_simp; done) | (go_simp; rfl)); (case hp => exact (dN.c2 (show Kd.M rT _ _ _ (⟨i, 65 + (j : Int)⟩ : mQ) [.int .i64 i, .int .u8 (65 + (j : Int))] from CF _ _ _ _) (dN.none _ _))); intro v20 w_ ho hb hg hat; have nO := aa.mk ho; have nX := aa.mk (bS BX.out hg (by simp)); have n16 := aa.mk (Kd.vO H16.out rfl hg (fun _ e => by cases e))
      have nD := aa.mk (show v16.ownBlock ≠ v20.ownBlock by
       obtain ⟨b, e, hlt⟩ := hat; obtain ⟨_, ho'⟩ := Kd.zn H16.out; intro e'
       exact Nat.lt_irrefl _ (Nat.lt_of_lt_of_le (zR ho' b (e'.trans e)) hlt))
      clear BX HB H16; have BX := nX; have HB := aa.mk hb; have H20 := nO; have H16 := n16; have HDIS := nD; clear nD ho hb hg hat nO nX n16; refine hK.out _ _ ⟨(af BX.out 0).trans rfl, (af BX.out 1).trans rfl, (af BX.out 2).trans rfl, (af BX.out 3).trans rfl, (af BX.out 4).trans rfl⟩ (fun _ => hCont ⟨_, _, _⟩ _ ⟨⟨(af BX.out 0).trans rfl, (af BX.out 1).trans rfl, (af BX.out 2).trans rfl, (af BX.out 3).trans rfl, (af BX.out 4).trans rfl⟩, H16.out, H20.out, HB.out, BX.out⟩)
     ·skip; refine Kd.iL rT w.heap.size 126 ?hg (N := 20) ?hd (xs := ([⟨i, 65 + (j : Int)⟩] : List mQ)) (inner := [.int .i64 i, .int .u8 (65 + (j : Int))]) (ok := fun _ => True) (okp := fun _ => True) ?hr ?hp (fun _ hk => hk) trivial HB.out (ay HB.out) (by simp) ?_; (case hd => rfl); (case hg => rfl); (case hr => first | (go_simp; done) | (go_simp; rfl)); (case hp => exact (dN.c2 (show Kd.M rT _ _ _ (⟨i, 65 + (j : Int)⟩ : mQ) [.int .i64 i, .int .u8 (65 + (j : Int))] from CF _ _ _ _) (dN.none _ _))); intro v20 w_ ho hb hg hat; have nO := aa.mk ho; have nX := aa.mk (bS BX.out hg (by simp)); have n14 := aa.mk (Kd.vO H14.out rfl hg (fun _ e => by cases e))
      have nD := aa.mk (show v14.ownBlock ≠ v20.ownBlock by
       obtain ⟨b, e, hlt⟩ := hat; obtain ⟨_, ho'⟩ := Kd.zn H14.out; intro e'
       exact Nat.lt_irrefl _ (Nat.lt_of_lt_of_le (zR ho' b (e'.trans e)) hlt))
      clear BX HB H14; have BX := nX; have HB := aa.mk hb; have H20 := nO; have H14 := n14; have HDIS := nD; clear nD ho hb hg hat nO nX n14; refine hK.out _ _ ⟨(af BX.out 0).trans rfl, (af BX.out 1).trans rfl, (af BX.out 2).trans rfl, (af BX.out 3).trans rfl, (af BX.out 4).trans rfl⟩ (fun bB => ?_); clear hK K; refine kT ?_
      refine on_ 3 (some 16) (ba 10 255) HT_.out (fun K hK => ?_); refine Kd.fU rT (w0 := w) w.heap.size (by rfl) (.tmp 14) (.tmp 15) 123 126 (.agg #[.int .i64 0, .int .u8 0]) 16 rfl Try.underlying123 Be rfl (by decide) (by decide) v14 [] nd An _ _ (fun _ => True) (fun _ => False) rfl rfl H14.out (Kd.aT HN.out HB.out) (fun _ _ h => h) (fun _ h => h.elim) (fun _ _ => trivial) HB.out (ay HB.out) (by have := HNL.out; simp only [List.length_nil]; omega) ?_; intro v16 w_ ho hb hg hat; rw [List.nil_append] at ho; have nO := aa.mk ho; have nX := aa.mk (bS BX.out hg (Kd.mG H14.out BX.out (by decide))); have n20 := aa.mk (Kd.vO H20.out rfl hg (fun k e e' => HDIS.out (e.trans e'))); clear BX HB H14 H20; have BX := nX; have HB := aa.mk hb; have H16 := nO; have H20 := n20; clear ho hb hg hat nO nX n20; refine hK.out _ _ ⟨(af BX.out 0).trans rfl, (af BX.out 1).trans rfl, (af BX.out 2).trans rfl, (af BX.out 3).trans rfl, (af BX.out 4).trans rfl⟩ (fun _ => hCont ⟨_, _, _⟩ _ ⟨⟨(af BX.out 0).trans rfl, (af BX.out 1).trans rfl, (af BX.out 2).trans rfl, (af BX.out 3).trans rfl, (af BX.out 4).trans rfl⟩, H16.out, H20.out, HB.out, BX.out⟩)
    ·skip; refine Kd.iL rT w.heap.size 126 ?hg (N := 20) ?hd (xs := ([⟨i, 65 + (j : Int)⟩] : List mQ)) (inner := [.int .i64 i, .int .u8 (65 + (j : Int))]) (ok := fun _ => True) (okp := fun _ => True) ?hr ?hp (fun _ hk => hk) trivial HB.out (ay HB.out) (by simp) ?_; (case hd => rfl); (case hg => rfl); (case hr => first | (go_simp; done) | (go_simp; rfl)); (case hp => exact (dN.c2 (show Kd.M rT _ _ _ (⟨i, 65 + (j : Int)⟩ : mQ) [.int .i64 i, .int .u8 (65 + (j : Int))] from CF _ _ _ _) (dN.none _ _))); intro v20 w_ ho hb hg hat; have nO := aa.mk ho; have nX := aa.mk (bS BX.out hg (by simp)); clear BX HB; have BX := nX; have HB := aa.mk hb; have H20 := nO; clear ho hb hg hat nO nX; refine hK.out _ _ ⟨(af BX.out 0).trans rfl, (af BX.out 1).trans rfl, (af BX.out 2).trans rfl, (af BX.out 3).trans rfl, (af BX.out 4).trans rfl⟩ (fun bB => ?_); clear hK K; refine kT ?_
     refine on_ 1 (some 14) (ba 10 247) HT_.out (fun K hK => ?_); refine Kd.iL rT w.heap.size 126 ?hg (N := 14) ?hd (xs := ([] : List mQ)) (inner := []) (ok := fun _ => True) (okp := fun _ => True) ?hr ?hp (fun _ hk => hk) trivial HB.out (ay HB.out) (by simp) ?_; (case hd => rfl); (case hg => rfl); (case hr => first | (go_simp; done) | (go_simp; rfl)); (case hp => exact (dN.none _ _)); intro v14 w_ ho hb hg hat; have nO := aa.mk ho; have nX := aa.mk (bS BX.out hg (by simp)); have n20 := aa.mk (Kd.vO H20.out rfl hg (fun _ e => by cases e))
     have nD := aa.mk (show v20.ownBlock ≠ v14.ownBlock by
      obtain ⟨b, e, hlt⟩ := hat; obtain ⟨_, ho'⟩ := Kd.zn H20.out; intro e'
      exact Nat.lt_irrefl _ (Nat.lt_of_lt_of_le (zR ho' b (e'.trans e)) hlt))
     clear BX HB H20; have BX := nX; have HB := aa.mk hb; have H14 := nO; have H20 := n20; have HDIS := nD; clear nD ho hb hg hat nO nX n20; refine hK.out _ _ ⟨(af BX.out 0).trans rfl, (af BX.out 1).trans rfl, (af BX.out 2).trans rfl, (af BX.out 3).trans rfl, (af BX.out 4).trans rfl⟩ (fun bB => ?_); clear hK K; refine kT ?_
     refine on_ 3 (some 16) (ba 10 255) HT_.out (fun K hK => ?_); refine Kd.fU rT (w0 := w) w.heap.size (by rfl) (.tmp 14) (.tmp 15) 123 126 (.agg #[.int .i64 0, .int .u8 0]) 16 rfl Try.underlying123 Be rfl (by decide) (by decide) v14 [] nd An _ _ (fun _ => True) (fun _ => False) rfl rfl H14.out (Kd.aT HN.out HB.out) (fun _ _ h => h) (fun _ h => h.elim) (fun _ _ => trivial) HB.out (ay HB.out) (by have := HNL.out; simp only [List.length_nil]; omega) ?_; intro v16 w_ ho hb hg hat; rw [List.nil_append] at ho; have nO := aa.mk ho; have nX := aa.mk (bS BX.out hg (Kd.mG H14.out BX.out (by decide))); have n20 := aa.mk (Kd.vO H20.out rfl hg (fun k e e' => HDIS.out ((e.trans e').symm))); clear BX HB H14 H20; have BX := nX; have HB := aa.mk hb; have H16 := nO; have H20 := n20; clear ho hb hg hat nO nX n20; refine hK.out _ _ ⟨(af BX.out 0).trans rfl, (af BX.out 1).trans rfl, (af BX.out 2).trans rfl, (af BX.out 3).trans rfl, (af BX.out 4).trans rfl⟩ (fun _ => hCont ⟨_, _, _⟩ _ ⟨⟨(af BX.out 0).trans rfl, (af BX.out 1).trans rfl, (af BX.out 2).trans rfl, (af BX.out 3).trans rfl, (af BX.out 4).trans rfl⟩, H16.out, H20.out, HB.out, BX.out⟩)
   rintro ⟨v14, v16, v20⟩ w_ ⟨bB, h16, h20, hb, hx⟩; clear HB BX hz0 hz1 hz2 hz3 hz4; have HB := aa.mk hb; have BX := aa.mk hx; have H16 := aa.mk h16; clear hb hx h16; obtain ⟨A20, c20, e20, _, hc20⟩ := Kd.pg h20; simp only at e20; subst e20; have Nc := aa.mk hc20; clear hc20 h20; refine D5 ?_
   refine on_ 8 (some 21) (ba 10 511) HT_.out (fun K hK => ?_); refine Kd.fU rT (w0 := w) w.heap.size (by rfl) (.tmp 16) (.tmp 20) 123 126 (.agg #[.int .i64 0, .int .u8 0]) 16 rfl Try.underlying123 Be rfl (by decide) (by decide) v16 nd [⟨i, 65 + (j : Int)⟩] A20 _ _ (fun _ => True) (fun _ => False) rfl rfl H16.out Nc.out (fun _ _ h => h) (fun _ h => h.elim) (fun _ _ => trivial) HB.out (ay HB.out) (by have := HNL.out; simp only [List.length_cons, List.length_nil]; omega) ?_; intro v21 w5 ho hb hg hat; have nX := aa.mk (bS BX.out hg (Kd.mG H16.out BX.out (by decide))); obtain ⟨A21, c21, rfl, _, hc21⟩ := Kd.pg ho; have adH := aa.mk hc21; clear BX HB H16; have BX := nX; have HB := aa.mk hb; clear ho hb hg hat nX hc21; refine hK.out _ _ ⟨(af BX.out 0).trans rfl, (af BX.out 1).trans rfl, (af BX.out 2).trans rfl, (af BX.out 3).trans rfl, (af BX.out 4).trans rfl⟩ (fun bB => ?_); clear hK K; refine kT ?_
   refine BC 9 (some 22) (ba 10 1023) HT_.out (fun K hK => ?_); refine wG Try.func81 (by kernel_rfl) rfl #[.agg #[.slice A1 hs.length c1, .int .i64 W, .int .i64 S, .int .i64 t, .slice A4 sq.length c4], .slice A21 (nd ++ [(⟨i, 65 + (j : Int)⟩ : mQ)]).length c21] (by rfl) rfl rfl (by (try simp only [List.map_toArray, List.map_cons, List.map_nil]); first | done | rfl) ?_; (with_reducible refine (Qx A1 c1 hs W S t A4 c4 sq A21 c21 (nd ++ [(⟨i, 65 + (j : Int)⟩ : mQ)]) _ (Kd.aT HH.out HB.out) (Kd.aT HR.out HB.out) adH.out (by have := HNL.out; simp only [List.length_append, List.length_cons, List.length_nil]; omega) HQ.out HS.out).mono ?_); rintro e w6 ⟨rfl, hb⟩; refine ⟨_, rfl, ?_⟩; have nB := aa.mk (av HB.out hb); have nX := aa.mk (aj BX.out hb); clear HB BX; have HB := nB; have BX := nX; clear nB nX hb Nc adH bB; refine hK.out _ _ ?_; clear hK K; refine zN HT_.out ?_; obtain ⟨fv, hfv⟩ : ∃ fv, fv = kz W S t sq (nd ++ [(⟨i, 65 + (j : Int)⟩ : mQ)]) hs := ⟨_, rfl⟩; rw [← hfv]
   cases fv with
   | false =>
    have HV := aa.mk hfv; (have hw8 : IntKind.u8.wrap (65 + (j : Int) + 1) = 65 + ((j + 1 : Nat) : Int) := by rw [IntKind.wrap_u8]; omega); clear hfv; go_wp2
    go_roundw
    case rel =>
     refine ⟨j + 1, acc, by omega, rfl, by first | exact congrArg (Value.int .u8) hw8 | (rw [hw8]) | go_num, ⟨?_, by have := HA.out.2.1; omega, HA.out.2.2⟩, HB, BX⟩; have e := HA.out.1; rw [show 26 - j = (26 - (j + 1)) + 1 by omega, iG, ← HV.out, if_neg (by decide)] at e; rw [← e, show (65 : Int) + ((j + 1 : Nat) : Int) = 65 + (j : Int) + 1 by omega]
    case measure => simp [intOf]; omega
   | true =>
    have HV := aa.mk hfv; have hw8 : IntKind.u8.wrap (65 + (j : Int) + 1) = 65 + ((j + 1 : Nat) : Int) := by rw [IntKind.wrap_u8]; omega
    have hcv : (convert 88 9 (.slice (some ⟨w6.heap.size, 0, none⟩) 1 1)).run Try.prog (w6.alloc (.cells #[.int .u8 (65 + (j : Int))] 5)) = .ok (.string (strOfNums [65 + (j : Int)])) (w6.alloc (.cells #[.int .u8 (65 + (j : Int))] 5)) := by
     refine run_convert_bytes_arg (P := Try.prog) _ 88 5 Try.underlying88 Try.underlying5 w6.heap.size 0 1 1 [65 + (j : Int)] rfl (fun k hk => ?_) 9 Try.underlying9; (obtain rfl : k = 0 := by omega); exact (af (heap_alloc_new w6 _) 0).trans rfl
    (have hcv' : ∀ s : ByteArray, s = strOfNums [65 + (j : Int)] → strOfNums acc ++ s = strOfNums (acc ++ [65 + (j : Int)]) := fun s e => by rw [e, Df]); (have hlim : ¬ 9223372036854775807 < (strOfNums acc).size + (strOfNums [65 + (j : Int)]).size := by have := HA.out.2.1; rw [strOfNums_size, strOfNums_size, List.length_singleton]; omega); clear hfv; go_wp2
    go_roundw
    case rel =>
     refine ⟨j + 1, acc ++ [65 + (j : Int)], by omega, by first | rfl | exact congrArg Value.string (hcv' _ rfl), by first | exact congrArg (Value.int .u8) hw8 | (rw [hw8]) | go_num, ⟨?_, by have := HA.out.2.1; simp; omega, ?_⟩, ⟨aA HB.out _⟩, ⟨cK BX.out _⟩⟩
     ·have e := HA.out.1; rw [show 26 - j = (26 - (j + 1)) + 1 by omega, iG, ← HV.out, if_pos rfl] at e; rw [← e, show (65 : Int) + ((j + 1 : Nat) : Int) = 65 + (j : Int) + 1 by omega, List.append_assoc]; rfl
     ·intro c hc; rcases List.mem_append.1 hc with hc | hc
      ·exact HA.out.2.2 c hc
      ·rw [List.mem_singleton] at hc; omega
    case measure => simp [intOf]; omega
  ·(obtain rfl : j = 26 := by omega); (have hj1 : decide (65 + ((26 : Nat) : Int) ≤ 90) = false := by decide); go_wp2
   go_ret
   exact ⟨by have e := HA.out.1; rw [Nat.sub_self, iG, List.append_nil] at e; rw [e]; rfl, HB.out⟩
def FR (W S t : Int) (hs : List S66) (sq : List (List S27)) (i : Int) : List Int := iG W S t hs sq i [] 26 65
def jk (W S t : Int) (hs : List S66) (sq : List (List S27)) (n : Nat) : List ByteArray := (List.range n).map fun (i : Nat) => strOfNums (FR W S t hs sq (i : Int))
def gT (hs : List S66) (W S t : Int) (sq : List (List S27)) : List ByteArray × Int := if (eO hs W S t sq).2 = 0 then (jk W S t hs sq sq.length, 0) else ([], (eO hs W S t sq).2)
theorem Aw {hs : List S66} {W S t : Int} {sq : List (List S27)} (h : (eO hs W S t sq).2 = 0) : tX sq ∧ FW hs := by
 by_cases hc : eT hs W S t sq = 0
 ·exact lY hc
 ·rw [eO, if_neg hc] at h; exact absurd h hc
set_option maxRecDepth 100000 in
set_option maxHeartbeats 4000000 in
theorem H9 (A1 : Option Addr) (c1 : Nat) (hs : List S66) (W S t : Int) (A4 : Option Addr) (c4 : Nat) (sq : List (List S27)) (w : World)
 (hh : Kd.C k66 w A1 hs.length hs) (hr : Kd.C (Kd.slice 27 k27) w A4 sq.length sq) :
 Calls Try.prog 38 #[.agg #[.slice A1 hs.length c1, .int .i64 W, .int .i64 S, .int .i64 t, .slice A4 sq.length c4]] w fun e w' => ∃ v, e = .returned (.tuple #[v, .int .i64 (gT hs W S t sq).2]) ∧ Kd.R Kd.string 9 w' w.heap.size (fun _ => True) v (gT hs W S t sq).1 ∧ Below w.heap.size w w' := by
 have HR := aa.mk hr; have HH := aa.mk hh; clear hr hh; go_enter Try.func38, Try.ntmps38; (go_upto_region 1 with (fail)); obtain ⟨W1, hW1⟩ : ∃ W1, W1 = w.alloc (.cells #[.slice A1 hs.length c1, .int .i64 W, .int .i64 S, .int .i64 t, .slice A4 sq.length c4] 25) := ⟨_, rfl⟩; have HB := aa.mk (show Below w.heap.size w W1 by rw [hW1]; exact aA (Below.refl _ _) _); have BX := aa.mk (show W1.heap[w.heap.size]? = some (.cells #[.slice A1 hs.length c1, .int .i64 W, .int .i64 S, .int .i64 t, .slice A4 sq.length c4] 25 (0, 0)) by rw [hW1]; exact heap_alloc_new w _); rw [← hW1]; have hb0 : W1.cell? ⟨w.heap.size, 0, none⟩ = some (.slice A1 hs.length c1) := (af BX.out 0).trans rfl; have hb1 : W1.cell? ⟨w.heap.size, 1, none⟩ = some (.int .i64 W) := (af BX.out 1).trans rfl; have hb2 : W1.cell? ⟨w.heap.size, 2, none⟩ = some (.int .i64 S) := (af BX.out 2).trans rfl; have hb3 : W1.cell? ⟨w.heap.size, 3, none⟩ = some (.int .i64 t) := (af BX.out 3).trans rfl; have hb4 : W1.cell? ⟨w.heap.size, 4, none⟩ = some (.slice A4 sq.length c4) := (af BX.out 4).trans rfl; clear hW1; (go_wp2_with (fail)); refine (zC A1 c1 hs W S t A4 c4 sq _ (Kd.aT HH.out HB.out) (Kd.aT HR.out HB.out)).mono ?_; rintro e w2 ⟨hv, rfl, _, hb⟩; have HB2 := aa.mk (av HB.out hb); have BX2 := aa.mk (aj BX.out hb); clear hb hb0 hb1 hb2 hb3 hb4; have HE := aa.mk (show gT hs W S t sq = if (eO hs W S t sq).2 = 0 then (jk W S t hs sq sq.length, 0) else ([], (eO hs W S t sq).2) from rfl); have HOK := aa.mk (fun h : (eO hs W S t sq).2 = 0 => Aw h); obtain ⟨ev, hev⟩ : ∃ ev, ev = (eO hs W S t sq).2 := ⟨_, rfl⟩; rw [← hev] at HE HOK ⊢; clear hev; by_cases hz : ev = 0
 ·have HF := aa.mk (HE.out.trans (if_pos hz)); obtain ⟨oq, oh⟩ := HOK.out hz; have OQ := aa.mk oq; have OH := aa.mk oh; have OL := aa.mk oq.1; (have z1 : (ev == 0) = true := by rw [hz]; rfl); (have z2 : (ev != 0) = false := by rw [hz]; rfl); clear hz HE HOK oq oh; go_wp2
  go_loopw [6, 7] (fun v6 v7 wr => ∃ (j : Nat), j ≤ sq.length ∧ v7 = .int .i64 j ∧ aa (Kd.R Kd.string 9 wr w.heap.size (fun _ => True) v6 (jk W S t hs sq j)) ∧ aa (Below w.heap.size w wr) ∧ aa (wr.heap[w.heap.size]? = some (.cells #[.slice A1 hs.length c1, .int .i64 W, .int .i64 S, .int .i64 t, .slice A4 sq.length c4] 25 (0, 0)))) (fun _ v7 _ => sq.length - (intOf v7).toNat)
  case atStart => exact ⟨0, by omega, rfl, ⟨Kd.sw _ _ _ _ _⟩, HB2, BX2⟩
  case round =>
   clear HB BX HB2 BX2; obtain ⟨j, hj, rfl, HO, HB, BX⟩ := hrel; have hz0 : wr.cell? ⟨w.heap.size, 0, none⟩ = some (.slice A1 hs.length c1) := (af BX.out 0).trans rfl; have hz1 : wr.cell? ⟨w.heap.size, 1, none⟩ = some (.int .i64 W) := (af BX.out 1).trans rfl; have hz2 : wr.cell? ⟨w.heap.size, 2, none⟩ = some (.int .i64 S) := (af BX.out 2).trans rfl; have hz3 : wr.cell? ⟨w.heap.size, 3, none⟩ = some (.int .i64 t) := (af BX.out 3).trans rfl; have hz4 : wr.cell? ⟨w.heap.size, 4, none⟩ = some (.slice A4 sq.length c4) := (af BX.out 4).trans rfl; by_cases hjl : j < sq.length
   ·have hj1 : decide ((j : Int) < (sq.length : Int)) = true := decide_eq_true (by omega); (have hjlt : (j : Int) < (sq.length : Int) := by omega); (have hj8 : (j : Int) < 8 := by have := OL.out; omega); have HLEN := aa.mk (show (jk W S t hs sq j).length = j by simp [jk]); (go_wp2_with (fail)); refine (GD A1 c1 hs W S t A4 c4 sq (j : Int) none 0 [] _ (Kd.aT HH.out HB.out) (Kd.aT HR.out HB.out) (Kd.Pn _ _) (by decide) OQ.out OH.out).mono ?_; rintro e w3 ⟨rfl, hb⟩; have HB3 := aa.mk (av HB.out hb); have BX3 := aa.mk (aj BX.out hb); have HO3 := aa.mk (Kd.eB HO.out hb); clear hb hz0 hz1 hz2 hz3 hz4
    have HS := aa.mk (show jk W S t hs sq (j + 1) = jk W S t hs sq j ++ [strOfNums (iG W S t hs sq (j : Int) [] 26 65)] by
     rw [jk, List.range_succ, List.map_append]; rfl)
    obtain ⟨sv, hsv⟩ : ∃ sv, sv = strOfNums (iG W S t hs sq (j : Int) [] 26 65) := ⟨_, rfl⟩; rw [← hsv] at HS ⊢; clear hsv; have HLIM := aa.mk (show ((jk W S t hs sq j).length + 1) * 16 ≤ 140737488355328 by have := HLEN.out; omega); (go_wp2_with (at_builtin; refine Kd.yK Kd.string (w0 := w) w.heap.size rfl (.tmp 23) (.tmp 27) 48 9 (.string ⟨#[]⟩) 16 rfl Try.underlying48 Yb rfl (by decide) (by decide) _ (jk W S t hs sq j) sv [.string sv] (fun _ => True) (fun _ => False) rfl rfl rfl (fun _ h => h.elim) (fun _ _ => trivial) HO3.out HB3.out HB3.out.size HLIM.out ?_; intro v1 w4 ho hb4 hg hat)); have HO4 := aa.mk ho; have BX4 := aa.mk (bS BX3.out hg (Kd.mG HO3.out BX3.out (by decide))); have HB4 := aa.mk hb4; clear ho hb4 hg hat; go_wp2
    go_roundw
    (case rel => exact ⟨j + 1, by omega, by go_num, ⟨by rw [HS.out]; exact HO4.out⟩, HB4, BX4⟩); case measure => simp [intOf]; omega
   ·(obtain rfl : j = sq.length := by omega); (have hj1 : decide ((sq.length : Int) < (sq.length : Int)) = false := by simp); go_wp2
    go_ret2
    exact ⟨_, by rw [HF.out]; rfl, by rw [HF.out]; exact HO.out, HB.out⟩
 ·have HF := aa.mk (HE.out.trans (if_neg hz)); have z1 : (ev == 0) = false := beq_eq_false_iff_ne.2 hz; have z2 : (ev != 0) = true := bne_iff_ne.2 hz; clear hz HE HOK; go_wp2
  go_ret2
  exact ⟨_, by rw [HF.out]; rfl, by rw [HF.out]; exact Kd.sw _ _ _ _ _, HB2.out⟩
def xu (s x : ByteArray) : ByteArray := if x.size = 1 then s ++ x else if x.size ≤ 3 then s ++ (⟨#[123]⟩ : ByteArray) ++ x ++ (⟨#[125]⟩ : ByteArray) else s ++ (⟨#[45]⟩ : ByteArray)
def ul : ByteArray → List ByteArray → ByteArray
 | s, [] => s
 | s, x :: r => ul (xu s x) r
theorem aaJ (xs : List ByteArray) (s : ByteArray) (j : Nat) (h : j < xs.length) : ul s (xs.drop j) = ul (xu s (je ByteArray.empty xs (j : Int))) (xs.drop (j + 1)) := by
 (have e : je ByteArray.empty xs (j : Int) = xs[j] := by simp [je, List.getD_eq_getElem?_getD, h]); rw [List.drop_eq_getElem_cons h, ul, e]
theorem Ro (s x : ByteArray) : (xu s x).size ≤ s.size + 5 := by
 unfold xu; have e1 : (⟨#[123]⟩ : ByteArray).size = 1 := rfl; have e2 : (⟨#[125]⟩ : ByteArray).size = 1 := rfl; have e3 : (⟨#[45]⟩ : ByteArray).size = 1 := rfl; split
 ·rw [ByteArray.size_append]; omega
 ·split
  ·rw [ByteArray.size_append, ByteArray.size_append, ByteArray.size_append, e1, e2]; omega
  ·rw [ByteArray.size_append, e3]; omega
def aiz (hs : List S66) (W S t : Int) (sq : List (List S27)) : ByteArray × Int := if (gT hs W S t sq).2 = 0 then (ul ⟨#[]⟩ (gT hs W S t sq).1, 0) else (⟨#[]⟩, (gT hs W S t sq).2)
theorem Py {hs : List S66} {W S t : Int} {sq : List (List S27)} (h : (gT hs W S t sq).2 = 0) : (gT hs W S t sq).1.length ≤ 8 := by
 by_cases hc : (eO hs W S t sq).2 = 0
 ·rw [gT, if_pos hc]; have := (Aw hc).1.1; simp [jk]; omega
 ·rw [gT, if_neg hc] at h; exact absurd h hc
def kN (hs : List S66) (sq : List (List S27)) : Prop := hs.length ≤ 20 ∧ sq.length ≤ 20 ∧ (∀ h ∈ hs, h.f1.length ≤ 20) ∧ ∀ q ∈ sq, q.length ≤ 20
set_option maxRecDepth 100000 in
set_option maxHeartbeats 4000000 in
theorem NC (A1 : Option Addr) (c1 : Nat) (hs : List S66) (W S t : Int) (A4 : Option Addr) (c4 : Nat) (sq : List (List S27)) (w : World)
 (hh : Kd.C k66 w A1 hs.length hs) (hr : Kd.C (Kd.slice 27 k27) w A4 sq.length sq) :
 Calls Try.prog 13 #[.agg #[.slice A1 hs.length c1, .int .i64 W, .int .i64 S, .int .i64 t, .slice A4 sq.length c4]] w fun e w' => ∃ b, e = .returned (.bool b) ∧ (b = false → kN hs sq) ∧ Below w.heap.size w w' := by
 have HR := aa.mk hr; have HH := aa.mk hh; clear hr hh; go_enter Try.func13, Try.ntmps13; go_wp2
 go_loopw [3] (fun v2 wr => ∃ (j : Nat), j ≤ hs.length ∧ j ≤ 20 ∧ v2 = .int .i64 j ∧ aa (∀ k : Nat, k < j → (ai hs (k : Int)).f1.length ≤ 20) ∧ aa (Below w.heap.size w wr) ∧ aa (wr.heap[w.heap.size]? = some (.cells #[.slice A1 hs.length c1, .int .i64 W, .int .i64 S, .int .i64 t, .slice A4 sq.length c4] 25 (0, 0)))) (fun v2 _ => 20 - (intOf v2).toNat)
 case atStart => exact ⟨0, by omega, by omega, rfl, ⟨fun k hk => by omega⟩, ⟨aA (Below.refl _ _) _⟩, ⟨heap_alloc_new w _⟩⟩
 case round =>
  obtain ⟨j, hj, hj20, rfl, HA, HB, BX⟩ := hrel; have hz0 : wr.cell? ⟨w.heap.size, 0, none⟩ = some (.slice A1 hs.length c1) := (af BX.out 0).trans rfl; have hz4 : wr.cell? ⟨w.heap.size, 4, none⟩ = some (.slice A4 sq.length c4) := (af BX.out 4).trans rfl; by_cases hjl : j < hs.length ∧ j < 20
  ·have hj1 : decide ((j : Int) < (hs.length : Int)) = true := decide_eq_true (by omega); have hj2 : decide ((j : Int) < 20) = true := decide_eq_true (by omega); (have hjlt : (j : Int) < (hs.length : Int) := by omega); (have hjlt2 : (j : Int) < 20 := by omega); obtain ⟨ad, Ah, ch, e, hx0, hx1, hx2, hl2, hi2⟩ := nH (Kd.aT HH.out HB.out) (j : Int) (by omega) (by omega); cases e; rw [Int.toNat_natCast] at hx0 hx1 hx2
   have HD := aa.mk (show ∀ k : Nat, k < j + 1 → (ai hs (j : Int)).f1.length ≤ 20 → (ai hs (k : Int)).f1.length ≤ 20 by
    intro k hk h; rcases Nat.lt_or_ge k j with h' | h'
    ·exact HA.out k h'
    ·obtain rfl : k = j := by omega
     exact h)
   obtain ⟨n, hn⟩ : ∃ n, n = (ai hs (j : Int)).f1.length := ⟨_, rfl⟩; rw [← hn] at HD hx2; clear hx0 hx1 hl2 hi2 hn HA; by_cases hc : n > 20
   ·have hc1 : decide (20 < (n : Int)) = true := decide_eq_true (by omega); have hc2 : decide (20 < n) = true := decide_eq_true hc; clear hc; go_wp2
    go_ret
    exact ⟨_, rfl, fun h => by simp at h, HB.out⟩
   ·have hc1 : decide (20 < (n : Int)) = false := decide_eq_false (by omega); have hc2 : decide (20 < n) = false := decide_eq_false hc; have HC := aa.mk (show n ≤ 20 by omega); clear hc; go_wp2
    go_roundw
    (case rel => exact ⟨j + 1, by omega, by omega, by go_num, ⟨fun k hk => HD.out k hk HC.out⟩, HB, BX⟩); case measure => simp [intOf]; omega
  ·have HM := aa.mk (show hs.length ≤ 20 → ∀ h ∈ hs, h.f1.length ≤ 20 by
    intro hl h hm; obtain ⟨k, hk, rfl⟩ := List.getElem_of_mem hm; have := HA.out k (by omega)
    rwa [lN hs k hk] at this)
   (have hex : (hs.length : Int) ≤ j ∨ ((j : Int) < hs.length ∧ (20 : Int) ≤ j) := by omega); clear HA hjl hj hj20; rcases hex with hk1 | ⟨hk1, hk2⟩
   ·have hj1 : decide ((j : Int) < (hs.length : Int)) = false := decide_eq_false (by omega); go_wp2; clear hz0 hz4 hj1 hk1
    go_loopw [4] (fun v2 wr => ∃ (j : Nat), j ≤ sq.length ∧ j ≤ 20 ∧ v2 = .int .i64 j ∧ aa (∀ k : Nat, k < j → (dn sq (k : Int)).length ≤ 20) ∧ aa (Below w.heap.size w wr) ∧ aa (wr.heap[w.heap.size]? = some (.cells #[.slice A1 hs.length c1, .int .i64 W, .int .i64 S, .int .i64 t, .slice A4 sq.length c4] 25 (0, 0)))) (fun v2 _ => 20 - (intOf v2).toNat)
    case atStart => exact ⟨0, by omega, by omega, rfl, ⟨fun k hk => by omega⟩, HB, BX⟩
    case round =>
     clear HB BX; obtain ⟨j, hj, hj20, rfl, HA, HB, BX⟩ := hrel; have hz0 : wr.cell? ⟨w.heap.size, 0, none⟩ = some (.slice A1 hs.length c1) := (af BX.out 0).trans rfl; have hz4 : wr.cell? ⟨w.heap.size, 4, none⟩ = some (.slice A4 sq.length c4) := (af BX.out 4).trans rfl; by_cases hjl : j < sq.length ∧ j < 20
     ·have hj1 : decide ((j : Int) < (sq.length : Int)) = true := decide_eq_true (by omega); have hj2 : decide ((j : Int) < 20) = true := decide_eq_true (by omega); (have hjlt : (j : Int) < (sq.length : Int) := by omega); (have hjlt2 : (j : Int) < 20 := by omega); obtain ⟨ad, Ah, ch, e, hx0, hl2, hi2⟩ := xI (Kd.aT HR.out HB.out) (j : Int) (by omega) (by omega); cases e; rw [Int.toNat_natCast] at hx0
      have HD := aa.mk (show ∀ k : Nat, k < j + 1 → (dn sq (j : Int)).length ≤ 20 → (dn sq (k : Int)).length ≤ 20 by
       intro k hk h; rcases Nat.lt_or_ge k j with h' | h'
       ·exact HA.out k h'
       ·obtain rfl : k = j := by omega
        exact h)
      obtain ⟨n, hn⟩ : ∃ n, n = (dn sq (j : Int)).length := ⟨_, rfl⟩; rw [← hn] at HD hx0; clear hl2 hi2 hn HA; by_cases hc : n > 20
      ·have hc1 : decide (20 < (n : Int)) = true := decide_eq_true (by omega); have hc2 : decide (20 < n) = true := decide_eq_true hc; clear hc; go_wp2
       go_ret
       exact ⟨_, rfl, fun h => by simp at h, HB.out⟩
      ·have hc1 : decide (20 < (n : Int)) = false := decide_eq_false (by omega); have hc2 : decide (20 < n) = false := decide_eq_false hc; have HC := aa.mk (show n ≤ 20 by omega); clear hc; go_wp2
       go_roundw
       (case rel => exact ⟨j + 1, by omega, by omega, by go_num, ⟨fun k hk => HD.out k hk HC.out⟩, HB, BX⟩); case measure => simp [intOf]; omega
     ·have HM2 := aa.mk (show sq.length ≤ 20 → ∀ q ∈ sq, q.length ≤ 20 by
       intro hl q hm; obtain ⟨k, hk, rfl⟩ := List.getElem_of_mem hm; have := HA.out k (by omega)
       rwa [sW sq k hk] at this)
      (have hex2 : (sq.length : Int) ≤ j ∨ ((j : Int) < sq.length ∧ (20 : Int) ≤ j) := by omega); clear HA hjl hj hj20
      have hend : ∀ b1 b2 : Bool, b1 = decide (20 < hs.length) → b2 = decide (20 < sq.length) → (b1 || b2) = false → kN hs sq := by
       rintro b1 b2 rfl rfl h; simp only [Bool.or_eq_false_iff, decide_eq_false_iff_not, Nat.not_lt] at h; exact ⟨h.1, h.2, HM.out h.1, HM2.out h.2⟩
      have HEND := aa.mk hend; clear hend; rcases hex2 with hk1 | ⟨hk1, hk2⟩
      ·have hj1 : decide ((j : Int) < (sq.length : Int)) = false := decide_eq_false (by omega); by_cases g1 : 20 < hs.length
       ·have g1a : decide (20 < (hs.length : Int)) = true := decide_eq_true (by omega); have g1b : decide (20 < hs.length) = true := decide_eq_true g1; (have g1c : (20 : Int) < hs.length := by omega); go_wp2
        go_ret
        exact ⟨_, rfl, fun h => by simp at h, HB.out⟩
       ·have g1a : decide (20 < (hs.length : Int)) = false := decide_eq_false (by omega); have g1b : decide (20 < hs.length) = false := decide_eq_false g1; by_cases g2 : 20 < sq.length
        ·have g2a : decide (20 < (sq.length : Int)) = true := decide_eq_true (by omega); have g2b : decide (20 < sq.length) = true := decide_eq_true g2; go_wp2
         go_ret
         exact ⟨_, rfl, fun h => by simp at h, HB.out⟩
        ·have g2a : decide (20 < (sq.length : Int)) = false := decide_eq_false (by omega); have g2b : decide (20 < sq.length) = false := decide_eq_false g2; have HSM := aa.mk (HEND.out _ _ rfl rfl (by rw [g1b, g2b]; rfl)); go_wp2
         go_ret
         exact ⟨_, rfl, fun _ => HSM.out, HB.out⟩
      ·have hj1 : decide ((j : Int) < (sq.length : Int)) = true := decide_eq_true (by omega); have hj2 : decide ((j : Int) < 20) = false := decide_eq_false (by omega); by_cases g1 : 20 < hs.length
       ·have g1a : decide (20 < (hs.length : Int)) = true := decide_eq_true (by omega); have g1b : decide (20 < hs.length) = true := decide_eq_true g1; (have g1c : (20 : Int) < hs.length := by omega); go_wp2
        go_ret
        exact ⟨_, rfl, fun h => by simp at h, HB.out⟩
       ·have g1a : decide (20 < (hs.length : Int)) = false := decide_eq_false (by omega); have g1b : decide (20 < hs.length) = false := decide_eq_false g1; by_cases g2 : 20 < sq.length
        ·have g2a : decide (20 < (sq.length : Int)) = true := decide_eq_true (by omega); have g2b : decide (20 < sq.length) = true := decide_eq_true g2; go_wp2
         go_ret
         exact ⟨_, rfl, fun h => by simp at h, HB.out⟩
        ·exfalso; omega
   ·have hj1 : decide ((j : Int) < (hs.length : Int)) = true := decide_eq_true (by omega); have hj2 : decide ((j : Int) < 20) = false := decide_eq_false (by omega); go_wp2; clear hz0 hz4 hj1 hj2 hk1 hk2
    go_loopw [4] (fun v2 wr => ∃ (j : Nat), j ≤ sq.length ∧ j ≤ 20 ∧ v2 = .int .i64 j ∧ aa (∀ k : Nat, k < j → (dn sq (k : Int)).length ≤ 20) ∧ aa (Below w.heap.size w wr) ∧ aa (wr.heap[w.heap.size]? = some (.cells #[.slice A1 hs.length c1, .int .i64 W, .int .i64 S, .int .i64 t, .slice A4 sq.length c4] 25 (0, 0)))) (fun v2 _ => 20 - (intOf v2).toNat)
    case atStart => exact ⟨0, by omega, by omega, rfl, ⟨fun k hk => by omega⟩, HB, BX⟩
    case round =>
     clear HB BX; obtain ⟨j, hj, hj20, rfl, HA, HB, BX⟩ := hrel; have hz0 : wr.cell? ⟨w.heap.size, 0, none⟩ = some (.slice A1 hs.length c1) := (af BX.out 0).trans rfl; have hz4 : wr.cell? ⟨w.heap.size, 4, none⟩ = some (.slice A4 sq.length c4) := (af BX.out 4).trans rfl; by_cases hjl : j < sq.length ∧ j < 20
     ·have hj1 : decide ((j : Int) < (sq.length : Int)) = true := decide_eq_true (by omega); have hj2 : decide ((j : Int) < 20) = true := decide_eq_true (by omega); (have hjlt : (j : Int) < (sq.length : Int) := by omega); (have hjlt2 : (j : Int) < 20 := by omega); obtain ⟨ad, Ah, ch, e, hx0, hl2, hi2⟩ := xI (Kd.aT HR.out HB.out) (j : Int) (by omega) (by omega); cases e; rw [Int.toNat_natCast] at hx0
      have HD := aa.mk (show ∀ k : Nat, k < j + 1 → (dn sq (j : Int)).length ≤ 20 → (dn sq (k : Int)).length ≤ 20 by
       intro k hk h; rcases Nat.lt_or_ge k j with h' | h'
       ·exact HA.out k h'
       ·obtain rfl : k = j := by omega
        exact h)
      obtain ⟨n, hn⟩ : ∃ n, n = (dn sq (j : Int)).length := ⟨_, rfl⟩; rw [← hn] at HD hx0; clear hl2 hi2 hn HA; by_cases hc : n > 20
      ·have hc1 : decide (20 < (n : Int)) = true := decide_eq_true (by omega); have hc2 : decide (20 < n) = true := decide_eq_true hc; clear hc; go_wp2
       go_ret
       exact ⟨_, rfl, fun h => by simp at h, HB.out⟩
      ·have hc1 : decide (20 < (n : Int)) = false := decide_eq_false (by omega); have hc2 : decide (20 < n) = false := decide_eq_false hc; have HC := aa.mk (show n ≤ 20 by omega); clear hc; go_wp2
       go_roundw
       (case rel => exact ⟨j + 1, by omega, by omega, by go_num, ⟨fun k hk => HD.out k hk HC.out⟩, HB, BX⟩); case measure => simp [intOf]; omega
     ·have HM2 := aa.mk (show sq.length ≤ 20 → ∀ q ∈ sq, q.length ≤ 20 by
       intro hl q hm; obtain ⟨k, hk, rfl⟩ := List.getElem_of_mem hm; have := HA.out k (by omega)
       rwa [sW sq k hk] at this)
      (have hex2 : (sq.length : Int) ≤ j ∨ ((j : Int) < sq.length ∧ (20 : Int) ≤ j) := by omega); clear HA hjl hj hj20
      have hend : ∀ b1 b2 : Bool, b1 = decide (20 < hs.length) → b2 = decide (20 < sq.length) → (b1 || b2) = false → kN hs sq := by
       rintro b1 b2 rfl rfl h; simp only [Bool.or_eq_false_iff, decide_eq_false_iff_not, Nat.not_lt] at h; exact ⟨h.1, h.2, HM.out h.1, HM2.out h.2⟩
      have HEND := aa.mk hend; clear hend; rcases hex2 with hk1 | ⟨hk1, hk2⟩
      ·have hj1 : decide ((j : Int) < (sq.length : Int)) = false := decide_eq_false (by omega); by_cases g1 : 20 < hs.length
       ·have g1a : decide (20 < (hs.length : Int)) = true := decide_eq_true (by omega); have g1b : decide (20 < hs.length) = true := decide_eq_true g1; (have g1c : (20 : Int) < hs.length := by omega); go_wp2
        go_ret
        exact ⟨_, rfl, fun h => by simp at h, HB.out⟩
       ·have g1a : decide (20 < (hs.length : Int)) = false := decide_eq_false (by omega); have g1b : decide (20 < hs.length) = false := decide_eq_false g1; by_cases g2 : 20 < sq.length
        ·have g2a : decide (20 < (sq.length : Int)) = true := decide_eq_true (by omega); have g2b : decide (20 < sq.length) = true := decide_eq_true g2; go_wp2
         go_ret
         exact ⟨_, rfl, fun h => by simp at h, HB.out⟩
        ·have g2a : decide (20 < (sq.length : Int)) = false := decide_eq_false (by omega); have g2b : decide (20 < sq.length) = false := decide_eq_false g2; have HSM := aa.mk (HEND.out _ _ rfl rfl (by rw [g1b, g2b]; rfl)); go_wp2
         go_ret
         exact ⟨_, rfl, fun _ => HSM.out, HB.out⟩
      ·have hj1 : decide ((j : Int) < (sq.length : Int)) = true := decide_eq_true (by omega); have hj2 : decide ((j : Int) < 20) = false := decide_eq_false (by omega); by_cases g1 : 20 < hs.length
       ·have g1a : decide (20 < (hs.length : Int)) = true := decide_eq_true (by omega); have g1b : decide (20 < hs.length) = true := decide_eq_true g1; (have g1c : (20 : Int) < hs.length := by omega); go_wp2
        go_ret
        exact ⟨_, rfl, fun h => by simp at h, HB.out⟩
       ·have g1a : decide (20 < (hs.length : Int)) = false := decide_eq_false (by omega); have g1b : decide (20 < hs.length) = false := decide_eq_false g1; by_cases g2 : 20 < sq.length
        ·have g2a : decide (20 < (sq.length : Int)) = true := decide_eq_true (by omega); have g2b : decide (20 < sq.length) = true := decide_eq_true g2; go_wp2
         go_ret
         exact ⟨_, rfl, fun h => by simp at h, HB.out⟩
        ·exfalso; omega
end Go.Proofs.Ytihedeofkhapiaa.Pr
end
section
namespace Go.Proofs.Ytihedeofkhapiaa.Pr
open Go.RowKit Go.Proofs.YtihedeofkhapiaaW.PrintWords Go.Proofs.YtihedeofkhapiaaW.PrintLast Go.Proofs.YtihedeofkhapiaaW.PrintMore
attribute [local go_sem high] aco Yo aeg
def Al.T5 : Bool × List (List Nat × List Nat) := (true, [([], []), ([0], [0]), ([], []), ([1, 2], [1, 2]), ([3], [3]), ([], []), ([5], [5]), ([], []), ([6, 7], [6, 7]), ([8], [8]), ([], []), ([], []), ([10, 4, 0, 1, 2, 3, 4, 10, 11], [4, 10]), ([11, 9, 12, 0, 1, 2, 3, 4, 5, 6, 7, 8, 9, 10, 11, 12], [9, 11])])
def Al.B5 : List Nat := [0, 1, 0, 7, 15, 0, 32, 0, 224, 480, 0, 0, 3103, 8191]
theorem Al.Pm : lS .any (opsOf Try.f23 5) = Al.T5 := by kernel_rfl
theorem Al.II : kI Al.T5.2 Al.B5 = true := by kernel_rfl
section
variable {W : World} {g g' : Nat} {t t' : TypeId} {a b c : Value} {cs : Array Value}
theorem EE (h : W.heap[g]? = some (.cells #[a, b, c] t (0, 0))) (x y z : Value) : (((W.setCell ⟨g, 0, none⟩ x).setCell ⟨g, 1, none⟩ y).setCell ⟨g, 2, none⟩ z).heap[g]? = some (.cells #[x, y, z] t (0, 0)) := bJ (bJ (bJ h 0 x rfl) 1 y rfl) 2 z rfl
theorem qz (h : W.heap[g']? = some (.cells cs t (0, 0))) (hne : g' ≠ g) (x y z : Value) : (((W.setCell ⟨g, 0, none⟩ x).setCell ⟨g, 1, none⟩ y).setCell ⟨g, 2, none⟩ z).heap[g']? = some (.cells cs t (0, 0)) := aY (aY (aY h hne _) hne _) hne _
theorem yJ {w : World} (h : Below w.heap.size w W) (hg : w.heap.size ≤ g) (x y z : Value) : Below w.heap.size w (((W.setCell ⟨g, 0, none⟩ x).setCell ⟨g, 1, none⟩ y).setCell ⟨g, 2, none⟩ z) := bZ (bZ (bZ h hg) hg) hg
end
set_option maxRecDepth 100000 in
set_option maxHeartbeats 8000000 in
theorem Kl (A1 B1 A4 B4 : Option Addr) (c1 d1 c4 d4 : Nat) (hs : List S66) (W S t : Int) (sq : List (List S27)) (w : World)
 (hh : Kd.C k66 w A1 hs.length hs) (hr : Kd.C (Kd.slice 27 k27) w A4 sq.length sq) (hh' : Kd.C k66 w B1 hs.length hs) (hr' : Kd.C (Kd.slice 27 k27) w B4 sq.length sq) (hsm : kN hs sq) :
 Calls Try.prog 23 #[.agg #[.slice A1 hs.length c1, .int .i64 W, .int .i64 S, .int .i64 t, .slice A4 sq.length c4], .agg #[.slice B1 hs.length d1, .int .i64 W, .int .i64 S, .int .i64 t, .slice B4 sq.length d4]] w fun e w' => e = .returned (.bool true) ∧ Below w.heap.size w w' := by
 have HA := aa.mk hh; have HB4 := aa.mk hr; have HC := aa.mk hh'; have HD4 := aa.mk hr'; have HL1 := aa.mk hsm.1; have HL2 := aa.mk hsm.2.1; have HL3 := aa.mk hsm.2.2.1; have HL4 := aa.mk hsm.2.2.2; clear hh hr hh' hr' hsm; go_enter Try.func23, Try.ntmps23; (go_upto_region 1 with (fail)); obtain ⟨W1, hW1⟩ : ∃ W1, W1 = (w.alloc (.cells #[.slice A1 hs.length c1, .int .i64 W, .int .i64 S, .int .i64 t, .slice A4 sq.length c4] 25)).alloc (.cells #[.slice B1 hs.length d1, .int .i64 W, .int .i64 S, .int .i64 t, .slice B4 sq.length d4] 25) := ⟨_, rfl⟩; have HB := aa.mk (show Below w.heap.size w W1 by rw [hW1]; exact aA (aA (Below.refl _ _) _) _); have BXa := aa.mk (show W1.heap[w.heap.size]? = some (.cells #[.slice A1 hs.length c1, .int .i64 W, .int .i64 S, .int .i64 t, .slice A4 sq.length c4] 25 (0, 0)) by rw [hW1]; exact cK (heap_alloc_new w _) _)
 have BXb := aa.mk (show W1.heap[w.heap.size + 1]? = some (.cells #[.slice B1 hs.length d1, .int .i64 W, .int .i64 S, .int .i64 t, .slice B4 sq.length d4] 25 (0, 0)) by
  rw [hW1]; have := heap_alloc_new (w.alloc (.cells #[.slice A1 hs.length c1, .int .i64 W, .int .i64 S, .int .i64 t, .slice A4 sq.length c4] 25)) (.cells #[.slice B1 hs.length d1, .int .i64 W, .int .i64 S, .int .i64 t, .slice B4 sq.length d4] 25)
  rwa [World.size_alloc] at this)
 have hW1' : W1 = _ := hW1; (first | rw [← hW1] | skip); clear hW1 hW1'; have ha0 : W1.cell? ⟨w.heap.size, 0, none⟩ = some (.slice A1 hs.length c1) := (af BXa.out 0).trans rfl; have hb0 : W1.cell? ⟨w.heap.size + 1, 0, none⟩ = some (.slice B1 hs.length d1) := (af BXb.out 0).trans rfl; have ha1 : W1.cell? ⟨w.heap.size, 1, none⟩ = some (.int .i64 W) := (af BXa.out 1).trans rfl; have hb1 : W1.cell? ⟨w.heap.size + 1, 1, none⟩ = some (.int .i64 W) := (af BXb.out 1).trans rfl; have ha2 : W1.cell? ⟨w.heap.size, 2, none⟩ = some (.int .i64 S) := (af BXa.out 2).trans rfl; have hb2 : W1.cell? ⟨w.heap.size + 1, 2, none⟩ = some (.int .i64 S) := (af BXb.out 2).trans rfl; have ha3 : W1.cell? ⟨w.heap.size, 3, none⟩ = some (.int .i64 t) := (af BXa.out 3).trans rfl; have hb3 : W1.cell? ⟨w.heap.size + 1, 3, none⟩ = some (.int .i64 t) := (af BXb.out 3).trans rfl; have ha4 : W1.cell? ⟨w.heap.size, 4, none⟩ = some (.slice A4 sq.length c4) := (af BXa.out 4).trans rfl; have hb4 : W1.cell? ⟨w.heap.size + 1, 4, none⟩ = some (.slice B4 sq.length d4) := (af BXb.out 4).trans rfl; go_wp2; clear ha0 ha1 ha2 ha3 ha4 hb0 hb1 hb2 hb3 hb4
 go_loopw [5, 6, 7, 8, 9] (fun v5 v6 v7 v8 v9 wr => ∃ (j : Nat), j ≤ hs.length ∧ v5 = .bool true ∧ v6 = .int .i64 j ∧ aa (Below w.heap.size w wr) ∧ aa (wr.heap[w.heap.size]? = some (.cells #[.slice A1 hs.length c1, .int .i64 W, .int .i64 S, .int .i64 t, .slice A4 sq.length c4] 25 (0, 0))) ∧ aa (wr.heap[w.heap.size + 1]? = some (.cells #[.slice B1 hs.length d1, .int .i64 W, .int .i64 S, .int .i64 t, .slice B4 sq.length d4] 25 (0, 0)))) (fun _ v6 _ _ _ _ => hs.length - (intOf v6).toNat)
 case atStart => exact ⟨0, by omega, rfl, rfl, HB, BXa, BXb⟩
 case round =>
  clear HB BXa BXb; obtain ⟨j, hj, rfl, rfl, HB, BXa, BXb⟩ := hrel; have ha0 : wr.cell? ⟨w.heap.size, 0, none⟩ = some (.slice A1 hs.length c1) := (af BXa.out 0).trans rfl; have hb0 : wr.cell? ⟨w.heap.size + 1, 0, none⟩ = some (.slice B1 hs.length d1) := (af BXb.out 0).trans rfl; by_cases hjl : j < hs.length
  ·have hj1 : decide ((j : Int) < (hs.length : Int)) = true := decide_eq_true (by omega); (have hjlt : (j : Int) < (hs.length : Int) := by omega); (have hj20 : (j : Int) < 20 := by have := HL1.out; omega); obtain ⟨ad, Ah, ch, e, hx0, hx1, hx2, hl2, hi2⟩ := nH HA.out (j : Int) (by omega) (by omega); cases e; obtain ⟨bd, Bh, dh, e, hy0, hy1, hy2, hl3, hi3⟩ := nH HC.out (j : Int) (by omega) (by omega); cases e; rw [Int.toNat_natCast] at hx0 hx1 hx2 hy0 hy1 hy2; have HSL := aa.mk (show (ai hs (j : Int)).f1.length ≤ 20 by rw [lN hs j hjl]; exact HL3.out _ (List.getElem_mem hjl)); obtain ⟨h, hhd⟩ : ∃ h, h = ai hs (j : Int) := ⟨_, rfl⟩; rw [← hhd] at HSL hx0 hx1 hx2 hy0 hy1 hy2 hl2 hl3 hi2 hi3; have HI2 := aa.mk hi2; have HI3 := aa.mk hi3; have X0 := aa.mk hx0; have X1 := aa.mk hx1; have X2 := aa.mk hx2; have Y0 := aa.mk hy0; have Y1 := aa.mk hy1; have Y2 := aa.mk hy2; clear hhd hi2 hi3 hl2 hl3 hx0 hx1 hx2 hy0 hy1 hy2; (go_wp2_with (fail)); have nB := aa.mk (dV HB.out); have nX := aa.mk (dD BXa.out); have nY := aa.mk (dD BXb.out); clear HB BXa BXb ha0 hb0; have HB := nB; have BXa := nX; have BXb := nY; clear nB nX nY; refine oF (n := 14) (S := fun w' => w'.cell? ⟨w.heap.size, 0, none⟩ = some (.slice (some ad) hs.length c1) ∧ w'.cell? ⟨w.heap.size + 1, 0, none⟩ = some (.slice (some bd) hs.length d1) ∧ w'.cell? (ad.add (j * 3)) = some (.int .i64 h.f0.f0) ∧ w'.cell? ⟨(ad.add (j * 3)).block, (ad.add (j * 3)).off + 1, none⟩ = some (.int .i64 h.f0.f1) ∧ w'.cell? ⟨(ad.add (j * 3)).block, (ad.add (j * 3)).off + 2, none⟩ = some (.slice Ah h.f1.length ch) ∧ w'.cell? (bd.add (j * 3)) = some (.int .i64 h.f0.f0) ∧ w'.cell? ⟨(bd.add (j * 3)).block, (bd.add (j * 3)).off + 1, none⟩ = some (.int .i64 h.f0.f1) ∧ w'.cell? ⟨(bd.add (j * 3)).block, (bd.add (j * 3)).off + 2, none⟩ = some (.slice Bh h.f1.length dh)) (ds := [13]) (ba 14 0) (by kernel_rfl) rfl rfl ⟨(af BXa.out 0).trans rfl, (af BXb.out 0).trans rfl, (HB.out.cell (World.block_lt_of_cell? _ _ X0.out)).trans X0.out, (HB.out.cell (World.block_lt_of_cell? _ _ X1.out)).trans X1.out, (HB.out.cell (World.block_lt_of_cell? _ _ X2.out)).trans X2.out, (HB.out.cell (World.block_lt_of_cell? _ _ Y0.out)).trans Y0.out, (HB.out.cell (World.block_lt_of_cell? _ _ Y1.out)).trans Y1.out, (HB.out.cell (World.block_lt_of_cell? _ _ Y2.out)).trans Y2.out⟩ (fun bB => ?_); refine kw Al.Pm Al.II (fun HT_ HW_ => ?_); refine dO 0 61 (ba 14 1) HT_.out ?_
   refine dO 2 63 (ba 14 5) HT_.out ?_
   refine dO 5 66 (ba 14 37) HT_.out ?_
   refine dO 7 68 (ba 14 165) HT_.out ?_
   refine mR 1 62 (ba 14 167) HT_.out HW_.out bB ?_
   refine dO 3 64 (ba 14 175) HT_.out ?_
   refine mR 4 65 (ba 14 191) HT_.out HW_.out bB ?_
   refine mR 6 67 (ba 14 255) HT_.out HW_.out bB ?_
   refine dO 8 69 (ba 14 511) HT_.out ?_
   refine mR 9 70 (ba 14 1023) HT_.out HW_.out bB ?_
   refine xL (σ := Nat × Nat) 2 (ba 14 4095) (fun s_ => [(7, .pointer (some ⟨s_.1, 0, none⟩)), (8, .pointer (some ⟨s_.2, 0, none⟩))]) (fun s_ w' => (w'.cell? ⟨w.heap.size, 0, none⟩ = some (.slice (some ad) hs.length c1) ∧ w'.cell? ⟨w.heap.size + 1, 0, none⟩ = some (.slice (some bd) hs.length d1) ∧ w'.cell? (ad.add (j * 3)) = some (.int .i64 h.f0.f0) ∧ w'.cell? ⟨(ad.add (j * 3)).block, (ad.add (j * 3)).off + 1, none⟩ = some (.int .i64 h.f0.f1) ∧ w'.cell? ⟨(ad.add (j * 3)).block, (ad.add (j * 3)).off + 2, none⟩ = some (.slice Ah h.f1.length ch) ∧ w'.cell? (bd.add (j * 3)) = some (.int .i64 h.f0.f0) ∧ w'.cell? ⟨(bd.add (j * 3)).block, (bd.add (j * 3)).off + 1, none⟩ = some (.int .i64 h.f0.f1) ∧ w'.cell? ⟨(bd.add (j * 3)).block, (bd.add (j * 3)).off + 2, none⟩ = some (.slice Bh h.f1.length dh)) ∧ w'.heap[s_.1]? = some (.cells #[.int .i64 0, .int .i64 0, .slice none 0 0] 66 (0, 0)) ∧ w'.heap[s_.2]? = some (.cells #[.int .i64 0, .int .i64 0, .slice none 0 0] 66 (0, 0)) ∧ s_.1 ≠ s_.2 ∧ w.heap.size + 1 < s_.1 ∧ w.heap.size + 1 < s_.2 ∧ Below w.heap.size w w' ∧ w'.heap[w.heap.size]? = some (.cells #[.slice (some ad) hs.length c1, .int .i64 W, .int .i64 S, .int .i64 t, .slice A4 sq.length c4] 25 (0, 0)) ∧ w'.heap[w.heap.size + 1]? = some (.cells #[.slice (some bd) hs.length d1, .int .i64 W, .int .i64 S, .int .i64 t, .slice B4 sq.length d4] 25 (0, 0))) ?_ ?_; rotate_left
   ·intro hCont; refine DL 10 11 7 8 (ba 14 2047) (ba 14 3071) HT_.out (fun K hK => ?_) (fun K hK => ?_)
    ·skip; refine rX ?hg (N := 7) ?hd (cs := #[.int .i64 0, .int .i64 0, .slice none 0 0]) (t := 66) ?hr ?_; (case hd => rfl); (case hg => rfl); (case hr => first | (go_simp; done) | (go_simp; rfl)); intro g1 hg w_ hbox hb; have nX := aa.mk (aj BXa.out hb); have nY := aa.mk (aj BXb.out hb); have nB := aa.mk (av HB.out hb); have Gg1 := aa.mk (show w.heap.size + 1 < g1 by rw [hg]; exact bW BXb.out); have Kg1 := aa.mk hbox; clear BXa BXb HB; have BXa := nX; have BXb := nY; have HB := nB; clear nX nY nB hg hbox hb; refine hK.out _ _ ⟨(af BXa.out 0).trans rfl, (af BXb.out 0).trans rfl, (HB.out.cell (World.block_lt_of_cell? _ _ X0.out)).trans X0.out, (HB.out.cell (World.block_lt_of_cell? _ _ X1.out)).trans X1.out, (HB.out.cell (World.block_lt_of_cell? _ _ X2.out)).trans X2.out, (HB.out.cell (World.block_lt_of_cell? _ _ Y0.out)).trans Y0.out, (HB.out.cell (World.block_lt_of_cell? _ _ Y1.out)).trans Y1.out, (HB.out.cell (World.block_lt_of_cell? _ _ Y2.out)).trans Y2.out⟩ (fun bB => ?_); clear hK K; refine kT ?_
     refine on_ 11 (some 8) (ba 14 4095) HT_.out (fun K hK => ?_); refine rX ?hg (N := 8) ?hd (cs := #[.int .i64 0, .int .i64 0, .slice none 0 0]) (t := 66) ?hr ?_; (case hd => rfl); (case hg => rfl); (case hr => first | (go_simp; done) | (go_simp; rfl)); intro g2 hg w_ hbox hb; have nX := aa.mk (aj BXa.out hb); have nY := aa.mk (aj BXb.out hb); have nB := aa.mk (av HB.out hb); have Gg2 := aa.mk (show w.heap.size + 1 < g2 by rw [hg]; exact bW BXb.out); have ng1 := aa.mk (aj Kg1.out hb); have HNE := aa.mk (show g1 ≠ g2 by have := bW Kg1.out; omega); have Kg2 := aa.mk hbox; clear BXa BXb HB Kg1; have BXa := nX; have BXb := nY; have HB := nB; have Kg1 := ng1; clear nX nY nB hg hbox hb ng1; refine hK.out _ _ ⟨(af BXa.out 0).trans rfl, (af BXb.out 0).trans rfl, (HB.out.cell (World.block_lt_of_cell? _ _ X0.out)).trans X0.out, (HB.out.cell (World.block_lt_of_cell? _ _ X1.out)).trans X1.out, (HB.out.cell (World.block_lt_of_cell? _ _ X2.out)).trans X2.out, (HB.out.cell (World.block_lt_of_cell? _ _ Y0.out)).trans Y0.out, (HB.out.cell (World.block_lt_of_cell? _ _ Y1.out)).trans Y1.out, (HB.out.cell (World.block_lt_of_cell? _ _ Y2.out)).trans Y2.out⟩ (fun _ => hCont ⟨g1, g2⟩ _ ⟨⟨(af BXa.out 0).trans rfl, (af BXb.out 0).trans rfl, (HB.out.cell (World.block_lt_of_cell? _ _ X0.out)).trans X0.out, (HB.out.cell (World.block_lt_of_cell? _ _ X1.out)).trans X1.out, (HB.out.cell (World.block_lt_of_cell? _ _ X2.out)).trans X2.out, (HB.out.cell (World.block_lt_of_cell? _ _ Y0.out)).trans Y0.out, (HB.out.cell (World.block_lt_of_cell? _ _ Y1.out)).trans Y1.out, (HB.out.cell (World.block_lt_of_cell? _ _ Y2.out)).trans Y2.out⟩, Kg1.out, Kg2.out, HNE.out, Gg1.out, Gg2.out, HB.out, BXa.out, BXb.out⟩)
    ·skip; refine rX ?hg (N := 8) ?hd (cs := #[.int .i64 0, .int .i64 0, .slice none 0 0]) (t := 66) ?hr ?_; (case hd => rfl); (case hg => rfl); (case hr => first | (go_simp; done) | (go_simp; rfl)); intro g2 hg w_ hbox hb; have nX := aa.mk (aj BXa.out hb); have nY := aa.mk (aj BXb.out hb); have nB := aa.mk (av HB.out hb); have Gg2 := aa.mk (show w.heap.size + 1 < g2 by rw [hg]; exact bW BXb.out); have Kg2 := aa.mk hbox; clear BXa BXb HB; have BXa := nX; have BXb := nY; have HB := nB; clear nX nY nB hg hbox hb; refine hK.out _ _ ⟨(af BXa.out 0).trans rfl, (af BXb.out 0).trans rfl, (HB.out.cell (World.block_lt_of_cell? _ _ X0.out)).trans X0.out, (HB.out.cell (World.block_lt_of_cell? _ _ X1.out)).trans X1.out, (HB.out.cell (World.block_lt_of_cell? _ _ X2.out)).trans X2.out, (HB.out.cell (World.block_lt_of_cell? _ _ Y0.out)).trans Y0.out, (HB.out.cell (World.block_lt_of_cell? _ _ Y1.out)).trans Y1.out, (HB.out.cell (World.block_lt_of_cell? _ _ Y2.out)).trans Y2.out⟩ (fun bB => ?_); clear hK K; refine kT ?_
     refine on_ 10 (some 7) (ba 14 4095) HT_.out (fun K hK => ?_); refine rX ?hg (N := 7) ?hd (cs := #[.int .i64 0, .int .i64 0, .slice none 0 0]) (t := 66) ?hr ?_; (case hd => rfl); (case hg => rfl); (case hr => first | (go_simp; done) | (go_simp; rfl)); intro g1 hg w_ hbox hb; have nX := aa.mk (aj BXa.out hb); have nY := aa.mk (aj BXb.out hb); have nB := aa.mk (av HB.out hb); have Gg1 := aa.mk (show w.heap.size + 1 < g1 by rw [hg]; exact bW BXb.out); have ng2 := aa.mk (aj Kg2.out hb); have HNE := aa.mk (show g2 ≠ g1 by have := bW Kg2.out; omega); have Kg1 := aa.mk hbox; clear BXa BXb HB Kg2; have BXa := nX; have BXb := nY; have HB := nB; have Kg2 := ng2; clear nX nY nB hg hbox hb ng2; refine hK.out _ _ ⟨(af BXa.out 0).trans rfl, (af BXb.out 0).trans rfl, (HB.out.cell (World.block_lt_of_cell? _ _ X0.out)).trans X0.out, (HB.out.cell (World.block_lt_of_cell? _ _ X1.out)).trans X1.out, (HB.out.cell (World.block_lt_of_cell? _ _ X2.out)).trans X2.out, (HB.out.cell (World.block_lt_of_cell? _ _ Y0.out)).trans Y0.out, (HB.out.cell (World.block_lt_of_cell? _ _ Y1.out)).trans Y1.out, (HB.out.cell (World.block_lt_of_cell? _ _ Y2.out)).trans Y2.out⟩ (fun _ => hCont ⟨g1, g2⟩ _ ⟨⟨(af BXa.out 0).trans rfl, (af BXb.out 0).trans rfl, (HB.out.cell (World.block_lt_of_cell? _ _ X0.out)).trans X0.out, (HB.out.cell (World.block_lt_of_cell? _ _ X1.out)).trans X1.out, (HB.out.cell (World.block_lt_of_cell? _ _ X2.out)).trans X2.out, (HB.out.cell (World.block_lt_of_cell? _ _ Y0.out)).trans Y0.out, (HB.out.cell (World.block_lt_of_cell? _ _ Y1.out)).trans Y1.out, (HB.out.cell (World.block_lt_of_cell? _ _ Y2.out)).trans Y2.out⟩, Kg1.out, Kg2.out, HNE.out.symm, Gg1.out, Gg2.out, HB.out, BXa.out, BXb.out⟩)
   rintro ⟨g1, g2⟩ w7 ⟨bB, k1, k2, hne, hg1, hg2, hb, hxa, hxb⟩; clear HB BXa BXb; have HB := aa.mk hb; have BXa := aa.mk hxa; have BXb := aa.mk hxb; have K1 := aa.mk k1; have K2 := aa.mk k2; have NE := aa.mk hne; have G1 := aa.mk hg1; have G2 := aa.mk hg2; clear hb hxa hxb k1 k2 hne hg1 hg2; refine D5 ?_
   refine on_ 12 none (ba 14 8191) HT_.out (fun K hK => ?_); have hs0 : w7.cell? ⟨g1, 0, none⟩ = some (.int .i64 0) := (af K1.out 0).trans rfl; have hf0 := aK K1.out 0; have hs1 : w7.cell? ⟨g1, 1, none⟩ = some (.int .i64 0) := (af K1.out 1).trans rfl; have hf1 := aK K1.out 1; have hs2 : w7.cell? ⟨g1, 2, none⟩ = some (.slice none 0 0) := (af K1.out 2).trans rfl; have hf2 := aK K1.out 2; obtain ⟨w8, hw8⟩ : ∃ x, x = ((w7.setCell ⟨g1, 0, none⟩ (.int .i64 h.f0.f0)).setCell ⟨g1, 1, none⟩ (.int .i64 h.f0.f1)).setCell ⟨g1, 2, none⟩ (.slice Ah h.f1.length ch) := ⟨_, rfl⟩; refine sU (w1 := w8) (by rfl) rfl ?_ ?_
   ·rw [hw8]; first | (go_simp; done) | (go_simp; rfl)
   have n1 := aa.mk (show w8.heap[g1]? = some (.cells #[.int .i64 h.f0.f0, .int .i64 h.f0.f1, .slice Ah h.f1.length ch] 66 (0, 0)) by rw [hw8]; exact EE K1.out _ _ _); have n2 := aa.mk (show w8.heap[g2]? = some (.cells #[.int .i64 0, .int .i64 0, .slice none 0 0] 66 (0, 0)) by rw [hw8]; exact qz K2.out NE.out.symm _ _ _); have nX := aa.mk (show w8.heap[w.heap.size]? = some (.cells #[.slice (some ad) hs.length c1, .int .i64 W, .int .i64 S, .int .i64 t, .slice A4 sq.length c4] 25 (0, 0)) by rw [hw8]; exact qz BXa.out (by have := G1.out; omega) _ _ _); have nY := aa.mk (show w8.heap[w.heap.size + 1]? = some (.cells #[.slice (some bd) hs.length d1, .int .i64 W, .int .i64 S, .int .i64 t, .slice B4 sq.length d4] 25 (0, 0)) by rw [hw8]; exact qz BXb.out (by have := G1.out; omega) _ _ _); have nB := aa.mk (show Below w.heap.size w w8 by rw [hw8]; exact yJ HB.out (by have := G1.out; omega) _ _ _); clear BXa BXb HB K1 K2 hs0 hs1 hs2 hf0 hf1 hf2 hw8; have BXa := nX; have BXb := nY; have HB := nB; have K1 := n1; have K2 := n2; clear n1 n2 nX nY nB; refine hK.out _ _ ⟨(af BXa.out 0).trans rfl, (af BXb.out 0).trans rfl, (HB.out.cell (World.block_lt_of_cell? _ _ X0.out)).trans X0.out, (HB.out.cell (World.block_lt_of_cell? _ _ X1.out)).trans X1.out, (HB.out.cell (World.block_lt_of_cell? _ _ X2.out)).trans X2.out, (HB.out.cell (World.block_lt_of_cell? _ _ Y0.out)).trans Y0.out, (HB.out.cell (World.block_lt_of_cell? _ _ Y1.out)).trans Y1.out, (HB.out.cell (World.block_lt_of_cell? _ _ Y2.out)).trans Y2.out⟩ (fun bB => ?_); clear hK K; refine BC 13 none (ba 14 16383) HT_.out (fun K hK => ?_); have hs0 : w8.cell? ⟨g2, 0, none⟩ = some (.int .i64 0) := (af K2.out 0).trans rfl; have hf0 := aK K2.out 0; have hs1 : w8.cell? ⟨g2, 1, none⟩ = some (.int .i64 0) := (af K2.out 1).trans rfl; have hf1 := aK K2.out 1; have hs2 : w8.cell? ⟨g2, 2, none⟩ = some (.slice none 0 0) := (af K2.out 2).trans rfl; have hf2 := aK K2.out 2; obtain ⟨w9, hw9⟩ : ∃ x, x = ((w8.setCell ⟨g2, 0, none⟩ (.int .i64 h.f0.f0)).setCell ⟨g2, 1, none⟩ (.int .i64 h.f0.f1)).setCell ⟨g2, 2, none⟩ (.slice Bh h.f1.length dh) := ⟨_, rfl⟩; refine sU (w1 := w9) (by rfl) rfl ?_ ?_
   ·rw [hw9]; first | (go_simp; done) | (go_simp; rfl)
   have n1 := aa.mk (show w9.heap[g2]? = some (.cells #[.int .i64 h.f0.f0, .int .i64 h.f0.f1, .slice Bh h.f1.length dh] 66 (0, 0)) by rw [hw9]; exact EE K2.out _ _ _); have n2 := aa.mk (show w9.heap[g1]? = some (.cells #[.int .i64 h.f0.f0, .int .i64 h.f0.f1, .slice Ah h.f1.length ch] 66 (0, 0)) by rw [hw9]; exact qz K1.out NE.out _ _ _); have nX := aa.mk (show w9.heap[w.heap.size]? = some (.cells #[.slice (some ad) hs.length c1, .int .i64 W, .int .i64 S, .int .i64 t, .slice A4 sq.length c4] 25 (0, 0)) by rw [hw9]; exact qz BXa.out (by have := G2.out; omega) _ _ _); have nY := aa.mk (show w9.heap[w.heap.size + 1]? = some (.cells #[.slice (some bd) hs.length d1, .int .i64 W, .int .i64 S, .int .i64 t, .slice B4 sq.length d4] 25 (0, 0)) by rw [hw9]; exact qz BXb.out (by have := G2.out; omega) _ _ _); have nB := aa.mk (show Below w.heap.size w w9 by rw [hw9]; exact yJ HB.out (by have := G2.out; omega) _ _ _); clear BXa BXb HB K1 K2 hs0 hs1 hs2 hf0 hf1 hf2 hw9; have BXa := nX; have BXb := nY; have HB := nB; have K2 := n1; have K1 := n2; clear n1 n2 nX nY nB; refine hK.out _ _ ?_; clear hK K; refine zN HT_.out ?_; clear bB; have hg10 : w9.cell? ⟨g1, 0, none⟩ = some (.int .i64 h.f0.f0) := (af K1.out 0).trans rfl; have hg11 : w9.cell? ⟨g1, 1, none⟩ = some (.int .i64 h.f0.f1) := (af K1.out 1).trans rfl; have hg12 : w9.cell? ⟨g1, 2, none⟩ = some (.slice Ah h.f1.length ch) := (af K1.out 2).trans rfl; have hg20 : w9.cell? ⟨g2, 0, none⟩ = some (.int .i64 h.f0.f0) := (af K2.out 0).trans rfl; have hg21 : w9.cell? ⟨g2, 1, none⟩ = some (.int .i64 h.f0.f1) := (af K2.out 1).trans rfl; have hg22 : w9.cell? ⟨g2, 2, none⟩ = some (.slice Bh h.f1.length dh) := (af K2.out 2).trans rfl; go_wp2
   go_loopw [5, 9] (fun v5 v9 wr => ∃ (i : Nat), i ≤ h.f1.length ∧ v5 = .bool true ∧ v9 = .int .i64 i ∧ aa (Below w.heap.size w wr) ∧ aa (wr.heap[w.heap.size]? = some (.cells #[.slice (some ad) hs.length c1, .int .i64 W, .int .i64 S, .int .i64 t, .slice A4 sq.length c4] 25 (0, 0))) ∧ aa (wr.heap[w.heap.size + 1]? = some (.cells #[.slice (some bd) hs.length d1, .int .i64 W, .int .i64 S, .int .i64 t, .slice B4 sq.length d4] 25 (0, 0))) ∧ aa (wr.heap[g1]? = some (.cells #[.int .i64 h.f0.f0, .int .i64 h.f0.f1, .slice Ah h.f1.length ch] 66 (0, 0))) ∧ aa (wr.heap[g2]? = some (.cells #[.int .i64 h.f0.f0, .int .i64 h.f0.f1, .slice Bh h.f1.length dh] 66 (0, 0)))) (fun _ v9 _ => h.f1.length - (intOf v9).toNat)
   case atStart => exact ⟨0, by omega, rfl, rfl, HB, BXa, BXb, K1, K2⟩
   case round =>
    clear HB BXa BXb K1 K2; obtain ⟨i, hi, rfl, rfl, HB, BXa, BXb, K1, K2⟩ := hrel; have hq2 : wr.cell? ⟨g1, 2, none⟩ = some (.slice Ah h.f1.length ch) := (af K1.out 2).trans rfl; have hr2 : wr.cell? ⟨g2, 2, none⟩ = some (.slice Bh h.f1.length dh) := (af K2.out 2).trans rfl; by_cases hil : i < h.f1.length
    ·have hi1 : decide ((i : Int) < (h.f1.length : Int)) = true := decide_eq_true (by omega); (have hilt : (i : Int) < (h.f1.length : Int) := by omega); (have hi20 : (i : Int) < 20 := by have := HSL.out; omega); obtain ⟨ed, e, hp0, hp1⟩ := nk (Kd.aT HI2.out HB.out) (i : Int) (by omega) (by omega); cases e; obtain ⟨fd, e, ho0, ho1⟩ := nk (Kd.aT HI3.out HB.out) (i : Int) (by omega) (by omega); cases e; rw [Int.toNat_natCast] at hp0 hp1 ho0 ho1; obtain ⟨p, hp⟩ : ∃ p, p = ak h.f1 (i : Int) := ⟨_, rfl⟩; rw [← hp] at hp0 hp1 ho0 ho1; clear hp; go_wp2; go_quiet (fail); go_wp2
     go_roundw
     (case rel => exact ⟨i + 1, by omega, rfl, by go_num, ⟨dw HB.out _⟩, ⟨fC BXa.out _⟩, ⟨fC BXb.out _⟩, ⟨fC K1.out _⟩, ⟨fC K2.out _⟩⟩); case measure => simp [intOf]; omega
    ·(obtain rfl : i = h.f1.length := by omega); (have hi1 : decide ((h.f1.length : Int) < (h.f1.length : Int)) = false := by simp); go_wp2
     go_roundw
     (case rel => exact ⟨j + 1, by omega, rfl, by go_num, HB, BXa, BXb⟩); case measure => simp [intOf]; omega
  ·(obtain rfl : j = hs.length := by omega); (have hj1 : decide ((hs.length : Int) < (hs.length : Int)) = false := by simp); go_wp2; clear ha0 hb0 hj1
   go_loopw [5, 10, 11, 12, 13] (fun v5 v10 v11 v12 v13 wr => ∃ (j : Nat), j ≤ sq.length ∧ v5 = .bool true ∧ v10 = .int .i64 j ∧ aa (Below w.heap.size w wr) ∧ aa (wr.heap[w.heap.size]? = some (.cells #[.slice A1 hs.length c1, .int .i64 W, .int .i64 S, .int .i64 t, .slice A4 sq.length c4] 25 (0, 0))) ∧ aa (wr.heap[w.heap.size + 1]? = some (.cells #[.slice B1 hs.length d1, .int .i64 W, .int .i64 S, .int .i64 t, .slice B4 sq.length d4] 25 (0, 0)))) (fun _ v10 _ _ _ _ => sq.length - (intOf v10).toNat)
   case atStart => exact ⟨0, by omega, rfl, rfl, HB, BXa, BXb⟩
   case round =>
    clear HB BXa BXb; obtain ⟨j, hj, rfl, rfl, HB, BXa, BXb⟩ := hrel; have ha4 : wr.cell? ⟨w.heap.size, 4, none⟩ = some (.slice A4 sq.length c4) := (af BXa.out 4).trans rfl; have hb4 : wr.cell? ⟨w.heap.size + 1, 4, none⟩ = some (.slice B4 sq.length d4) := (af BXb.out 4).trans rfl; by_cases hjl : j < sq.length
    ·have hj1 : decide ((j : Int) < (sq.length : Int)) = true := decide_eq_true (by omega); (have hjlt : (j : Int) < (sq.length : Int) := by omega); (have hj20 : (j : Int) < 20 := by have := HL2.out; omega); obtain ⟨ad, Ah, ch, e, hx0, hl2, hi2⟩ := xI (Kd.aT HB4.out HB.out) (j : Int) (by omega) (by omega); cases e; obtain ⟨bd, Bh, dh, e, hy0, hl3, hi3⟩ := xI (Kd.aT HD4.out HB.out) (j : Int) (by omega) (by omega); cases e; rw [Int.toNat_natCast] at hx0 hy0; have HSL := aa.mk (show (dn sq (j : Int)).length ≤ 20 by rw [sW sq j hjl]; exact HL4.out _ (List.getElem_mem hjl)); obtain ⟨q, hqd⟩ : ∃ q, q = dn sq (j : Int) := ⟨_, rfl⟩; rw [← hqd] at HSL hx0 hy0 hl2 hl3 hi2 hi3; have HI2 := aa.mk hi2; have HI3 := aa.mk hi3; clear hqd hi2 hi3 hl2 hl3; go_wp2; go_quiet (fail); have nB := aa.mk (dw HB.out nq); have nX := aa.mk (fC BXa.out nq); have nY := aa.mk (fC BXb.out nq); have nI := aa.mk (Kd.Mo HI2.out nq); have nJ := aa.mk (Kd.Mo HI3.out nq); clear HB BXa BXb HI2 HI3 hx0 hy0 ha4 hb4; have HB := nB; have BXa := nX; have BXb := nY; have HI2 := nI; have HI3 := nJ; clear nB nX nY nI nJ; go_wp2; obtain ⟨ws, hws⟩ : ∃ ws, ws = wr.drewN nq := ⟨_, rfl⟩; rw [← hws] at HB BXa BXb HI2 HI3 ⊢; clear hws
     go_loopw [5, 13] (fun v5 v13 wt => ∃ (i : Nat), i ≤ q.length ∧ v5 = .bool true ∧ v13 = .int .i64 i ∧ aa (Below w.heap.size w wt) ∧ aa (wt.heap[w.heap.size]? = some (.cells #[.slice A1 hs.length c1, .int .i64 W, .int .i64 S, .int .i64 t, .slice (some ad) sq.length c4] 25 (0, 0))) ∧ aa (wt.heap[w.heap.size + 1]? = some (.cells #[.slice B1 hs.length d1, .int .i64 W, .int .i64 S, .int .i64 t, .slice (some bd) sq.length d4] 25 (0, 0))) ∧ aa (Below ws.heap.size ws wt)) (fun _ v13 _ => q.length - (intOf v13).toNat)
     case atStart => exact ⟨0, by omega, rfl, rfl, HB, BXa, BXb, ⟨Below.refl _ _⟩⟩
     case round =>
      clear HB BXa BXb; obtain ⟨i, hi, rfl, rfl, HB, BXa, BXb, HWS⟩ := hrel; by_cases hil : i < q.length
      ·have hi1 : decide ((i : Int) < (q.length : Int)) = true := decide_eq_true (by omega); (have hilt : (i : Int) < (q.length : Int) := by omega); (have hi20 : (i : Int) < 20 := by have := HSL.out; omega); obtain ⟨ed, e, hp0, hp1⟩ := wD (Kd.aT HI2.out HWS.out) (i : Int) (by omega) (by omega); cases e; obtain ⟨fd, e, ho0, ho1⟩ := wD (Kd.aT HI3.out HWS.out) (i : Int) (by omega) (by omega); cases e; rw [Int.toNat_natCast] at hp0 hp1 ho0 ho1; obtain ⟨p, hp⟩ : ∃ p, p = eG q (i : Int) := ⟨_, rfl⟩; rw [← hp] at hp0 hp1 ho0 ho1; clear hp; go_wp2; go_quiet (fail); go_wp2
       go_roundw
       (case rel => exact ⟨i + 1, by omega, rfl, by go_num, ⟨dw HB.out _⟩, ⟨fC BXa.out _⟩, ⟨fC BXb.out _⟩, ⟨dw HWS.out _⟩⟩); case measure => simp [intOf]; omega
      ·(obtain rfl : i = q.length := by omega); (have hi1 : decide ((q.length : Int) < (q.length : Int)) = false := by simp); go_wp2
       go_roundw
       (case rel => exact ⟨j + 1, by omega, rfl, by go_num, HB, BXa, BXb⟩); case measure => simp [intOf]; omega
    ·(obtain rfl : j = sq.length := by omega); (have hj1 : decide ((sq.length : Int) < (sq.length : Int)) = false := by simp); go_wp2
     go_ret
     exact ⟨rfl, HB.out⟩
end Go.Proofs.Ytihedeofkhapiaa.Pr
end
section
namespace Go.Proofs.Ytihedeofkhapiaa.Pr
open Go.RowKit Go.Proofs.YtihedeofkhapiaaW.PrintWords Go.Proofs.YtihedeofkhapiaaW.PrintLast Go.Proofs.YtihedeofkhapiaaW.PrintMore
attribute [local go_sem] nC nA pO oV nP nM pY qa
def kQ (hs : List S66) : Int → Int → List Int → Int × Int
 | lo, hi, [] => (lo, hi)
 | lo, hi, i :: r => kQ hs (mn lo (ai hs i).f0.f0) (mx hi (ai hs i).f0.f1) r
def nK (hs : List S66) (W S t : Int) (sq : List (List S27)) : (Int × Int) × Int :=
 if (eO hs W S t sq).2 = 0 then (kQ hs (ai hs (rd (eO hs W S t sq).1 0)).f0.f0 (ai hs (rd (eO hs W S t sq).1 0)).f0.f1 (eO hs W S t sq).1, 0) else ((0, 0), (eO hs W S t sq).2)
theorem Et (W S t : Int) (sq : List (List S27)) : ∀ (hs : List S66) (j : Nat), ∀ i ∈ eQ W S t sq j hs, (j : Int) ≤ i ∧ i < (j : Int) + hs.length
 | [], _, i, hi => by simp [eQ] at hi
 | h :: r, j, i, hi => by
  have hr := Et W S t sq r (j + 1); rw [eQ] at hi; rw [List.length_cons]; split at hi
  ·rcases List.mem_cons.1 hi with rfl | hi
   ·omega
   ·have := hr i hi; omega
  ·have := hr i hi; omega
theorem EH (W S t : Int) (sq : List (List S27)) : ∀ (hs : List S66) (j : Nat), (eQ W S t sq j hs).length ≤ hs.length
 | [], _ => by simp [eQ]
 | h :: r, j => by
  have := EH W S t sq r (j + 1); rw [eQ]; split
  ·simp; omega
  ·simp; omega
theorem zI {hs : List S66} {W S t : Int} {sq : List (List S27)} (h : (eO hs W S t sq).2 = 0) : (0 < (eO hs W S t sq).1.length ∧ (eO hs W S t sq).1.length ≤ 100) ∧ ∀ i ∈ (eO hs W S t sq).1, 0 ≤ i ∧ i < (hs.length : Int) := by
 unfold eO at h ⊢; by_cases hc : eT hs W S t sq = 0
 ·rw [if_pos hc] at h ⊢; by_cases hn : eQ W S t sq 0 hs = []
  ·rw [if_pos hn] at h; exact absurd h (by decide)
  ·rw [if_neg hn]; have h8 := (lY hc).2.1; have hl := EH W S t sq hs 0; refine ⟨⟨List.length_pos_iff.2 hn, by simp only []; omega⟩, fun i hi => ?_⟩; have := Et W S t sq hs 0 i hi; omega
 ·rw [if_neg hc] at h; exact absurd h hc
theorem Mk {P : Int → Prop} {xs : List Int} (h : ∀ i ∈ xs, P i) (j : Nat) (hj : j < xs.length) : P (rd xs (j : Int)) := by
 (have e : rd xs (j : Int) = xs[j] := by simp [rd, List.getD_eq_getElem?_getD, hj]); rw [e]; exact h _ (List.getElem_mem hj)
theorem BV (hs : List S66) (xs : List Int) (lo hi : Int) (j : Nat) (h : j < xs.length) : kQ hs lo hi (xs.drop j) = kQ hs (mn lo (ai hs (rd xs (j : Int))).f0.f0) (mx hi (ai hs (rd xs (j : Int))).f0.f1) (xs.drop (j + 1)) := by
 (have e : rd xs (j : Int) = xs[j] := by simp [rd, List.getD_eq_getElem?_getD, h]); rw [List.drop_eq_getElem_cons h, kQ, e]
def ny.T4 : Bool × List (List Nat × List Nat) := (true, [([], []), ([0], [0]), ([], []), ([2], [2]), ([3], [3]), ([1, 4], [1, 4]), ([5], [5]), ([6], [6]), ([], []), ([8, 7, 0, 1, 2, 3, 4, 5, 6, 7, 8], [7, 8])])
def ny.B4 : List Nat := [0, 1, 0, 4, 12, 31, 63, 127, 0, 511]
theorem ny.YY : lS .any (opsOf Try.f39 4) = ny.T4 := by kernel_rfl
theorem ny.Sl : kI ny.T4.2 ny.B4 = true := by kernel_rfl
def ny.T8 : Bool × List (List Nat × List Nat) := (true, [([], []), ([0], [0]), ([], []), ([], []), ([2, 3], [2, 3]), ([4], [4]), ([1, 5], [1, 5]), ([6], [6]), ([7], [7]), ([], []), ([9, 8, 0, 1, 2, 3, 4, 5, 6, 7, 8, 9], [8, 9])])
def ny.B8 : List Nat := [0, 1, 0, 0, 12, 28, 63, 127, 255, 0, 1023]
theorem ny.YX : lS .any (opsOf Try.f39 8) = ny.T8 := by kernel_rfl
theorem ny.Ps : kI ny.T8.2 ny.B8 = true := by kernel_rfl
section
variable {W : World} {g g' : Nat} {t t' : TypeId} {a b : Value} {cs : Array Value}
theorem uE (h : W.heap[g]? = some (.cells #[a, b] t (0, 0))) (x y : Value) : ((W.setCell ⟨g, 0, none⟩ x).setCell ⟨g, 1, none⟩ y).heap[g]? = some (.cells #[x, y] t (0, 0)) := bJ (bJ h 0 x rfl) 1 y rfl
theorem JH (h : W.heap[g']? = some (.cells cs t (0, 0))) (hne : g' ≠ g) (x y : Value) : ((W.setCell ⟨g, 0, none⟩ x).setCell ⟨g, 1, none⟩ y).heap[g']? = some (.cells cs t (0, 0)) := aY (aY h hne _) hne _
theorem pV {w : World} (h : Below w.heap.size w W) (hg : w.heap.size ≤ g) (x y : Value) : Below w.heap.size w ((W.setCell ⟨g, 0, none⟩ x).setCell ⟨g, 1, none⟩ y) := bZ (bZ h hg) hg
end
set_option maxRecDepth 100000 in
set_option maxHeartbeats 8000000 in
theorem Oe (A1 : Option Addr) (c1 : Nat) (hs : List S66) (W S t : Int) (A4 : Option Addr) (c4 : Nat) (sq : List (List S27)) (w : World)
 (hh : Kd.C k66 w A1 hs.length hs) (hr : Kd.C (Kd.slice 27 k27) w A4 sq.length sq) :
 Calls Try.prog 39 #[.agg #[.slice A1 hs.length c1, .int .i64 W, .int .i64 S, .int .i64 t, .slice A4 sq.length c4]] w fun e w' => e = .returned (.tuple #[.agg #[.int .i64 (nK hs W S t sq).1.1, .int .i64 (nK hs W S t sq).1.2], .int .i64 (nK hs W S t sq).2]) ∧ Below w.heap.size w w' := by
 have HR := aa.mk hr; have HH := aa.mk hh; clear hr hh; go_enter Try.func39, Try.ntmps39; (go_upto_region 1 with (fail)); obtain ⟨W1, hW1⟩ : ∃ W1, W1 = (w.alloc (.cells #[.slice A1 hs.length c1, .int .i64 W, .int .i64 S, .int .i64 t, .slice A4 sq.length c4] 25)).alloc (.cells #[.int .i64 0, .int .i64 0] 63) := ⟨_, rfl⟩; have HB := aa.mk (show Below w.heap.size w W1 by rw [hW1]; exact aA (aA (Below.refl _ _) _) _); have BX := aa.mk (show W1.heap[w.heap.size]? = some (.cells #[.slice A1 hs.length c1, .int .i64 W, .int .i64 S, .int .i64 t, .slice A4 sq.length c4] 25 (0, 0)) by rw [hW1]; exact cK (heap_alloc_new w _) _)
 have BR := aa.mk (show W1.heap[w.heap.size + 1]? = some (.cells #[.int .i64 0, .int .i64 0] 63 (0, 0)) by
  rw [hW1]; have := heap_alloc_new (w.alloc (.cells #[.slice A1 hs.length c1, .int .i64 W, .int .i64 S, .int .i64 t, .slice A4 sq.length c4] 25)) (.cells #[.int .i64 0, .int .i64 0] 63)
  rwa [World.size_alloc] at this)
 have hW1' : W1 = _ := hW1; (first | rw [← hW1] | skip); clear hW1 hW1'; have hb0 : W1.cell? ⟨w.heap.size, 0, none⟩ = some (.slice A1 hs.length c1) := (af BX.out 0).trans rfl; have hb1 : W1.cell? ⟨w.heap.size, 1, none⟩ = some (.int .i64 W) := (af BX.out 1).trans rfl; have hb2 : W1.cell? ⟨w.heap.size, 2, none⟩ = some (.int .i64 S) := (af BX.out 2).trans rfl; have hb3 : W1.cell? ⟨w.heap.size, 3, none⟩ = some (.int .i64 t) := (af BX.out 3).trans rfl; have hb4 : W1.cell? ⟨w.heap.size, 4, none⟩ = some (.slice A4 sq.length c4) := (af BX.out 4).trans rfl; (go_wp2_with (fail)); refine (zC A1 c1 hs W S t A4 c4 sq _ (Kd.aT HH.out HB.out) (Kd.aT HR.out HB.out)).mono ?_; rintro e w2 ⟨v, rfl, hv, hb⟩; have HB2 := aa.mk (av HB.out hb); have BX2 := aa.mk (aj BX.out hb); have BR2 := aa.mk (aj BR.out hb); clear hb hb0 hb1 hb2 hb3 hb4 HB BX BR; have HE := aa.mk (show nK hs W S t sq = if (eO hs W S t sq).2 = 0 then (kQ hs (ai hs (rd (eO hs W S t sq).1 0)).f0.f0 (ai hs (rd (eO hs W S t sq).1 0)).f0.f1 (eO hs W S t sq).1, 0) else ((0, 0), (eO hs W S t sq).2) from rfl); have HIN := aa.mk (fun h : (eO hs W S t sq).2 = 0 => zI h); obtain ⟨ev, hev⟩ : ∃ ev, ev = (eO hs W S t sq).2 := ⟨_, rfl⟩; obtain ⟨xs, hxs⟩ : ∃ xs, xs = (eO hs W S t sq).1 := ⟨_, rfl⟩; rw [← hev] at HE HIN ⊢; rw [← hxs] at HE HIN hv; clear hev hxs; obtain ⟨Ax, cx, rfl, hlc, hc⟩ := Kd.pg hv; have HX := aa.mk hc; clear hv hc; by_cases hz : ev = 0
 ·have HF := aa.mk (HE.out.trans (if_pos hz)); obtain ⟨⟨hx1, hx3⟩, hx2⟩ := HIN.out hz; have XL := aa.mk hx3; have XP := aa.mk hx1; have XI := aa.mk hx2; (have z1 : (ev == 0) = true := by rw [hz]; rfl); (have z2 : (ev != 0) = false := by rw [hz]; rfl); (have hlt0 : (0 : Int) < (xs.length : Int) := by omega); have hlt1 : 0 < xs.length := hx1; obtain ⟨i0, i1⟩ := Mk hx2 0 hx1; clear hz HE HIN hx1 hx2 hx3; have e0 : ((0 : Nat) : Int) = 0 := rfl; rw [e0] at i0 i1; clear e0; obtain ⟨xd, e, hx0⟩ := Kd.sM HX.out 0 (by omega) (by omega); cases e; have hx0 : w2.cell? xd = some (.int .i64 (rd xs 0)) := hx0; obtain ⟨y, hy⟩ : ∃ y, y = rd xs 0 := ⟨_, rfl⟩; rw [← hy] at HF hx0 i0 i1; clear hy; obtain ⟨ad, Ah, ch, e, hy0, hy1, _, _, _⟩ := nH (Kd.aT HH.out HB2.out) y i0 i1; cases e; obtain ⟨h, hhd⟩ : ∃ h, h = ai hs y := ⟨_, rfl⟩; rw [← hhd] at HF hy0 hy1; clear hhd; have X0 := aa.mk hx0; have Y0 := aa.mk hy0; have Y1 := aa.mk hy1; have I0 := aa.mk i0; have I1 := aa.mk i1; clear hx0 hy0 hy1; have j0 : decide (0 ≤ y) = true := decide_eq_true i0; have j1 : decide (y < (hs.length : Int)) = true := decide_eq_true i1; (go_wp2_with (fail)); have HB := aa.mk (show Below w2.heap.size w2 w2.drew from dV (Below.refl _ _)); refine oF (n := 10) (S := fun w' => w'.cell? ⟨w.heap.size, 0, none⟩ = some (.slice (some ad) hs.length c1) ∧ w'.cell? xd = some (.int .i64 y) ∧ w'.cell? (ad.add (y.toNat * 3)) = some (.int .i64 h.f0.f0) ∧ w'.cell? ⟨(ad.add (y.toNat * 3)).block, (ad.add (y.toNat * 3)).off + 1, none⟩ = some (.int .i64 h.f0.f1)) (ds := [9]) (ba 10 0) (by kernel_rfl) rfl rfl ⟨(af (aj BX2.out HB.out) 0).trans rfl, (HB.out.cell (World.block_lt_of_cell? _ _ X0.out)).trans X0.out, (HB.out.cell (World.block_lt_of_cell? _ _ Y0.out)).trans Y0.out, (HB.out.cell (World.block_lt_of_cell? _ _ Y1.out)).trans Y1.out⟩ (fun bB => ?_); refine kw ny.YY ny.Sl (fun HT_ HW_ => ?_); refine dO 0 18 (ba 10 1) HT_.out ?_; refine mR 1 19 (ba 10 3) HT_.out HW_.out bB ?_; refine dO 2 20 (ba 10 7) HT_.out ?_; refine dO 3 21 (ba 10 15) HT_.out ?_; refine mR 4 22 (ba 10 31) HT_.out HW_.out bB ?_; refine dO 5 23 (ba 10 63) HT_.out ?_; refine dO 6 24 (ba 10 127) HT_.out ?_; refine mR 7 25 (ba 10 255) HT_.out HW_.out bB ?_; refine on_ 8 (some 6) (ba 10 511) HT_.out (fun K hK => ?_); refine rX ?hg (N := 6) ?hd (cs := #[.int .i64 0, .int .i64 0]) (t := 63) ?hr ?_; (case hd => rfl); (case hg => rfl); (case hr => first | (go_simp; done) | (go_simp; rfl)); intro g6 hg w_ hbox hb; have Gg6 := aa.mk (show w2.heap.size ≤ g6 by rw [hg]; exact HB.out.size); replace HB := aa.mk (av HB.out hb); have BN := aa.mk hbox; clear hbox hb hg; refine hK.out _ _ ⟨(af (aj BX2.out HB.out) 0).trans rfl, (HB.out.cell (World.block_lt_of_cell? _ _ X0.out)).trans X0.out, (HB.out.cell (World.block_lt_of_cell? _ _ Y0.out)).trans Y0.out, (HB.out.cell (World.block_lt_of_cell? _ _ Y1.out)).trans Y1.out⟩ (fun bB => ?_); clear hK K; refine kT ?_; refine BC 9 none (ba 10 1023) HT_.out (fun K hK => ?_); have hs0 : w_.cell? ⟨g6, 0, none⟩ = some (.int .i64 0) := (af BN.out 0).trans rfl; have hf0 := aK BN.out 0; have hs1 : w_.cell? ⟨g6, 1, none⟩ = some (.int .i64 0) := (af BN.out 1).trans rfl; have hf1 := aK BN.out 1; obtain ⟨w6, hw_⟩ : ∃ x, x = (w_.setCell ⟨g6, 0, none⟩ (.int .i64 h.f0.f0)).setCell ⟨g6, 1, none⟩ (.int .i64 h.f0.f1) := ⟨_, rfl⟩; refine sU (w1 := w6) (by rfl) rfl ?_ ?_
  ·rw [hw_]; first | (go_simp; done) | (go_simp; rfl)
  replace HB := aa.mk (show Below w2.heap.size w2 w6 by rw [hw_]; exact pV HB.out Gg6.out _ _); replace BN := aa.mk (show w6.heap[g6]? = some (.cells #[.int .i64 h.f0.f0, .int .i64 h.f0.f1] 63 (0, 0)) by rw [hw_]; exact uE BN.out _ _); clear hs0 hs1 hf0 hf1 hw_ bB; refine hK.out _ _ ?_; clear hK K; refine zN HT_.out ?_; clear X0 Y0 Y1 I0 I1 i0 i1 j0 j1; go_wp2
  go_loopw [7] (fun v7 wr => ∃ (j : Nat) (lo hi : Int), j ≤ xs.length ∧ v7 = .int .i64 j ∧ aa (kQ hs h.f0.f0 h.f0.f1 xs = kQ hs lo hi (xs.drop j)) ∧ aa (wr.heap[g6]? = some (.cells #[.int .i64 lo, .int .i64 hi] 63 (0, 0))) ∧ aa (Below w2.heap.size w2 wr)) (fun v7 _ => xs.length - (intOf v7).toNat)
  case atStart => exact ⟨0, _, _, by omega, rfl, ⟨rfl⟩, BN, HB⟩
  case round =>
   clear HB BN; obtain ⟨j, lo, hi, hj, rfl, HA, BG, HB⟩ := hrel; by_cases hjl : j < xs.length
   ·have hj1 : decide ((j : Int) < (xs.length : Int)) = true := decide_eq_true (by omega); (have hjlt : (j : Int) < (xs.length : Int) := by omega); (have hj8 : (j : Int) < 100 := by have := XL.out; omega); have HD := aa.mk (HA.out.trans (BV hs xs lo hi j hjl)); obtain ⟨i0, i1⟩ := Mk XI.out j hjl; obtain ⟨xe, e, hx0⟩ := Kd.sM HX.out (j : Int) (by omega) (by omega); cases e; rw [Int.toNat_natCast] at hx0; obtain ⟨z, hz⟩ : ∃ z, z = rd xs (j : Int) := ⟨_, rfl⟩; rw [← hz] at HD hx0 i0 i1; clear hz; obtain ⟨ae, Ah', ch', e, hy0, hy1, _, _, _⟩ := nH (Kd.aT HH.out HB2.out) z i0 i1; cases e; obtain ⟨q, hqd⟩ : ∃ q, q = ai hs z := ⟨_, rfl⟩; rw [← hqd] at HD hy0 hy1; clear hqd; have X0 := aa.mk hx0; have Y0 := aa.mk hy0; have Y1 := aa.mk hy1; have j0 : decide (0 ≤ z) = true := decide_eq_true i0; have j1 : decide (z < (hs.length : Int)) = true := decide_eq_true i1; clear hx0 hy0 hy1; (go_wp2_with (fail)); replace BG := aa.mk (dD BG.out); replace HB := aa.mk (dV HB.out); refine oF (n := 11) (S := fun w' => w'.cell? ⟨w.heap.size, 0, none⟩ = some (.slice (some ad) hs.length c1) ∧ w'.cell? (xd.add j) = some (.int .i64 z) ∧ w'.cell? (ad.add (z.toNat * 3)) = some (.int .i64 q.f0.f0) ∧ w'.cell? ⟨(ad.add (z.toNat * 3)).block, (ad.add (z.toNat * 3)).off + 1, none⟩ = some (.int .i64 q.f0.f1)) (ds := [10]) (ba 11 0) (by kernel_rfl) rfl rfl ⟨(af (aj BX2.out HB.out) 0).trans rfl, (HB.out.cell (World.block_lt_of_cell? _ _ X0.out)).trans X0.out, (HB.out.cell (World.block_lt_of_cell? _ _ Y0.out)).trans Y0.out, (HB.out.cell (World.block_lt_of_cell? _ _ Y1.out)).trans Y1.out⟩ (fun bB => ?_); refine kw ny.YX ny.Ps (fun HT_ HW_ => ?_); refine dO 0 32 (ba 11 1) HT_.out ?_; refine mR 1 33 (ba 11 3) HT_.out HW_.out bB ?_; refine dO 2 34 (ba 11 7) HT_.out ?_; refine dO 3 35 (ba 11 15) HT_.out ?_; refine dO 4 36 (ba 11 31) HT_.out ?_; refine mR 5 37 (ba 11 63) HT_.out HW_.out bB ?_; refine dO 6 38 (ba 11 127) HT_.out ?_; refine dO 7 39 (ba 11 255) HT_.out ?_; refine mR 8 40 (ba 11 511) HT_.out HW_.out bB ?_; refine on_ 9 (some 8) (ba 11 1023) HT_.out (fun K hK => ?_); refine rX ?hg (N := 8) ?hd (cs := #[.int .i64 0, .int .i64 0]) (t := 63) ?hr ?_; (case hd => rfl); (case hg => rfl); (case hr => first | (go_simp; done) | (go_simp; rfl)); intro g8 hg w_ hbox hb; have Gg8 := aa.mk (show w2.heap.size ≤ g8 by rw [hg]; exact HB.out.size); have NBG := aa.mk (show g6 ≠ g8 by have := bW BG.out; omega); replace BG := aa.mk (aj BG.out hb); replace HB := aa.mk (av HB.out hb); have BN := aa.mk hbox; clear hbox hb hg; refine hK.out _ _ ⟨(af (aj BX2.out HB.out) 0).trans rfl, (HB.out.cell (World.block_lt_of_cell? _ _ X0.out)).trans X0.out, (HB.out.cell (World.block_lt_of_cell? _ _ Y0.out)).trans Y0.out, (HB.out.cell (World.block_lt_of_cell? _ _ Y1.out)).trans Y1.out⟩ (fun bB => ?_); clear hK K; refine kT ?_; refine BC 10 none (ba 11 2047) HT_.out (fun K hK => ?_); have hs0 : w_.cell? ⟨g8, 0, none⟩ = some (.int .i64 0) := (af BN.out 0).trans rfl; have hf0 := aK BN.out 0; have hs1 : w_.cell? ⟨g8, 1, none⟩ = some (.int .i64 0) := (af BN.out 1).trans rfl; have hf1 := aK BN.out 1; obtain ⟨w8, hw_⟩ : ∃ x, x = (w_.setCell ⟨g8, 0, none⟩ (.int .i64 q.f0.f0)).setCell ⟨g8, 1, none⟩ (.int .i64 q.f0.f1) := ⟨_, rfl⟩; refine sU (w1 := w8) (by rfl) rfl ?_ ?_
    ·rw [hw_]; first | (go_simp; done) | (go_simp; rfl)
    replace BG := aa.mk (show w8.heap[g6]? = some (.cells #[.int .i64 lo, .int .i64 hi] 63 (0, 0)) by rw [hw_]; exact JH BG.out NBG.out _ _); replace HB := aa.mk (show Below w2.heap.size w2 w8 by rw [hw_]; exact pV HB.out Gg8.out _ _); replace BN := aa.mk (show w8.heap[g8]? = some (.cells #[.int .i64 q.f0.f0, .int .i64 q.f0.f1] 63 (0, 0)) by rw [hw_]; exact uE BN.out _ _); clear hs0 hs1 hf0 hf1 hw_ bB; refine hK.out _ _ ?_; clear hK K; refine zN HT_.out ?_; have h60 : w8.cell? ⟨g6, 0, none⟩ = some (.int .i64 lo) := (af BG.out 0).trans rfl; have h61 : w8.cell? ⟨g6, 1, none⟩ = some (.int .i64 hi) := (af BG.out 1).trans rfl; have h80 : w8.cell? ⟨g8, 0, none⟩ = some (.int .i64 q.f0.f0) := (af BN.out 0).trans rfl; have h81 : w8.cell? ⟨g8, 1, none⟩ = some (.int .i64 q.f0.f1) := (af BN.out 1).trans rfl; have f60 := aK BG.out 0; have f61 := aK BG.out 1; go_wp2
    go_roundw
    (case rel => exact ⟨j + 1, _, _, by omega, by go_num, ⟨HD.out⟩, ⟨uE BG.out _ _⟩, ⟨pV HB.out Gg6.out _ _⟩⟩); case measure => simp [intOf]; omega
   ·(obtain rfl : j = xs.length := by omega); (have hj1 : decide ((xs.length : Int) < (xs.length : Int)) = false := by simp); have HG := aa.mk (show nK hs W S t sq = ((lo, hi), 0) by rw [HF.out, HA.out, List.drop_length, kQ]); have h60 : wr.cell? ⟨g6, 0, none⟩ = some (.int .i64 lo) := (af BG.out 0).trans rfl; have h61 : wr.cell? ⟨g6, 1, none⟩ = some (.int .i64 hi) := (af BG.out 1).trans rfl; have BR3 := aa.mk (aj BR2.out HB.out); have h20 : wr.cell? ⟨w.heap.size + 1, 0, none⟩ = some (.int .i64 0) := (af BR3.out 0).trans rfl; have h21 : wr.cell? ⟨w.heap.size + 1, 1, none⟩ = some (.int .i64 0) := (af BR3.out 1).trans rfl; have f20 := aK BR3.out 0; have f21 := aK BR3.out 1; go_wp2; (try simp only [Exit.inBlock, Exit.then]); refine bodyPost_ret (vg rfl _ _ (w.heap.size + 1) 63 #[.int .i64 lo, .int .i64 hi] (0, 0) _ rfl (uE BR3.out _ _) Try.underlying63 rfl (by kernel_rfl)) rfl ?_; exact ⟨by rw [HG.out]; rfl, pV (av HB2.out HB.out) (by omega) _ _⟩
 ·have HF := aa.mk (HE.out.trans (if_neg hz)); have z1 : (ev == 0) = false := beq_eq_false_iff_ne.2 hz; have z2 : (ev != 0) = true := bne_iff_ne.2 hz; have h20 : w2.cell? ⟨w.heap.size + 1, 0, none⟩ = some (.int .i64 0) := (af BR2.out 0).trans rfl; have h21 : w2.cell? ⟨w.heap.size + 1, 1, none⟩ = some (.int .i64 0) := (af BR2.out 1).trans rfl; have f20 := aK BR2.out 0; have f21 := aK BR2.out 1; clear hz HE; go_wp2; (try simp only [Exit.inBlock, Exit.then]); refine bodyPost_ret (vg rfl _ _ (w.heap.size + 1) 63 #[.int .i64 0, .int .i64 0] (0, 0) _ rfl (uE BR2.out _ _) Try.underlying63 rfl (by kernel_rfl)) rfl ?_; exact ⟨by rw [HF.out]; rfl, pV HB2.out (by omega) _ _⟩
end Go.Proofs.Ytihedeofkhapiaa.Pr
end
section
namespace Go.Proofs.Ytihedeofkhapiaa.Pr
open Go.RowKit Go.Proofs.YtihedeofkhapiaaW.PrintWords Go.Proofs.YtihedeofkhapiaaW.PrintLast Go.Proofs.YtihedeofkhapiaaW.PrintMore
theorem FC (W S : Int) {sh : List S86} (hsh : um sh) {q : List S27} (hq : zh q) {k : Nat} (hk : k < sh.length) : 0 ≤ cellP W S (gF q) (ak sh (k : Int)) ∧ (cellP W S (gF q) (ak sh (k : Int)) ≤ 20 ∨ cellP W S (gF q) (ak sh (k : Int)) = 1048576) := by
 have hs := hsh.at hk; exact Jt W S hq (ak sh (k : Int)) hs.1 hs.2
def mZ (W S : Int) (sq : List (List S27)) (sh : List S86) (i : Nat) : Int := yS W S sh (dn sq (i : Int))
theorem PM (W S : Int) {sq : List (List S27)} (hq : tX sq) {sh : List S86} (hsh : um sh) :
 (fQ (-1) 0 (eU W S sq sh sq.length) sh sq.length).2 = jg (mZ W S sq sh) sq.length ∧ ∀ i (h : i < sq.length), (fQ (-1) 0 (eU W S sq sh sq.length) sh sq.length).1.getD i 0 = mZ W S sq sh i := by
 have hnn : ∀ i k, i < sq.length → k < sh.length → 0 ≤ (eU W S sq sh sq.length).getD (i * 8 + k) 0 := fun i k hi hk => by
  rw [qf W S sq sh hsh.1 sq.length hq.1 i k hi hk]; exact (FC W S hsh (hq.at hi).2 hk).1
 obtain ⟨e1, e2⟩ := MN (eU W S sq sh sq.length) sh sq.length hq.1 hnn
 have hE : ∀ i (h : i < sq.length), iH (-1) 0 (eU W S sq sh sq.length) i sh sh.length = mZ W S sq sh i := fun i h => by
  rw [AA W S sq hq.1 sh hsh.1 i h _ (Nat.le_refl _)]; rfl
 refine ⟨?_, fun i h => by rw [e2 i h, hE i h]⟩; rw [e1]; exact uO _ (fun i hi => hE i hi)
theorem uC (W S : Int) {sq : List (List S27)} (hq : tX sq) {sh : List S86} (hsh : um sh) {i : Nat} (hi : i < sq.length) : 0 ≤ mZ W S sq sh i ∧ (mZ W S sq sh i ≤ 20 ∨ mZ W S sq sh i = 1048576) := (uN W S (hq.at hi).2 hsh _ (Nat.le_refl _)).2
theorem Gx (f : Nat → Int) : ∀ n, (∀ i, i < n → 0 ≤ f i ∧ (f i ≤ 20 ∨ f i = 1048576)) → (jg f n = jg (fun i => qR (f i)) n ∧ 0 ≤ jg f n ∧ jg f n ≤ 20 * n) ∨ (1048576 ≤ jg f n ∧ 1000 ≤ jg (fun i => qR (f i)) n)
 | 0, _ => .inl ⟨rfl, Int.le_refl _, Int.le_refl _⟩
 | n + 1, h => by
  have h1 := Gx f n (fun i hi => h i (by omega)); have h2 := h n (by omega)
  have hc : 0 ≤ qR (f n) ∧ ((qR (f n) = f n ∧ f n ≤ 20) ∨ (qR (f n) = 1000 ∧ f n = 1048576)) := by
   unfold qR; split <;> omega
  simp only [jg]
  have hp : 0 ≤ jg f n ∧ 0 ≤ jg (fun i => qR (f i)) n := by
   rcases h1 with h1 | h1 <;> omega
  rcases h1 with h1 | h1 <;> omega
theorem zF (W S : Int) {sq : List (List S27)} (hq : tX sq) {sh : List S86} (hsh : um sh) : ∀ n, n ≤ sq.length → mF W S sq sh [] n = some (jg (fun i => qR (mZ W S sq sh i)) n)
 | 0, _ => rfl
 | n + 1, hn => by
  have e := (uN W S (hq.at (i := n) (by omega)).2 hsh _ (Nat.le_refl _)).1; rw [mF, zF W S hq hsh n (by omega)]; simp only [Option.bind_some, tu, List.foldl_nil]; rw [e]; rfl
theorem Mw (hs : List S66) (W S : Int) {sq : List (List S27)} (hq : tX sq) (x : Nat) (hsh : um (ai hs (x : Int)).f1) : kK hs W S sq x = jg (mZ W S sq (ai hs (x : Int)).f1) sq.length := (PM W S hq hsh).1
theorem Au (hs : List S66) (W S : Int) {sq : List (List S27)} (hq : tX sq) (x : Nat) (hsh : um (ai hs (x : Int)).f1) :
 (kK hs W S sq x = jL W S sq (ai hs (x : Int)).f1 [] ∧ 0 ≤ kK hs W S sq x ∧ kK hs W S sq x ≤ 160) ∨ (1048576 ≤ kK hs W S sq x ∧ 1000 ≤ jL W S sq (ai hs (x : Int)).f1 []) := by
 have h1 := Gx (mZ W S sq (ai hs (x : Int)).f1) sq.length (fun i hi => uC W S hq hsh hi); have h2 := hq.1; rw [Mw hs W S hq x hsh, jL, zF W S hq hsh _ (Nat.le_refl _), Option.getD_some]; rcases h1 with ⟨a, b, c⟩ | h1
 ·exact .inl ⟨a, b, by omega⟩
 ·exact .inr h1
theorem GV (hs : List S66) (W S : Int) {t : Int} (ht : t ≤ 40) {sq : List (List S27)} (hq : tX sq) (x : Nat) (hsh : um (ai hs (x : Int)).f1) : kK hs W S sq x ≤ t ↔ jL W S sq (ai hs (x : Int)).f1 [] ≤ t := by
 rcases Au hs W S hq x hsh with ⟨a, _⟩ | ⟨a, b⟩
 ·rw [a]
 ·omega
def GA (b b' : Int) : Prop := (b = b' ∧ 0 ≤ b ∧ b ≤ 160) ∨ (1048576 ≤ b ∧ 1000 ≤ b')
theorem aaF {a a' b b' : Int} (h : GA a a') (h' : GA b b') : GA (mn a b) (min a' b') := by
 unfold GA mn at *; rw [Int.min_def]
 (repeat' split) <;> omega
theorem Ja {α : Type} (T R : α → Int) : ∀ (l : List α) (b b' : Int), GA b b' → (∀ x ∈ l, GA (T x) (R x)) → GA (l.foldl (fun b x => mn b (T x)) b) (l.foldl (fun b x => min b (R x)) b')
 | [], _, _, h, _ => h
 | x :: r, b, b', h, hl => by
  rw [List.foldl_cons, List.foldl_cons]; exact Ja T R r _ _ (aaF h (hl x List.mem_cons_self)) (fun y hy => hl y (List.mem_cons_of_mem _ hy))
theorem Ex (W S : Int) (sq : List (List S27)) : ∀ (hs : List S66) (b : Int), xN W S sq b hs = hs.foldl (fun b h => min b (jL W S sq h.f1 [])) b
 | [], _ => rfl
 | h :: r, b => by rw [xN, List.foldl_cons, Ex W S sq r]
theorem sI (hs : List S66) (x : Fin hs.length) : ai hs ((x.1 : Nat) : Int) = hs.get x := by rw [lN hs x.1 x.2]; rfl
theorem PV {β : Type} (hs : List S66) (g : β → S66 → β) (b : β) : hs.foldl g b = (List.finRange hs.length).foldl (fun b x => g b (hs.get x)) b := by
 have e : hs = (List.finRange hs.length).map hs.get := by
  apply List.ext_getElem
  ·simp
  ·intro i h1 h2; simp
 conv => lhs; rw [e]
 rw [List.foldl_map]
theorem PU {hs : List S66} {W S t : Int} {sq : List (List S27)} (hc : eT hs W S t sq = 0) : GA (pR hs W S sq (List.finRange hs.length)) (xN W S sq 1000 hs) := by
 obtain ⟨hq, hh⟩ := lY hc; rw [Ex, PV]
 exact Ja (fun x : Fin hs.length => kK hs W S sq x.1) (fun x => jL W S sq (hs.get x).f1 []) _ _ _ (.inr ⟨Int.le_refl _, Int.le_refl _⟩) (fun x _ => by
  have h := Au hs W S hq x.1 (hh.at x.2); rw [sI hs x] at h; rcases h with ⟨h1, h2, h3⟩ | h
  ·exact .inl ⟨h1, h2, h3⟩
  ·exact .inr h)
theorem Zb (hs : List S66) (W S t : Int) (sq : List (List S27)) : Dq hs W S t sq = Kt hs W S t sq := by
 by_cases hc : eT hs W S t sq = 0
 ·rw [Dq, Kt, if_pos hc, if_pos hc]; have h := PU hc; generalize pR hs W S sq (List.finRange hs.length) = b at h; generalize xN W S sq 1000 hs = b' at h; rcases h with ⟨h1, h2, h3⟩ | ⟨h1, h2⟩
  ·subst h1; rw [if_neg (by omega), if_neg (by omega)]
  ·rw [if_pos h1, if_pos h2]
 ·rw [Dq, Kt, if_neg hc, if_neg hc]
theorem GH {hs : List S66} {W S t : Int} (ht : t ≤ 40) {sq : List (List S27)} (hq : tX sq) (hh : FW hs) : ∀ (d j : Nat), j + d = hs.length → eQ W S t sq j (hs.drop j) = mU hs W S t sq ((List.finRange hs.length).drop j)
 | 0, j, h => by
  rw [List.drop_eq_nil_of_le (by omega), List.drop_eq_nil_of_le (by simp; omega)]; rfl
 | d + 1, j, h => by
  (have hj : j < hs.length := by omega); (have hj2 : j < (List.finRange hs.length).length := by simpa using hj); have ih := GH (W := W) (S := S) ht hq hh d (j + 1) (by omega); (have e : (List.finRange hs.length)[j] = ⟨j, hj⟩ := by simp); have hle := GV hs W S ht hq j (hh.at hj); rw [Ca W S t sq hs j hj, ih, List.drop_eq_getElem_cons hj2, e]; generalize (List.finRange hs.length).drop (j + 1) = L; by_cases hc : jL W S sq (ai hs (j : Int)).f1 [] ≤ t
  ·rw [if_pos hc]; (show _ = ((⟨j, hj⟩ :: L).filter fun x => decide (kK hs W S sq x.1 ≤ t)).map fun x => (x.1 : Int)); rw [List.filter_cons_of_pos (by simpa using hle.2 hc), List.map_cons]; rfl
  ·rw [if_neg hc]; (show _ = ((⟨j, hj⟩ :: L).filter fun x => decide (kK hs W S sq x.1 ≤ t)).map fun x => (x.1 : Int)); rw [List.filter_cons_of_neg (by simpa using fun h => hc (hle.1 h))]; rfl
theorem BL {hs : List S66} {W S t : Int} {sq : List (List S27)} (hc : eT hs W S t sq = 0) : eQ W S t sq 0 hs = mU hs W S t sq (List.finRange hs.length) := by
 obtain ⟨hq, hh⟩ := lY hc; obtain ⟨_, _, _, _, _, _, _, _, h9⟩ := mo hc; have := ow.1 h9; exact GH this.2 hq hh hs.length 0 (by omega)
theorem pu (hs : List S66) (W S t : Int) (sq : List (List S27)) : mK hs W S t sq = eO hs W S t sq := by
 by_cases hc : eT hs W S t sq = 0
 ·rw [mK, eO, if_pos hc, if_pos hc, BL hc]
 ·rw [mK, eO, if_neg hc, if_neg hc]
theorem H7 (f : Nat → Int) (i : Nat) (v : Int) : ∀ n, jg (fun j => if j = i then v else f j) n = if i < n then jg f n - f i + v else jg f n
 | 0 => by simp [jg]
 | n + 1 => by
  simp only [jg]; rw [H7 f i v n]; by_cases h1 : n = i
  ·subst h1; rw [if_neg (by omega), if_pos rfl, if_pos (by omega)]; omega
  ·rw [if_neg h1]; by_cases h2 : i < n
   ·rw [if_pos h2, if_pos (by omega)]; omega
   ·rw [if_neg h2, if_neg (by omega)]
theorem wE {f : Nat → Int} : ∀ n, (∀ i, i < n → 0 ≤ f i) → ∀ i, i < n → f i ≤ jg f n ∧ 0 ≤ jg f n
 | 0, _, i, hi => by omega
 | n + 1, h, i, hi => by
  simp only [jg]; have h0 := h n (by omega)
  have hp : 0 ≤ jg f n := by
   rcases Nat.eq_zero_or_pos n with rfl | hn
   ·exact Int.le_refl _
   ·exact (wE n (fun j hj => h j (by omega)) 0 hn).2
  by_cases e : i = n
  ·subst e; omega
  ·have := (wE n (fun j hj => h j (by omega)) i (by omega)).1; omega
def Ris (sh : List S86) : Prop := sh.Pairwise (fun a b => a.f0 < b.f0) ∧ ∀ s ∈ sh, 65 ≤ s.f0 ∧ s.f0 ≤ 90
theorem Sg : ∀ (sh : List S86) (p : Option Int), jc p sh = 0 → Ris sh ∧ ∀ q, p = some q → ∀ s ∈ sh, q < s.f0
 | [], _, _ => ⟨⟨List.Pairwise.nil, fun s hs => by cases hs⟩, fun q _ s hs => by cases hs⟩
 | x :: r, p, h => by
  rw [jc] at h; by_cases h1 : x.f0 < 65 ∨ x.f0 > 90
  ·rw [if_pos h1] at h; exact absurd h (by decide)
  ·rw [if_neg h1] at h; by_cases h2 : inP x.f1 1 1023 = true
   ·rw [if_pos h2] at h; by_cases h3 : ∃ q, p = some q ∧ x.f0 ≤ q
    ·rw [if_pos h3] at h; exact absurd h (by decide)
    ·rw [if_neg h3] at h; obtain ⟨⟨hr1, hr2⟩, hr3⟩ := Sg r _ h; have hx := hr3 x.f0 rfl; refine ⟨⟨List.Pairwise.cons hx hr1, fun s hs => ?_⟩, fun q hq s hs => ?_⟩
     ·rcases List.mem_cons.1 hs with rfl | hs
      ·omega
      ·exact hr2 s hs
     ·(have hqx : q < x.f0 := Int.not_le.1 fun hle => h3 ⟨q, hq, hle⟩); rcases List.mem_cons.1 hs with rfl | hs
      ·exact hqx
      ·have := hx s hs; omega
   ·rw [if_neg h2] at h; exact absurd h (by decide)
theorem vV : ∀ (sh : List S86), sh.Pairwise (fun a b => a.f0 < b.f0) → ∀ (k : Nat) (hk : k < sh.length) (c : Int), (sh[k]).f0 = c → ky sh c = ((sh[k]).f1, true)
 | s :: r, h, 0, _, c, e => by
  simp only [List.getElem_cons_zero] at e ⊢; rw [ky, if_pos e]
 | s :: r, h, k + 1, hk, c, e => by
  simp only [List.getElem_cons_succ] at e ⊢; rw [List.pairwise_cons] at h; (have hk' : k < r.length := by simpa using hk); have := h.1 _ (List.getElem_mem hk'); rw [ky, if_neg (by omega)]; exact vV r h.2 k hk' c e
theorem BQ : ∀ (sh : List S86) (c : Int), (∀ s ∈ sh, s.f0 ≠ c) → ky sh c = (0, false)
 | [], _, _ => rfl
 | s :: r, c, h => by
  rw [ky, if_neg (h s List.mem_cons_self)]; exact BQ r c (fun y hy => h y (List.mem_cons_of_mem _ hy))
theorem ES (f : Nat → Int) : ∀ n, (∀ i, i < n → 0 ≤ f i ∧ (f i ≤ 20 ∨ f i = 1048576)) → jg f n ≤ 1048576 * n
 | 0, _ => by simp [jg]
 | n + 1, h => by
  have h1 := ES f n (fun i hi => h i (by omega)); have h2 := h n (by omega); simp only [jg]; push_cast; omega
def qY (W S : Int) (sq : List (List S27)) (sh : List S86) (i : Nat) (v : Int) (j : Nat) : Int := if j = i then v else mZ W S sq sh j
theorem Oc {a b : Int} (ha : 0 ≤ a ∧ (a ≤ 20 ∨ a = 1048576)) (hb : 0 ≤ b ∧ (b ≤ 20 ∨ b = 1048576)) (h : a ≤ b) : mx (qR a) (qR b) = qR b := by
 unfold mx qR
 (repeat' split) <;> omega
theorem AJ (W S : Int) {sq : List (List S27)} (hq : tX sq) {sh : List S86} (hsh : um sh) {i : Nat} {c : Int} {k : Nat} (hk : k < sh.length) (hs : ky sh c = ((ak sh (k : Int)).f1, true)) : ∀ n, n ≤ sq.length →
 mF W S sq sh [⟨(i : Int), c⟩] n = some (jg (fun j => qR (qY W S sq sh i (cellP W S (gF (dn sq (i : Int))) (ak sh (k : Int))) j)) n)
 | 0, _ => rfl
 | n + 1, hn => by
  have hl := uN W S (hq.at (i := n) (by omega)).2 hsh _ (Nat.le_refl _); rw [mF, AJ W S hq hsh hk hs n (by omega)]; simp only [Option.bind_some, tu, List.foldl_cons, List.foldl_nil, kE, hs, if_true]; by_cases e : i = n
  ·subst e; rw [if_pos rfl]; have hle : oo W S (gF (dn sq (i : Int))) sh sh.length ≤ cellP W S (gF (dn sq (i : Int))) (ak sh (k : Int)) := Mx W S _ sh sh.length k hk; have hm := Oc hl.2 (FC W S hsh (hq.at (i := i) (by omega)).2 hk) hle; rw [hl.1, EA, hm]; simp only [Option.bind_some, jg, qY, if_true]
  ·rw [if_neg (by omega), hl.1]; simp only [Option.bind_some, jg, qY]; rw [if_neg (Ne.symm e)]; rfl
theorem DC (W S : Int) (sq : List (List S27)) (sh : List S86) {i : Nat} {c : Int} (hs : ky sh c = (0, false)) : ∀ n, i < n → mF W S sq sh [⟨(i : Int), c⟩] n = none
 | 0, h => by omega
 | n + 1, h => by
  rw [mF]; by_cases e : i = n
  ·subst e
   have : tu W S (dn sq (i : Int)) sh i [⟨(i : Int), c⟩] = none := by
    simp [tu, kE, hs]
   rw [this]; cases mF W S sq sh [⟨(i : Int), c⟩] i <;> rfl
  ·rw [DC W S sq sh hs n (by omega)]; rfl
theorem KV (hs : List S66) (W S : Int) {t : Int} (ht : t ≤ 40) {sq : List (List S27)} (hq : tX sq) (x : Nat) (hsh : um (ai hs (x : Int)).f1) {i : Nat} (hi : i < sq.length) {k : Nat} (hk : k < (ai hs (x : Int)).f1.length) :
 xX (-1) 0 W S t hs sq i x k = true ↔ jg (fun j => qR (qY W S sq (ai hs (x : Int)).f1 i (cellP W S (gF (dn sq (i : Int))) (ak (ai hs (x : Int)).f1 (k : Int))) j)) sq.length ≤ t := by
 obtain ⟨e1, e2⟩ := PM W S hq hsh; have hm := qf W S sq (ai hs (x : Int)).f1 hsh.1 sq.length hq.1 i k hi hk; have hv := FC W S hsh (hq.at hi).2 hk
 have h3 : xX (-1) 0 W S t hs sq i x k = (decide (cellP W S (gF (dn sq (i : Int))) (ak (ai hs (x : Int)).f1 (k : Int)) < 1048576) && decide (wrap64 (wrap64 (jg (mZ W S sq (ai hs (x : Int)).f1) sq.length - mZ W S sq (ai hs (x : Int)).f1 i) + cellP W S (gF (dn sq (i : Int))) (ak (ai hs (x : Int)).f1 (k : Int))) ≤ t)) := by
  show (xV (-1) 0 (i : Int) _ && decide ((eU W S sq (ai hs (x : Int)).f1 sq.length).getD (i * 8 + k) 0 < 1048576) && decide (wrap64 (wrap64 ((fQ (-1) 0 (eU W S sq (ai hs (x : Int)).f1 sq.length) (ai hs (x : Int)).f1 sq.length).2 - (fQ (-1) 0 (eU W S sq (ai hs (x : Int)).f1 sq.length) (ai hs (x : Int)).f1 sq.length).1.getD i 0) + (eU W S sq (ai hs (x : Int)).f1 sq.length).getD (i * 8 + k) 0) ≤ t)) = _; rw [FY, Bool.true_and, hm, e1, e2 i hi]
 rw [h3]; generalize hV : cellP W S (gF (dn sq (i : Int))) (ak (ai hs (x : Int)).f1 (k : Int)) = v at hv; have hu := H7 (mZ W S sq (ai hs (x : Int)).f1) i v sq.length; rw [if_pos hi] at hu
 have hf : ∀ j, j < sq.length → 0 ≤ qY W S sq (ai hs (x : Int)).f1 i v j ∧ (qY W S sq (ai hs (x : Int)).f1 i v j ≤ 20 ∨ qY W S sq (ai hs (x : Int)).f1 i v j = 1048576) := fun j hj => by
  unfold qY; split
  ·exact hv
  ·exact uC W S hq hsh hj
 have h2 := Gx _ sq.length hf; have hmem := (wE (f := qY W S sq (ai hs (x : Int)).f1 i v) sq.length (fun j hj => (hf j hj).1) i hi).1; (have hvi : qY W S sq (ai hs (x : Int)).f1 i v i = v := by rw [qY, if_pos rfl]); rw [hvi] at hmem; have hn := wE (f := mZ W S sq (ai hs (x : Int)).f1) sq.length (fun j hj => (uC W S hq hsh hj).1) i hi; have hn0 := (uC W S hq hsh hi).1; have hub := ES (mZ W S sq (ai hs (x : Int)).f1) sq.length (fun j hj => uC W S hq hsh hj); have h8 := hq.1; have hw : jg (qY W S sq (ai hs (x : Int)).f1 i v) sq.length = jg (mZ W S sq (ai hs (x : Int)).f1) sq.length - mZ W S sq (ai hs (x : Int)).f1 i + v := hu; generalize jg (qY W S sq (ai hs (x : Int)).f1 i v) sq.length = A at *; generalize jg (fun j => qR (qY W S sq (ai hs (x : Int)).f1 i v j)) sq.length = B at *; generalize jg (mZ W S sq (ai hs (x : Int)).f1) sq.length = C at *; generalize mZ W S sq (ai hs (x : Int)).f1 i = D at *; (have w1 : wrap64 (C - D) = C - D := by unfold wrap64; omega); (have w2 : wrap64 (C - D + v) = C - D + v := by unfold wrap64; omega); rw [w1, w2, Bool.and_eq_true, decide_eq_true_eq, decide_eq_true_eq]; rcases h2 with h2 | h2 <;> omega
theorem TW (hs : List S66) (W S : Int) {t : Int} (ht : t ≤ 40) {sq : List (List S27)} (hq : tX sq) (x : Nat) (hsh : um (ai hs (x : Int)).f1) (hr : Ris (ai hs (x : Int)).f1) {i : Nat} (hi : i < sq.length) (c : Int) :
 jL W S sq (ai hs (x : Int)).f1 [⟨(i : Int), c⟩] ≤ t ↔ ∃ k, k < (ai hs (x : Int)).f1.length ∧ xX (-1) 0 W S t hs sq i x k = true ∧ c = (ak (ai hs (x : Int)).f1 (k : Int)).f0 := by
 by_cases hex : ∃ k, ∃ hk : k < (ai hs (x : Int)).f1.length, ((ai hs (x : Int)).f1[k]).f0 = c
 ·obtain ⟨k, hk, e⟩ := hex; have hf := vV _ hr.1 k hk c e; rw [← lI _ k hk] at hf e; have hm := AJ (i := i) W S hq hsh hk hf sq.length (Nat.le_refl _); rw [jL, hm, Option.getD_some, ← KV hs W S ht hq x hsh hi hk]; constructor
  ·intro h; exact ⟨k, hk, h, e.symm⟩
  ·rintro ⟨k', hk', h, e'⟩
   have : k' = k := by
    have h1 := vV _ hr.1 k' hk' c (by rw [← lI _ k' hk']; exact e'.symm); rcases Nat.lt_trichotomy k' k with hlt | he | hlt
    ·have := List.pairwise_iff_getElem.1 hr.1 k' k hk' hk hlt; rw [← lI _ k' hk', ← lI _ k hk, e, ← e'] at this; omega
    ·exact he
    ·have := List.pairwise_iff_getElem.1 hr.1 k k' hk hk' hlt; rw [← lI _ k' hk', ← lI _ k hk, e, ← e'] at this; omega
   rw [← this]; exact h
 ·have hn := BQ (ai hs (x : Int)).f1 c (fun s hs' e => by
   obtain ⟨k, hk, rfl⟩ := List.getElem_of_mem hs'
   exact hex ⟨k, hk, e⟩)
  rw [jL, DC W S sq _ hn sq.length hi]; constructor
  ·intro h; simp only [Option.getD_none] at h; omega
  ·rintro ⟨k, hk, _, e⟩; exact absurd ⟨k, hk, by rw [← lI _ k hk]; exact e.symm⟩ hex
theorem LV (W S t : Int) (sq : List (List S27)) (nd : List mQ) : ∀ hs : List S66, kz W S t sq nd hs = true ↔ ∃ h ∈ hs, jL W S sq h.f1 nd ≤ t
 | [] => by simp [kz]
 | h :: r => by
  rw [kz]; by_cases hc : jL W S sq h.f1 nd ≤ t
  ·rw [if_pos hc]; exact ⟨fun _ => ⟨h, List.mem_cons_self, hc⟩, fun _ => rfl⟩
  ·rw [if_neg hc, LV W S t sq nd r]; constructor
   ·rintro ⟨y, hy, e⟩; exact ⟨y, List.mem_cons_of_mem _ hy, e⟩
   ·rintro ⟨y, hy, e⟩; rcases List.mem_cons.1 hy with rfl | hy
    ·exact absurd e hc
    ·exact ⟨y, hy, e⟩
theorem row_iff (gs gl W S t : Int) (hs : List S66) (sq : List (List S27)) (i x : Nat) (c : Int) : ∀ K, mY gs gl W S t hs sq i x K c = true ↔ ∃ k, k < K ∧ xX gs gl W S t hs sq i x k = true ∧ c = (ak (ai hs (x : Int)).f1 (k : Int)).f0
 | 0 => by simp [mY]
 | K + 1 => by
  rw [mY, Bool.or_eq_true, row_iff gs gl W S t hs sq i x c K, Bool.and_eq_true, beq_iff_eq]; constructor
  ·rintro (⟨k, hk, h⟩ | h)
   ·exact ⟨k, by omega, h⟩
   ·exact ⟨K, by omega, h⟩
  ·rintro ⟨k, hk, h⟩; by_cases e : k = K
   ·subst e; exact .inr h
   ·exact .inl ⟨k, by omega, h⟩
def JB (hs : List S66) : Prop := ∀ h ∈ hs, Ris h.f1
theorem zM : ∀ hs : List S66, jl hs = 0 → JB hs
 | [], _ => fun h hh => by cases hh
 | p :: r, e => fun h hh => by
  rw [jl] at e; by_cases h1 : lQ p.f0.f0 p.f0.f1 p.f1 = 0
  ·rw [if_pos h1] at e; rcases List.mem_cons.1 hh with rfl | hh
   ·rw [lQ] at h1; by_cases c1 : inP h.f0.f0 (-3000) 3000 = true ∧ inP h.f0.f1 (-3000) 3000 = true
    ·rw [if_pos c1] at h1; by_cases c2 : h.f0.f0 > h.f0.f1
     ·rw [if_pos c2] at h1; exact absurd h1 (by decide)
     ·rw [if_neg c2] at h1; by_cases c3 : h.f1.length = 0
      ·rw [if_pos c3] at h1; exact absurd h1 (by decide)
      ·rw [if_neg c3] at h1; by_cases c4 : h.f1.length > 8
       ·rw [if_pos c4] at h1; exact absurd h1 (by decide)
       ·rw [if_neg c4] at h1; exact (Sg _ _ h1).1
    ·rw [if_neg c1] at h1; exact absurd h1 (by decide)
   ·exact zM r e h hh
  ·rw [if_neg h1] at e; exact absurd e h1
theorem NU {hs : List S66} {W S t : Int} {sq : List (List S27)} (ht : t ≤ 40) (hq : tX sq) (hh : FW hs) (hr : JB hs) {i : Nat} (hi : i < sq.length) (c : Int) :
 kz W S t sq [⟨(i : Int), c⟩] hs = jq (-1) 0 W S t hs sq i (List.finRange hs.length) c := by
 rw [Bool.eq_iff_iff, LV, jq, List.any_eq_true]; (have hone := fun x : Fin hs.length => TW hs W S ht hq x.1 (hh.at x.2) (by rw [sI]; exact hr _ (List.get_mem _ _)) hi c); constructor
 ·rintro ⟨h, hm, e⟩; obtain ⟨n, hn, rfl⟩ := List.getElem_of_mem hm; refine ⟨⟨n, hn⟩, List.mem_finRange _, ?_⟩; rw [row_iff]; have := hone ⟨n, hn⟩; rw [sI] at this; have h2 := this.1 e; rw [sI]
  simpa only [sI] using h2
 ·rintro ⟨x, _, h⟩; rw [row_iff] at h; refine ⟨hs.get x, List.get_mem _ _, ?_⟩; have := (hone x).2 h
  rwa [sI] at this
theorem wJ {hs : List S66} {W S t : Int} {sq : List (List S27)} (hr : JB hs) (i : Nat) (c : Int) (h : jq (-1) 0 W S t hs sq i (List.finRange hs.length) c = true) : 65 ≤ c ∧ c ≤ 90 := by
 rw [jq, List.any_eq_true] at h; obtain ⟨x, _, h⟩ := h; rw [row_iff] at h; obtain ⟨k, hk, _, rfl⟩ := h; rw [sI] at hk ⊢; rw [lI _ k hk]; exact (hr _ (List.get_mem _ _)).2 _ (List.getElem_mem hk)
theorem Aj (W S t : Int) (hs : List S66) (sq : List (List S27)) (i : Int) (nd : List mQ) : ∀ (n a : Nat), iG W S t hs sq i nd n (a : Int) = ((List.range' a n).map Int.ofNat).filter (fun c => kz W S t sq (nd ++ [⟨i, c⟩]) hs)
 | 0, a => rfl
 | n + 1, a => by
  rw [iG, show ((a : Int) + 1) = ((a + 1 : Nat) : Int) by omega, Aj W S t hs sq i nd n (a + 1), List.range'_succ, List.map_cons, List.filter_cons]; rfl
theorem Fy {hs : List S66} {W S t : Int} {sq : List (List S27)} (hc : eT hs W S t sq = 0) {i : Nat} (hi : i < sq.length) : FR W S t hs sq (i : Int) = ib (-1) 0 W S t hs sq i := by
 obtain ⟨hq, hh⟩ := lY hc; obtain ⟨_, _, _, _, h5, _, _, _, h9⟩ := mo hc; have ht := (ow.1 h9).2; have hr := zM hs h5; (have hf : ∀ c : Int, kz W S t sq ([] ++ [⟨(i : Int), c⟩]) hs = jq (-1) 0 W S t hs sq i (List.finRange hs.length) c := fun c => NU ht hq hh hr hi c); rw [FR, show (65 : Int) = ((65 : Nat) : Int) from rfl, Aj, ib]; (have e : List.range 256 = List.range' 0 65 ++ (List.range' 65 26 ++ List.range' 91 165) := by decide +kernel); rw [e, List.map_append, List.map_append, List.filter_append, List.filter_append]
 have z1 : ((List.range' 0 65).map Int.ofNat).filter (jq (-1) 0 W S t hs sq i (List.finRange hs.length)) = [] := by
  rw [List.filter_eq_nil_iff]; intro c hm h; have := wJ hr i c h; obtain ⟨n, hn, rfl⟩ := List.mem_map.1 hm; rw [List.mem_range'_1] at hn; have e3 : Int.ofNat n = (n : Int) := rfl; omega
 have z2 : ((List.range' 91 165).map Int.ofNat).filter (jq (-1) 0 W S t hs sq i (List.finRange hs.length)) = [] := by
  rw [List.filter_eq_nil_iff]; intro c hm h; have := wJ hr i c h; obtain ⟨n, hn, rfl⟩ := List.mem_map.1 hm; rw [List.mem_range'_1] at hn; have e3 : Int.ofNat n = (n : Int) := rfl; omega
 rw [z1, z2, List.nil_append, List.append_nil]; exact List.filter_congr (fun c _ => hf c)
theorem Xo {hs : List S66} {W S t : Int} {sq : List (List S27)} (hc : eT hs W S t sq = 0) (hne : eQ W S t sq 0 hs ≠ []) {i : Nat} (hi : i < sq.length) : ib (-1) 0 W S t hs sq i ≠ [] := by
 obtain ⟨hq, hh⟩ := lY hc; obtain ⟨_, _, _, _, h5, _, _, _, h9⟩ := mo hc; have ht := (ow.1 h9).2; have hr := zM hs h5; rw [BL hc, mU] at hne; obtain ⟨y, hy⟩ := List.exists_mem_of_ne_nil _ hne; obtain ⟨x, hx, _⟩ := List.mem_map.1 hy; (have hle : kK hs W S sq x.1 ≤ t := by simpa using (List.mem_filter.1 hx).2); have hsh := hh.at x.2; have hle2 := (GV hs W S ht hq x.1 hsh).1 hle; rw [jL, zF W S hq hsh _ (Nat.le_refl _), Option.getD_some] at hle2; have htt := Mw hs W S hq x.1 hsh; have hmem := (wE (f := mZ W S sq (ai hs (x.1 : Int)).f1) sq.length (fun j hj => (uC W S hq hsh hj).1) i hi).1
 have hcell : ∃ k, k < (ai hs (x.1 : Int)).f1.length ∧ mZ W S sq (ai hs (x.1 : Int)).f1 i = cellP W S (gF (dn sq (i : Int))) (ak (ai hs (x.1 : Int)).f1 (k : Int)) := by
  rcases IB W S (gF (dn sq (i : Int))) (ai hs (x.1 : Int)).f1 (ai hs (x.1 : Int)).f1.length with h | h
  ·have h' : mZ W S sq (ai hs (x.1 : Int)).f1 i = 1048576 := h; omega
  ·exact h
 obtain ⟨k, hk, hkv⟩ := hcell
 have hhit : xX (-1) 0 W S t hs sq i x.1 k = true := by
  rw [KV hs W S ht hq x.1 hsh hi hk, ← hkv]
  have e : jg (fun j => qR (qY W S sq (ai hs (x.1 : Int)).f1 i (mZ W S sq (ai hs (x.1 : Int)).f1 i) j)) sq.length = jg (fun j => qR (mZ W S sq (ai hs (x.1 : Int)).f1 j)) sq.length :=
   uO _ (fun j hj => by
    unfold qY; split
    ·rename_i h; rw [h]
    ·rfl)
  rw [e]; exact hle2
 have hf : jq (-1) 0 W S t hs sq i (List.finRange hs.length) (ak (ai hs (x.1 : Int)).f1 (k : Int)).f0 = true := by
  rw [jq, List.any_eq_true]; exact ⟨x, List.mem_finRange _, by rw [row_iff]; exact ⟨k, hk, hhit, rfl⟩⟩
 have hrg := wJ hr i _ hf; intro hnil
 have : (ak (ai hs (x.1 : Int)).f1 (k : Int)).f0 ∈ ib (-1) 0 W S t hs sq i := by
  rw [ib, List.mem_filter]; refine ⟨List.mem_map.2 ⟨(ak (ai hs (x.1 : Int)).f1 (k : Int)).f0.toNat, List.mem_range.2 (by omega), ?_⟩, hf⟩; show ((Int.toNat _ : Nat) : Int) = _; omega
 rw [hnil] at this; cases this
theorem Gc {hs : List S66} {W S t : Int} {sq : List (List S27)} (hc : eT hs W S t sq = 0) : (jw (-1) 0 W S t hs sq).map strOfNums = jk W S t hs sq sq.length := by
 rw [jw, jk, List.map_map]; refine List.map_congr_left (fun i hi => ?_); show strOfNums (ib (-1) 0 W S t hs sq i) = _; rw [Fy hc (List.mem_range.1 hi)]
theorem GJ {hs : List S66} {W S t : Int} {sq : List (List S27)} (h : (mK hs W S t sq).2 ≠ 0) : ∀ k, bG.f k hs W S t sq = some ([], (mK hs W S t sq).2) := fun k => by
 rw [bG.f, dI.f, Option.bind_some, if_neg h]
theorem Ed (hs : List S66) (W S t : Int) (sq : List (List S27)) : (mK hs W S t sq).2 = 0 → eT hs W S t sq = 0 ∧ eQ W S t sq 0 hs ≠ [] := by
 intro h; rw [pu, eO] at h; by_cases hc : eT hs W S t sq = 0
 ·rw [if_pos hc] at h; by_cases hn : eQ W S t sq 0 hs = []
  ·rw [if_pos hn] at h; exact absurd h (by decide)
  ·exact ⟨hc, hn⟩
 ·rw [if_neg hc] at h; exact absurd h hc
end Go.Proofs.Ytihedeofkhapiaa.Pr
end
