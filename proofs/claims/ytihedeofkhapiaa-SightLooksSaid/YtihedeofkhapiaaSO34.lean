/- Part 34 of 36 of the proof of: SightLooks: for every line and slice of numbers, the law returns true: the program tells which letter would be best to be known, and how many letters may still fit then, as the reference does, with the same error, and changes nothing; no condition beyond the statement's own. -/
import Derived.IntWalk
import Derived.Deep.RegionHeld3
import Derived.Deep.QuietTactic
import Derived.BigQuiet
import Derived.Test.YtihedeofkhapiaaSO21
import Derived.Test.YtihedeofkhapiaaSO31
import Derived.Test.YtihedeofkhapiaaSO33
set_option linter.unusedVariables false
set_option linter.unusedSimpArgs false
section
namespace Go.Proofs.Ytihedeofkhapiaa.Pr
open Go.RowKit Go.Proofs.YtihedeofkhapiaaW.PrintWords Go.Proofs.YtihedeofkhapiaaW.PrintLast Go.Proofs.YtihedeofkhapiaaW.PrintMore
theorem Ie (sh : List S86) (j : Nat) (h : j < sh.length) : jb (qN sh j) (sh.drop j) = if (ai sh (j : Int)).f0 < 65 ∨ (ai sh (j : Int)).f0 > 90 then 8 else if inP (ai sh (j : Int)).f1 1 1023 = true then (if (∃ q, qN sh j = some q ∧ (ai sh (j : Int)).f0 ≤ q) then 5 else jb (qN sh (j + 1)) (sh.drop (j + 1))) else 1 := by
 have e : qN sh (j + 1) = some (sh[j]).f0 := by
  rw [qN, if_neg (by omega), Nat.add_sub_cancel, List.getD_eq_getElem?_getD, List.getElem?_eq_getElem h]; rfl
 rw [List.drop_eq_getElem_cons h, jb, jf sh j h, e]
set_option maxRecDepth 100000 in
set_option maxHeartbeats 4000000 in
theorem Ej (lo hi : Int) (Ah : Option Addr) (ch : Nat) (sh : List S86) (w : World) (hh : k86.C w Ah sh.length sh) :
 Calls Try.prog 66 #[.agg #[.int .i64 lo, .int .i64 hi, .slice Ah sh.length ch]] w fun e w' => e = .returned (.int .i64 (kX lo hi sh)) ∧ Below w.heap.size w w' := by
 have HH := aa.mk hh; clear hh; go_enter Try.func66, Try.ntmps66; (go_upto_region 1 with (fail)); obtain ⟨W1, hW1⟩ : ∃ W1, W1 = w.alloc (.cells #[.int .i64 lo, .int .i64 hi, .slice Ah sh.length ch] 66) := ⟨_, rfl⟩; have HB := aa.mk (show Below w.heap.size w W1 by rw [hW1]; exact aH (Below.refl _ _) _); have BH := aa.mk (show W1.heap[w.heap.size]? = some (.cells #[.int .i64 lo, .int .i64 hi, .slice Ah sh.length ch] 66 (0, 0)) by rw [hW1]; exact heap_alloc_new w _); rw [← hW1]; clear hW1; have hb0 : W1.cell? ⟨w.heap.size, 0, none⟩ = some (.int .i64 lo) := (af BH.out 0).trans rfl; have hb1 : W1.cell? ⟨w.heap.size, 1, none⟩ = some (.int .i64 hi) := (af BH.out 1).trans rfl; have hb2 : W1.cell? ⟨w.heap.size, 2, none⟩ = some (.slice Ah sh.length ch) := (af BH.out 2).trans rfl; (go_wp2_with (fail)); refine (oK lo (-3000) 3000 _).mono ?_; rintro e w2 ⟨rfl, rfl⟩
 cases h1 : inP lo (-3000) 3000 with
 | false =>
  have HE := aa.mk (show kX lo hi sh = 1 by rw [kX, if_neg (by rw [h1]; simp)]); clear h1; go_wp2
  go_ret
  exact ⟨by rw [HE.out]; rfl, HB.out⟩
 | true =>
  have H1 := aa.mk h1; clear h1; (go_wp2_with (fail)); refine (oK hi (-3000) 3000 _).mono ?_; rintro e w2 ⟨rfl, rfl⟩
  cases h2 : inP hi (-3000) 3000 with
  | false =>
   have HE := aa.mk (show kX lo hi sh = 1 by rw [kX, if_neg (by rw [h2]; simp)]); clear h2; go_wp2
   go_ret
   exact ⟨by rw [HE.out]; rfl, HB.out⟩
  | true =>
   have HE := aa.mk (show kX lo hi sh = if lo > hi then 5 else if sh.length = 0 then 7 else if sh.length > 8 then 6 else jb none sh by rw [kX, if_pos ⟨H1.out, h2⟩]); clear h2; by_cases c1 : lo > hi
   ·have c1b : decide (hi < lo) = true := decide_eq_true c1; have HF := aa.mk (HE.out.trans (if_pos c1)); go_wp2
    go_ret
    exact ⟨by rw [HF.out]; rfl, HB.out⟩
   ·have c1b : decide (hi < lo) = false := decide_eq_false c1; have HF := aa.mk (HE.out.trans (if_neg c1)); clear HE c1; by_cases c2 : sh.length = 0
    ·(have c2b : ((sh.length : Int) == 0) = true := by rw [c2]; rfl); (have c2c : (sh.length == 0) = true := by rw [c2]; rfl); have HG := aa.mk (HF.out.trans (if_pos c2)); clear c2; go_wp2
     go_ret
     exact ⟨by rw [HG.out]; rfl, HB.out⟩
    ·have c2b : ((sh.length : Int) == 0) = false := beq_eq_false_iff_ne.2 (by omega); have c2c : (sh.length == 0) = false := beq_eq_false_iff_ne.2 c2; have HG := aa.mk (HF.out.trans (if_neg c2)); clear HF c2; by_cases c3 : sh.length > 8
     ·have c3b : decide (8 < (sh.length : Int)) = true := decide_eq_true (by omega); have c3c : decide (8 < sh.length) = true := decide_eq_true c3; have HK := aa.mk (HG.out.trans (if_pos c3)); clear c3; go_wp2
      go_ret
      exact ⟨by rw [HK.out]; rfl, HB.out⟩
     ·have c3b : decide (8 < (sh.length : Int)) = false := decide_eq_false (by omega); have c3c : decide (8 < sh.length) = false := decide_eq_false c3; have HK := aa.mk (HG.out.trans (if_neg c3)); have HL8 := aa.mk (show sh.length ≤ 8 by omega); clear c3 HG; go_wp2
      go_loopw [3, 4] (fun v3 v4 wr => ∃ j : Nat, j ≤ sh.length ∧ v3 = .int .i64 j ∧ aa (kX lo hi sh = jb (qN sh j) (sh.drop j)) ∧ aa (Below w.heap.size w wr) ∧ aa (wr.heap[w.heap.size]? = some (.cells #[.int .i64 lo, .int .i64 hi, .slice Ah sh.length ch] 66 (0, 0)))) (fun v3 _ _ => sh.length - (intOf v3).toNat)
      case atStart => exact ⟨0, by omega, rfl, HK, HB, BH⟩
      case round =>
       clear hb0 hb1 hb2 HB BH HK; obtain ⟨j, hj, rfl, HA, HB, BH⟩ := hrel; have hb2 : wr.cell? ⟨w.heap.size, 2, none⟩ = some (.slice Ah sh.length ch) := (af BH.out 2).trans rfl; by_cases hjl : j < sh.length
       ·have hj1 : decide ((j : Int) < (sh.length : Int)) = true := decide_eq_true (by omega); (have hjlt : (j : Int) < (sh.length : Int) := by omega); (have hj8 : (j : Int) < 8 := by have := HL8.out; omega); obtain ⟨bd, e, hx0, hx1⟩ := mP (Kd.aY HH.out HB.out) (j : Int) (by omega) (by omega); cases e; rw [Int.toNat_natCast] at hx0 hx1; have HD := aa.mk (HA.out.trans (Ie sh j hjl)); obtain ⟨x, hx⟩ : ∃ x, x = ai sh (j : Int) := ⟨_, rfl⟩; rw [← hx] at HD hx0 hx1; have HX := aa.mk hx; have hlw : w.heap.size < wr.heap.size := bW BH.out; clear hx HA c3b c3c c2b c2c c1b; by_cases d1 : x.f0 < 65 ∨ x.f0 > 90
        ·have HF := aa.mk (HD.out.trans (if_pos d1)); by_cases d2 : x.f0 < 65
         ·have d2b : decide (x.f0 < 65) = true := decide_eq_true d2; go_wp2
          go_ret
          exact ⟨by rw [HF.out]; rfl, aH HB.out _⟩
         ·have d2b : decide (x.f0 < 65) = false := decide_eq_false d2; (have d3 : 90 < x.f0 := by omega); have d3b : decide (90 < x.f0) = true := decide_eq_true d3; go_wp2
          go_ret
          exact ⟨by rw [HF.out]; rfl, aH HB.out _⟩
        ·have HF := aa.mk (HD.out.trans (if_neg d1)); have d2b : decide (x.f0 < 65) = false := decide_eq_false (by omega); have d3b : decide (90 < x.f0) = false := decide_eq_false (by omega); clear HD d1; (go_wp2_with (fail)); refine (oK x.f1 1 1023 _).mono ?_; rintro e w2 ⟨rfl, rfl⟩
         cases h1 : inP x.f1 1 1023 with
         | false =>
          have HG := aa.mk (HF.out.trans (if_neg (by rw [h1]; simp))); clear h1; go_wp2
          go_ret
          exact ⟨by rw [HG.out]; rfl, aH HB.out _⟩
         | true =>
          have HG := aa.mk (HF.out.trans (if_pos h1)); clear h1 HF; by_cases hz : j = 0
          ·have HN := aa.mk (show kX lo hi sh = jb (qN sh (j + 1)) (sh.drop (j + 1)) by rw [HG.out, if_neg (by rw [qN, if_pos hz]; simp)]); have hz1 : decide (0 < (j : Int)) = false := decide_eq_false (by omega); have hz2 : decide (0 < j) = false := decide_eq_false (by omega); clear hz; go_wp2; go_quiet (fail); go_wp2
           go_roundw
           (case rel => exact ⟨j + 1, by omega, by go_num, HN, ⟨dn (aH HB.out _) _⟩, ⟨fB (cz BH.out _) _⟩⟩); case measure => simp [intOf]; omega
          ·obtain ⟨bd', e, hy0, _⟩ := mP (Kd.aY HH.out HB.out) ((j : Int) - 1) (by omega) (by omega); cases e; (have ej : ((j : Int) - 1).toNat = j - 1 := by omega); rw [ej] at hy0; obtain ⟨y, hy⟩ : ∃ y, y = ai sh ((j : Int) - 1) := ⟨_, rfl⟩; rw [← hy] at hy0; have hy1 : (wr.alloc (Obj.cells #[.int .u8 x.f0, .int .i64 x.f1] 86)).cell? (bd.add ((j - 1) * 2)) = some (.int .u8 y.f0) := (World.cell?_alloc_some wr _ _ (by rw [hy0]; rfl)).trans hy0; have HY := aa.mk (show qN sh j = some y.f0 by rw [qN, if_neg hz, hy, ai, ej]); have hz1 : decide (0 < (j : Int)) = true := decide_eq_true (by omega); have hz2 : decide (0 < j) = true := decide_eq_true (by omega); (have hz3 : 0 < (j : Int) := by omega); (have hz4 : 1 ≤ (j : Int) := by omega); (have hz5 : (j : Int) - 1 < (sh.length : Int) := by omega); (have hz6 : 0 ≤ (j : Int) - 1 := by omega); have hz7 : IntKind.i64.wrap ((j : Int) - 1) = (j : Int) - 1 := IntWalk.i64_in ((j : Int) - 1) ⟨by omega, by omega⟩; have HJ := aa.mk hz; clear hz hy; by_cases d4 : x.f0 ≤ y.f0
           ·have d4b : decide (x.f0 ≤ y.f0) = true := decide_eq_true d4; have HN := aa.mk (HG.out.trans (if_pos ⟨_, HY.out, d4⟩)); go_wp2; go_quiet (fail); go_wp2
            go_ret
            exact ⟨by rw [HN.out]; rfl, dn (aH HB.out _) _⟩
           ·have d4b : decide (x.f0 ≤ y.f0) = false := decide_eq_false d4
            have HN := aa.mk (show kX lo hi sh = jb (qN sh (j + 1)) (sh.drop (j + 1)) by
             rw [HG.out, if_neg (by rintro ⟨q, e, hq⟩; rw [HY.out] at e; cases e; exact d4 hq)])
            go_wp2; go_quiet (fail); go_wp2
            go_roundw
            (case rel => exact ⟨j + 1, by omega, by go_num, HN, ⟨dn (aH HB.out _) _⟩, ⟨fB (cz BH.out _) _⟩⟩); case measure => simp [intOf]; omega
       ·(obtain rfl : j = sh.length := by omega); (have hj1 : decide ((sh.length : Int) < (sh.length : Int)) = false := by simp); go_wp2
        go_ret
        exact ⟨by rw [HA.out, List.drop_length]; rfl, HB.out⟩
theorem Ir (hs : List S66) (j : Nat) (h : j < hs.length) : ji (hs.drop j) = if kX (ah hs (j : Int)).f0.f0 (ah hs (j : Int)).f0.f1 (ah hs (j : Int)).f1 = 0 then ji (hs.drop (j + 1)) else kX (ah hs (j : Int)).f0.f0 (ah hs (j : Int)).f0.f1 (ah hs (j : Int)).f1 := by
 rw [List.drop_eq_getElem_cons h, ji, lg hs j h]
theorem GJ (sq : List (List S27)) (j : Nat) (h : j < sq.length) : jd (sq.drop j) = if xn (cu sq (j : Int)) = 0 then jd (sq.drop (j + 1)) else xn (cu sq (j : Int)) := by
 (have e : cu sq (j : Int) = sq[j] := by simp [cu, List.getD_eq_getElem?_getD, h]); rw [List.drop_eq_getElem_cons h, jd, e, xn]; by_cases h4 : sq[j].length > 4
 ·rw [if_pos h4, if_pos h4, if_neg (by decide)]
 ·rw [if_neg h4, if_neg h4]
set_option maxRecDepth 100000 in
set_option maxHeartbeats 4000000 in
theorem EW (A1 : Option Addr) (c1 : Nat) (hs : List S66) (W S t : Int) (A4 : Option Addr) (c4 : Nat) (sq : List (List S27)) (w : World)
 (hh : Kd.C k66 w A1 hs.length hs) (hr : Kd.C (Kd.slice 27 k27) w A4 sq.length sq) :
 Calls Try.prog 41 #[.agg #[.slice A1 hs.length c1, .int .i64 W, .int .i64 S, .int .i64 t, .slice A4 sq.length c4]] w fun e w' => e = .returned (.int .i64 (eH hs W S t sq)) ∧ Below w.heap.size w w' := by
 have HR := aa.mk hr; have HH := aa.mk hh; clear hr hh; go_enter Try.func41, Try.ntmps41; (go_upto_region 1 with (fail)); obtain ⟨W1, hW1⟩ : ∃ W1, W1 = w.alloc (.cells #[.slice A1 hs.length c1, .int .i64 W, .int .i64 S, .int .i64 t, .slice A4 sq.length c4] 25) := ⟨_, rfl⟩; have HB := aa.mk (show Below w.heap.size w W1 by rw [hW1]; exact aH (Below.refl _ _) _); have BX := aa.mk (show W1.heap[w.heap.size]? = some (.cells #[.slice A1 hs.length c1, .int .i64 W, .int .i64 S, .int .i64 t, .slice A4 sq.length c4] 25 (0, 0)) by rw [hW1]; exact heap_alloc_new w _); rw [← hW1]; clear hW1; have hb0 : W1.cell? ⟨w.heap.size, 0, none⟩ = some (.slice A1 hs.length c1) := (af BX.out 0).trans rfl; by_cases c2 : hs.length = 0
 ·(have c2b : ((hs.length : Int) == 0) = true := by rw [c2]; rfl); (have c2c : (hs.length == 0) = true := by rw [c2]; rfl); have HG := aa.mk (show eH hs W S t sq = 7 by rw [eH, if_pos c2]); clear c2; go_wp2
  go_ret
  exact ⟨by rw [HG.out]; rfl, HB.out⟩
 have c2b : ((hs.length : Int) == 0) = false := beq_eq_false_iff_ne.2 (by omega); have c2c : (hs.length == 0) = false := beq_eq_false_iff_ne.2 c2; have HE := aa.mk (show eH hs W S t sq = if hs.length > 4 then 6 else if ji hs = 0 then (if inP W 0 10 = true ∧ inP S 0 10 = true ∧ inP t 0 40 = true then (if sq.length = 0 then 7 else if sq.length > 8 then 6 else jd sq) else 1) else ji hs by rw [eH, if_neg c2]); clear c2; by_cases c3 : hs.length > 4
 ·have c3b : decide (4 < (hs.length : Int)) = true := decide_eq_true (by omega); have c3c : decide (4 < hs.length) = true := decide_eq_true c3; have HK := aa.mk (HE.out.trans (if_pos c3)); clear c3; go_wp2
  go_ret
  exact ⟨by rw [HK.out]; rfl, HB.out⟩
 have c3b : decide (4 < (hs.length : Int)) = false := decide_eq_false (by omega); have c3c : decide (4 < hs.length) = false := decide_eq_false c3; have HK := aa.mk (HE.out.trans (if_neg c3)); have HL4 := aa.mk (show hs.length ≤ 4 by omega); clear c3 HE; go_wp2
 go_loopw [3, 4] (fun v3 v4 wr => ∃ j : Nat, j ≤ hs.length ∧ v3 = .int .i64 j ∧ aa (ji hs = ji (hs.drop j)) ∧ aa (Below w.heap.size w wr) ∧ aa (wr.heap[w.heap.size]? = some (.cells #[.slice A1 hs.length c1, .int .i64 W, .int .i64 S, .int .i64 t, .slice A4 sq.length c4] 25 (0, 0)))) (fun v3 _ _ => hs.length - (intOf v3).toNat)
 case atStart => exact ⟨0, by omega, rfl, ⟨rfl⟩, HB, BX⟩
 case round =>
  clear hb0 HB BX; obtain ⟨j, hj, rfl, HA, HB, BX⟩ := hrel; have hb0 : wr.cell? ⟨w.heap.size, 0, none⟩ = some (.slice A1 hs.length c1) := (af BX.out 0).trans rfl; by_cases hjl : j < hs.length
  ·have hj1 : decide ((j : Int) < (hs.length : Int)) = true := decide_eq_true (by omega); (have hjlt : (j : Int) < (hs.length : Int) := by omega); (have hj8 : (j : Int) < 8 := by have := HL4.out; omega); have HD := aa.mk (HA.out.trans (Ir hs j hjl)); obtain ⟨ad, Ah, ch, e, hx0, hx1, hx2, hl2, hi2⟩ := qf (Kd.aY HH.out HB.out) (j : Int) (by omega) (by omega); cases e; rw [Int.toNat_natCast] at hx0 hx1 hx2; obtain ⟨h, hhd⟩ : ∃ h, h = ah hs (j : Int) := ⟨_, rfl⟩; rw [← hhd] at HD hx0 hx1 hx2 hl2 hi2; have HI2 := aa.mk hi2; clear hhd hi2 hl2 HA c2b c2c c3b c3c; (go_wp2_with (fail)); refine (Ej h.f0.f0 h.f0.f1 Ah ch h.f1 _ HI2.out).mono ?_; rintro e w2 ⟨rfl, hb⟩; have HB2 := aa.mk (ax HB.out hb); have BX2 := aa.mk (au BX.out hb); obtain ⟨ev, hev⟩ : ∃ ev, ev = kX h.f0.f0 h.f0.f1 h.f1 := ⟨_, rfl⟩; rw [← hev] at HD ⊢; clear hev hx0 hx1 hx2 hb; by_cases hz : ev = 0
   ·have HZ := aa.mk hz; (have z1 : (ev == 0) = true := by rw [hz]; rfl); (have z2 : (ev != 0) = false := by rw [hz]; rfl); clear hz; go_wp2
    go_roundw
    (case rel => exact ⟨j + 1, by omega, by go_num, ⟨HD.out.trans (if_pos HZ.out)⟩, HB2, BX2⟩); case measure => simp [intOf]; omega
   ·have HZ := aa.mk (show eH hs W S t sq = ev by
     have e1 : ji hs = ev := HD.out.trans (if_neg hz)
     rw [HK.out, e1, if_neg hz])
    have z1 : (ev == 0) = false := beq_eq_false_iff_ne.2 hz; have z2 : (ev != 0) = true := bne_iff_ne.2 hz; clear hz; go_wp2
    go_ret
    exact ⟨by rw [HZ.out]; rfl, HB2.out⟩
  ·(obtain rfl : j = hs.length := by omega); have hj1 : decide ((hs.length : Int) < (hs.length : Int)) = false := by simp
   have HM := aa.mk (show eH hs W S t sq = if inP W 0 10 = true ∧ inP S 0 10 = true ∧ inP t 0 40 = true then (if sq.length = 0 then 7 else if sq.length > 8 then 6 else jd sq) else 1 by
    rw [HK.out, HA.out, List.drop_length, ji, if_pos rfl])
   have hz1 : wr.cell? ⟨w.heap.size, 1, none⟩ = some (.int .i64 W) := (af BX.out 1).trans rfl; have hz2 : wr.cell? ⟨w.heap.size, 2, none⟩ = some (.int .i64 S) := (af BX.out 2).trans rfl; have hz3 : wr.cell? ⟨w.heap.size, 3, none⟩ = some (.int .i64 t) := (af BX.out 3).trans rfl; have hz4 : wr.cell? ⟨w.heap.size, 4, none⟩ = some (.slice A4 sq.length c4) := (af BX.out 4).trans rfl; clear HK HA hj hjl; (go_wp2_with (fail)); refine (oK W 0 10 _).mono ?_; rintro e w2 ⟨rfl, rfl⟩
   cases h1 : inP W 0 10 with
   | false =>
    have HE := aa.mk (HM.out.trans (if_neg (by rw [h1]; simp))); clear h1; go_wp2
    go_ret
    exact ⟨by rw [HE.out]; rfl, HB.out⟩
   | true =>
    have H1 := aa.mk h1; clear h1; (go_wp2_with (fail)); refine (oK S 0 10 _).mono ?_; rintro e w2 ⟨rfl, rfl⟩
    cases h2 : inP S 0 10 with
    | false =>
     have HE := aa.mk (HM.out.trans (if_neg (by rw [h2]; simp))); clear h2; go_wp2
     go_ret
     exact ⟨by rw [HE.out]; rfl, HB.out⟩
    | true =>
     have H2 := aa.mk h2; clear h2; (go_wp2_with (fail)); refine (oK t 0 40 _).mono ?_; rintro e w2 ⟨rfl, rfl⟩
     cases h3 : inP t 0 40 with
     | false =>
      have HE := aa.mk (HM.out.trans (if_neg (by rw [h3]; simp))); clear h3; go_wp2
      go_ret
      exact ⟨by rw [HE.out]; rfl, HB.out⟩
     | true =>
      have HE := aa.mk (HM.out.trans (if_pos ⟨H1.out, H2.out, h3⟩)); clear h3 HM H1 H2; by_cases d2 : sq.length = 0
      ·(have d2b : ((sq.length : Int) == 0) = true := by rw [d2]; rfl); (have d2c : (sq.length == 0) = true := by rw [d2]; rfl); have HG := aa.mk (HE.out.trans (if_pos d2)); clear d2; go_wp2
       go_ret
       exact ⟨by rw [HG.out]; rfl, HB.out⟩
      have d2b : ((sq.length : Int) == 0) = false := beq_eq_false_iff_ne.2 (by omega); have d2c : (sq.length == 0) = false := beq_eq_false_iff_ne.2 d2; have HF := aa.mk (HE.out.trans (if_neg d2)); clear d2; by_cases d3 : sq.length > 8
      ·have d3b : decide (8 < (sq.length : Int)) = true := decide_eq_true (by omega); have d3c : decide (8 < sq.length) = true := decide_eq_true d3; have HK := aa.mk (HF.out.trans (if_pos d3)); clear d3; go_wp2
       go_ret
       exact ⟨by rw [HK.out]; rfl, HB.out⟩
      have d3b : decide (8 < (sq.length : Int)) = false := decide_eq_false (by omega); have d3c : decide (8 < sq.length) = false := decide_eq_false d3; have HK := aa.mk (HF.out.trans (if_neg d3)); have HL8 := aa.mk (show sq.length ≤ 8 by omega); clear d3 HE HF; go_wp2
      go_loopw [5, 6] (fun v3 v4 wr => ∃ j : Nat, j ≤ sq.length ∧ v3 = .int .i64 j ∧ aa (eH hs W S t sq = jd (sq.drop j)) ∧ aa (Below w.heap.size w wr) ∧ aa (wr.heap[w.heap.size]? = some (.cells #[.slice A1 hs.length c1, .int .i64 W, .int .i64 S, .int .i64 t, .slice A4 sq.length c4] 25 (0, 0)))) (fun v3 _ _ => sq.length - (intOf v3).toNat)
      case atStart => exact ⟨0, by omega, rfl, HK, HB, BX⟩
      case round =>
       clear hz1 hz2 hz3 hz4 hb0 HB BX HK; obtain ⟨j, hj, rfl, HA, HB, BX⟩ := hrel; have hb4 : wr.cell? ⟨w.heap.size, 4, none⟩ = some (.slice A4 sq.length c4) := (af BX.out 4).trans rfl; by_cases hjl : j < sq.length
       ·have hj1 : decide ((j : Int) < (sq.length : Int)) = true := decide_eq_true (by omega); (have hjlt : (j : Int) < (sq.length : Int) := by omega); (have hj8 : (j : Int) < 8 := by have := HL8.out; omega); have HD := aa.mk (HA.out.trans (GJ sq j hjl)); obtain ⟨ad, Ah, ch, e, hx0, hl2, hi2⟩ := xA (Kd.aY HR.out HB.out) (j : Int) (by omega) (by omega); cases e; rw [Int.toNat_natCast] at hx0; obtain ⟨q, hqd⟩ : ∃ q, q = cu sq (j : Int) := ⟨_, rfl⟩; rw [← hqd] at HD hx0 hl2 hi2; have HI2 := aa.mk hi2; clear hqd hi2 hl2 HA d2b d2c d3b d3c c2b c2c c3b c3c; (go_wp2_with (fail)); refine (AU Ah ch q _ HI2.out).mono ?_; rintro e w2 ⟨rfl, hb⟩; have HB2 := aa.mk (ax HB.out hb); have BX2 := aa.mk (au BX.out hb); obtain ⟨ev, hev⟩ : ∃ ev, ev = xn q := ⟨_, rfl⟩; rw [← hev] at HD ⊢; clear hev hx0 hb; by_cases hz : ev = 0
        ·have HZ := aa.mk hz; (have z1 : (ev == 0) = true := by rw [hz]; rfl); (have z2 : (ev != 0) = false := by rw [hz]; rfl); clear hz; go_wp2
         go_roundw
         (case rel => exact ⟨j + 1, by omega, by go_num, ⟨HD.out.trans (if_pos HZ.out)⟩, HB2, BX2⟩); case measure => simp [intOf]; omega
        ·have HZ := aa.mk (HD.out.trans (if_neg hz)); have z1 : (ev == 0) = false := beq_eq_false_iff_ne.2 hz; have z2 : (ev != 0) = true := bne_iff_ne.2 hz; clear hz; go_wp2
         go_ret
         exact ⟨by rw [HZ.out]; rfl, HB2.out⟩
       ·(obtain rfl : j = sq.length := by omega); (have hj1 : decide ((sq.length : Int) < (sq.length : Int)) = false := by simp); go_wp2
        go_ret
        exact ⟨by rw [HA.out, List.drop_length]; rfl, HB.out⟩
theorem zn {n : Int} {lo : Int} (hlo : 0 ≤ lo) (h : inP n lo 1023 = true) : 0 ≤ n ∧ n < 1024 := by
 have := nR.1 h; omega
theorem EN : ∀ q : List S27, ko q = 0 → za q
 | [], _ => fun x hx => by cases hx
 | y :: r, h => fun x hx => by
  rw [ko] at h; by_cases h1 : inP y.f0 0 1023 = true ∧ inP y.f1 0 1023 = true
  ·rw [if_pos h1] at h; by_cases h2 : gp y.f1 y.f0 = 0
   ·rw [if_pos h2] at h; rcases List.mem_cons.1 hx with rfl | hx
    ·obtain ⟨f0, f1⟩ := x; have a0 := zn (by decide) h1.1; have a1 := zn (by decide) h1.2; obtain ⟨s, rfl⟩ : ∃ s : Nat, f0 = (s : Int) := ⟨f0.toNat, by simp only at a0; omega⟩; obtain ⟨n, rfl⟩ : ∃ n : Nat, f1 = (n : Int) := ⟨f1.toNat, by simp only at a1; omega⟩; simp only at a0 a1 h2; (have b0 : s < 1024 := by omega); (have b1 : n < 1024 := by omega); obtain ⟨c, hc, e, hz⟩ := xP b1 b0; exact ⟨s, n, b0, b1, rfl, hz (by rw [e] at h2; omega)⟩
    ·exact EN r h x hx
   ·rw [if_neg h2] at h; exact absurd h (by decide)
  ·rw [if_neg h1] at h; exact absurd h (by decide)
theorem C9 : ∀ sq : List (List S27), jd sq = 0 → ∀ q ∈ sq, q.length ≤ 4 ∧ za q
 | [], _ => fun q hq => by cases hq
 | p :: r, h => fun q hq => by
  rw [jd] at h; by_cases h1 : p.length > 4
  ·rw [if_pos h1] at h; exact absurd h (by decide)
  ·rw [if_neg h1] at h; by_cases h2 : ko p = 0
   ·rw [if_pos h2] at h; rcases List.mem_cons.1 hq with rfl | hq
    ·exact ⟨by omega, EN _ h2⟩
    ·exact C9 r h q hq
   ·rw [if_neg h2] at h; exact absurd h h2
theorem EM : ∀ (sh : List S86) (p : Option Int), jb p sh = 0 → ∀ s ∈ sh, 0 ≤ s.f1 ∧ s.f1 < 1024
 | [], _, _ => fun s hs => by cases hs
 | x :: r, p, h => fun s hs => by
  rw [jb] at h; by_cases h1 : x.f0 < 65 ∨ x.f0 > 90
  ·rw [if_pos h1] at h; exact absurd h (by decide)
  ·rw [if_neg h1] at h; by_cases h2 : inP x.f1 1 1023 = true
   ·rw [if_pos h2] at h; by_cases h3 : ∃ q, p = some q ∧ x.f0 ≤ q
    ·rw [if_pos h3] at h; exact absurd h (by decide)
    ·rw [if_neg h3] at h; rcases List.mem_cons.1 hs with rfl | hs
     ·exact zn (by decide) h2
     ·exact EM r _ h s hs
   ·rw [if_neg h2] at h; exact absurd h (by decide)
theorem Ip : ∀ hs : List S66, ji hs = 0 → ∀ h ∈ hs, pY h.f1
 | [], _ => fun h hh => by cases hh
 | p :: r, e => fun h hh => by
  rw [ji] at e; by_cases h1 : kX p.f0.f0 p.f0.f1 p.f1 = 0
  ·rw [if_pos h1] at e; rcases List.mem_cons.1 hh with rfl | hh
   ·rw [kX] at h1; by_cases c1 : inP h.f0.f0 (-3000) 3000 = true ∧ inP h.f0.f1 (-3000) 3000 = true
    ·rw [if_pos c1] at h1; by_cases c2 : h.f0.f0 > h.f0.f1
     ·rw [if_pos c2] at h1; exact absurd h1 (by decide)
     ·rw [if_neg c2] at h1; by_cases c3 : h.f1.length = 0
      ·rw [if_pos c3] at h1; exact absurd h1 (by decide)
      ·rw [if_neg c3] at h1; by_cases c4 : h.f1.length > 8
       ·rw [if_pos c4] at h1; exact absurd h1 (by decide)
       ·rw [if_neg c4] at h1; exact ⟨by omega, EM _ _ h1⟩
    ·rw [if_neg c1] at h1; exact absurd h1 (by decide)
   ·exact Ip r e h hh
  ·rw [if_neg h1] at e; exact absurd e h1
theorem mW {hs : List S66} {W S t : Int} {sq : List (List S27)} (h : eH hs W S t sq = 0) : nZ sq ∧ A8 hs := by
 obtain ⟨_, h1, _, h2, h3, h4, _⟩ := kE h; exact ⟨⟨h2, C9 sq h4⟩, ⟨by omega, Ip hs h3⟩⟩
def kg (hs : List S66) (W S t : Int) (sq : List (List S27)) : List Int × Int :=
 if eH hs W S t sq = 0 then (if ik W S t sq 0 hs = [] then ([], 9) else (ik W S t sq 0 hs, 0)) else ([], eH hs W S t sq)
set_option maxRecDepth 100000 in
set_option maxHeartbeats 4000000 in
theorem M6 (A1 : Option Addr) (c1 : Nat) (hs : List S66) (W S t : Int) (A4 : Option Addr) (c4 : Nat) (sq : List (List S27)) (w : World)
 (hh : Kd.C k66 w A1 hs.length hs) (hr : Kd.C (Kd.slice 27 k27) w A4 sq.length sq) :
 Calls Try.prog 37 #[.agg #[.slice A1 hs.length c1, .int .i64 W, .int .i64 S, .int .i64 t, .slice A4 sq.length c4]] w fun e w' => ∃ v, e = .returned (.tuple #[v, .int .i64 (kg hs W S t sq).2]) ∧ Kd.R (Kd.int .i64) 3 w' w.heap.size (fun _ => True) v (kg hs W S t sq).1 ∧ Below w.heap.size w w' := by
 have HR := aa.mk hr; have HH := aa.mk hh; clear hr hh; go_enter Try.func37, Try.ntmps37; (go_upto_region 1 with (fail)); obtain ⟨W1, hW1⟩ : ∃ W1, W1 = w.alloc (.cells #[.slice A1 hs.length c1, .int .i64 W, .int .i64 S, .int .i64 t, .slice A4 sq.length c4] 25) := ⟨_, rfl⟩; have HB := aa.mk (show Below w.heap.size w W1 by rw [hW1]; exact aH (Below.refl _ _) _); have BX := aa.mk (show W1.heap[w.heap.size]? = some (.cells #[.slice A1 hs.length c1, .int .i64 W, .int .i64 S, .int .i64 t, .slice A4 sq.length c4] 25 (0, 0)) by rw [hW1]; exact heap_alloc_new w _); rw [← hW1]; have hb0 : W1.cell? ⟨w.heap.size, 0, none⟩ = some (.slice A1 hs.length c1) := (af BX.out 0).trans rfl; have hb1 : W1.cell? ⟨w.heap.size, 1, none⟩ = some (.int .i64 W) := (af BX.out 1).trans rfl; have hb2 : W1.cell? ⟨w.heap.size, 2, none⟩ = some (.int .i64 S) := (af BX.out 2).trans rfl; have hb3 : W1.cell? ⟨w.heap.size, 3, none⟩ = some (.int .i64 t) := (af BX.out 3).trans rfl; have hb4 : W1.cell? ⟨w.heap.size, 4, none⟩ = some (.slice A4 sq.length c4) := (af BX.out 4).trans rfl; clear hW1; (go_wp2_with (fail)); refine (EW A1 c1 hs W S t A4 c4 sq _ (Kd.aY HH.out HB.out) (Kd.aY HR.out HB.out)).mono ?_; rintro e w2 ⟨rfl, hb⟩; have HB2 := aa.mk (ax HB.out hb); have BX2 := aa.mk (au BX.out hb); clear hb hb0 hb1 hb2 hb3 hb4; have HE := aa.mk (show kg hs W S t sq = if eH hs W S t sq = 0 then (if ik W S t sq 0 hs = [] then ([], 9) else (ik W S t sq 0 hs, 0)) else ([], eH hs W S t sq) from rfl); have HOK := aa.mk (fun h : eH hs W S t sq = 0 => mW h); obtain ⟨ev, hev⟩ : ∃ ev, ev = eH hs W S t sq := ⟨_, rfl⟩; rw [← hev] at HE HOK ⊢; clear hev; by_cases hz : ev = 0
 ·have HF := aa.mk (HE.out.trans (if_pos hz)); obtain ⟨oq, oh⟩ := HOK.out hz; have OQ := aa.mk oq; have OH := aa.mk oh; (have z1 : (ev == 0) = true := by rw [hz]; rfl); (have z2 : (ev != 0) = false := by rw [hz]; rfl); clear hz HE HOK oq oh; have hb0 : w2.cell? ⟨w.heap.size, 0, none⟩ = some (.slice A1 hs.length c1) := (af BX2.out 0).trans rfl; have hb1 : w2.cell? ⟨w.heap.size, 1, none⟩ = some (.int .i64 W) := (af BX2.out 1).trans rfl; have hb2 : w2.cell? ⟨w.heap.size, 2, none⟩ = some (.int .i64 S) := (af BX2.out 2).trans rfl; have hb3 : w2.cell? ⟨w.heap.size, 3, none⟩ = some (.int .i64 t) := (af BX2.out 3).trans rfl; have hb4 : w2.cell? ⟨w.heap.size, 4, none⟩ = some (.slice A4 sq.length c4) := (af BX2.out 4).trans rfl; have HS2 := aa.mk (bW BX2.out); (go_wp2_with (fail)); refine (NL A1 c1 hs W S t A4 c4 sq _ (Kd.aY HH.out HB2.out) (Kd.aY HR.out HB2.out) OQ.out OH.out).mono ?_; rintro e w3 ⟨v, rfl, hv, hb⟩; have HB3 := aa.mk (ax HB2.out hb); clear hb hb0 hb1 hb2 hb3 hb4; obtain ⟨fs, hfs⟩ : ∃ fs, fs = ik W S t sq 0 hs := ⟨_, rfl⟩; rw [← hfs] at HF hv; clear hfs; obtain ⟨A, c, rfl⟩ := Kd.fM hv; have HV := aa.mk (Kd.fH hv (Nat.le_of_lt HS2.out)); clear hv; by_cases hn : fs.length = 0
  ·(have n1 : ((fs.length : Int) == 0) = true := by rw [hn]; rfl); (have n2 : (fs.length == 0) = true := by rw [hn]; rfl); have HG := aa.mk (HF.out.trans (if_pos (List.length_eq_zero_iff.1 hn))); clear hn; go_wp2
   go_ret2
   exact ⟨_, by rw [HG.out]; rfl, by rw [HG.out]; exact Kd.uj _ _ _ _ _, HB3.out⟩
  ·have n1 : ((fs.length : Int) == 0) = false := beq_eq_false_iff_ne.2 (by omega); have n2 : (fs.length == 0) = false := beq_eq_false_iff_ne.2 hn; have HG := aa.mk (HF.out.trans (if_neg (fun e => hn (by rw [e]; rfl)))); clear hn; go_wp2
   go_ret2
   exact ⟨_, by rw [HG.out]; rfl, by rw [HG.out]; exact HV.out, HB3.out⟩
 ·have HF := aa.mk (HE.out.trans (if_neg hz)); have z1 : (ev == 0) = false := beq_eq_false_iff_ne.2 hz; have z2 : (ev != 0) = true := bne_iff_ne.2 hz; clear hz HE HOK; go_wp2
  go_ret2
  exact ⟨_, by rw [HF.out]; rfl, by rw [HF.out]; exact Kd.uj _ _ _ _ _, HB2.out⟩
def xD (W S : Int) (sq : List (List S27)) : Int → List S66 → Int
 | b, [] => b
 | b, h :: r => xD W S sq (min b (iY W S sq h.f1 [])) r
theorem ZP (W S : Int) (sq : List (List S27)) (hs : List S66) (b : Int) (j : Nat) (h : j < hs.length) : xD W S sq b (hs.drop j) = xD W S sq (min b (iY W S sq (ah hs (j : Int)).f1 [])) (hs.drop (j + 1)) := by
 rw [List.drop_eq_getElem_cons h, xD, lg hs j h]
def KV (hs : List S66) (W S t : Int) (sq : List (List S27)) : Int × Int :=
 if eH hs W S t sq = 0 then (if xD W S sq 1000 hs ≥ 1000 then (0, 9) else (xD W S sq 1000 hs, 0)) else (0, eH hs W S t sq)
def dK (W S t : Int) (hs : List S66) (sq : List (List S27)) (i : Int) (nd : List kL) : Nat → Int → List Int
 | 0, _ => []
 | n + 1, c => if jw W S t sq (nd ++ [⟨i, c⟩]) hs = true then c :: dK W S t hs sq i nd n (c + 1) else dK W S t hs sq i nd n (c + 1)
def mR.T5 : Bool × List (List Nat × List Nat) := (true, [([], []), ([], []), ([], []), ([1, 2], [1, 2]), ([], []), ([], []), ([4, 5], [4, 5]), ([6], [6]), ([3, 7, 3], [3, 7]), ([0, 8, 8], [0, 8])])
def mR.B5 : List Nat := [0, 0, 0, 6, 0, 0, 48, 112, 254, 511]
theorem mR.Py : mr .any (opsOf Try.f62 5) = mR.T5 := by kernel_rfl
theorem mR.Hy : lL mR.T5.2 mR.B5 = true := by kernel_rfl
set_option maxRecDepth 100000 in
set_option maxHeartbeats 4000000 in
theorem AA (A1 : Option Addr) (c1 : Nat) (hs : List S66) (W S t : Int) (A4 : Option Addr) (c4 : Nat) (sq : List (List S27)) (i : Int) (An : Option Addr) (cn : Nat) (nd : List kL) (w : World)
 (hh : Kd.C k66 w A1 hs.length hs) (hr : Kd.C (Kd.slice 27 k27) w A4 sq.length sq) (hn : qI.C w An nd.length nd) (hnl : nd.length ≤ 7) (hq : nZ sq) (hho : A8 hs) :
 Calls Try.prog 62 #[.agg #[.slice A1 hs.length c1, .int .i64 W, .int .i64 S, .int .i64 t, .slice A4 sq.length c4], .int .i64 i, .slice An nd.length cn] w fun e w' => e = .returned (.string (strOfNums (dK W S t hs sq i nd 26 65))) ∧ Below w.heap.size w w' := by
 have HR := aa.mk hr; have HH := aa.mk hh; have HN := aa.mk hn; have HNL := aa.mk hnl; have HQ := aa.mk hq; have HS := aa.mk hho; clear hr hh hn hnl hq hho; go_enter Try.func62, Try.ntmps62; go_wp2
 go_loopw [7, 8] (fun v4 v5 wr => ∃ (j : Nat) (acc : List Int), j ≤ 26 ∧ v4 = .string (strOfNums acc) ∧ v5 = .int .u8 (65 + (j : Int)) ∧ aa (acc ++ dK W S t hs sq i nd (26 - j) (65 + (j : Int)) = dK W S t hs sq i nd 26 65 ∧ acc.length ≤ j ∧ ∀ c ∈ acc, 0 ≤ c ∧ c < 256) ∧ aa (Below w.heap.size w wr) ∧ aa (wr.heap[w.heap.size]? = some (.cells #[.slice A1 hs.length c1, .int .i64 W, .int .i64 S, .int .i64 t, .slice A4 sq.length c4] 25 (0, 0)))) (fun _ v5 _ => 91 - (intOf v5).toNat)
 case atStart => exact ⟨0, [], by omega, rfl, rfl, ⟨rfl, by simp, by simp⟩, ⟨aH (Below.refl _ _) _⟩, ⟨heap_alloc_new w _⟩⟩
 case round =>
  obtain ⟨j, acc, hj, rfl, rfl, HA, HB, BX⟩ := hrel; have hz0 : wr.cell? ⟨w.heap.size, 0, none⟩ = some (.slice A1 hs.length c1) := (af BX.out 0).trans rfl; by_cases hjl : j < 26
  ·have hj1 : decide (65 + (j : Int) ≤ 90) = true := decide_eq_true (by omega); have hz1 : wr.cell? ⟨w.heap.size, 1, none⟩ = some (.int .i64 W) := (af BX.out 1).trans rfl; have hz2 : wr.cell? ⟨w.heap.size, 2, none⟩ = some (.int .i64 S) := (af BX.out 2).trans rfl; have hz3 : wr.cell? ⟨w.heap.size, 3, none⟩ = some (.int .i64 t) := (af BX.out 3).trans rfl; have hz4 : wr.cell? ⟨w.heap.size, 4, none⟩ = some (.slice A4 sq.length c4) := (af BX.out 4).trans rfl; (go_wp2_with (fail)); have nB := aa.mk (eF HB.out); have nX := aa.mk (dO BX.out); clear HB BX; have HB := nB; have BX := nX; clear nB nX; refine qH (n := 10) (S := fun w' => w'.cell? ⟨w.heap.size, 0, none⟩ = some (.slice A1 hs.length c1) ∧ w'.cell? ⟨w.heap.size, 1, none⟩ = some (.int .i64 W) ∧ w'.cell? ⟨w.heap.size, 2, none⟩ = some (.int .i64 S) ∧ w'.cell? ⟨w.heap.size, 3, none⟩ = some (.int .i64 t) ∧ w'.cell? ⟨w.heap.size, 4, none⟩ = some (.slice A4 sq.length c4)) (ds := [9]) (ba 10 0) (by kernel_rfl) rfl rfl ⟨hz0, hz1, hz2, hz3, hz4⟩ (fun bR => ?_); refine mg mR.Py mR.Hy (fun HT_ HW_ => ?_); refine fU 2 15 (ba 10 4) HT_.out ?_
   refine fU 4 17 (ba 10 20) HT_.out ?_
   refine fU 5 18 (ba 10 52) HT_.out ?_
   refine fU 6 19 (ba 10 116) HT_.out ?_
   refine tV 0 13 (ba 10 117) HT_.out HW_.out bR ?_
   refine xw (σ := Value × Value × Value) 2 (ba 10 255) (fun s_ => [(14, s_.1), (16, s_.2.1), (20, s_.2.2)]) (fun s_ w' => (w'.cell? ⟨w.heap.size, 0, none⟩ = some (.slice A1 hs.length c1) ∧ w'.cell? ⟨w.heap.size, 1, none⟩ = some (.int .i64 W) ∧ w'.cell? ⟨w.heap.size, 2, none⟩ = some (.int .i64 S) ∧ w'.cell? ⟨w.heap.size, 3, none⟩ = some (.int .i64 t) ∧ w'.cell? ⟨w.heap.size, 4, none⟩ = some (.slice A4 sq.length c4)) ∧ qI.R 126 w' w.heap.size (fun _ => True) s_.2.1 nd ∧ qI.R 126 w' w.heap.size (fun _ => True) s_.2.2 [⟨i, 65 + (j : Int)⟩] ∧ Below w.heap.size w w' ∧ w'.heap[w.heap.size]? = some (.cells #[.slice A1 hs.length c1, .int .i64 W, .int .i64 S, .int .i64 t, .slice A4 sq.length c4] 25 (0, 0))) ?_ ?_; rotate_left
   ·intro hCont; refine Cz 1 7 14 20 (ba 10 119) (ba 10 245) HT_.out (fun K hK => ?_) (fun K hK => ?_)
    ·skip; refine Kd.iF qI w.heap.size 126 ?hg (N := 14) ?hd (xs := ([] : List kL)) (inner := []) (ok := fun _ => True) (okp := fun _ => True) ?hr ?hp (fun _ hk => hk) trivial HB.out (az HB.out) (by simp) ?_; (case hd => rfl); (case hg => rfl); (case hr => first | (go_simp; done) | (go_simp; rfl)); (case hp => exact (dM.none _ _)); intro v14 w_ ho hb hg hat; have nO := aa.mk ho; have nX := aa.mk (bQ BX.out hg (by simp)); clear BX HB; have BX := nX; have HB := aa.mk hb; have H14 := nO; clear ho hb hg hat nO nX; refine hK.out _ _ ⟨(af BX.out 0).trans rfl, (af BX.out 1).trans rfl, (af BX.out 2).trans rfl, (af BX.out 3).trans rfl, (af BX.out 4).trans rfl⟩ (fun bR => ?_); clear hK K; refine mD ?_
     refine Cz 3 7 16 20 (ba 10 127) (ba 10 247) HT_.out (fun K hK => ?_) (fun K hK => ?_)
     ·skip; refine Kd.fT qI (w0 := w) w.heap.size (by rfl) (.tmp 14) (.tmp 15) 123 126 (.agg #[.int .i64 0, .int .u8 0]) 16 rfl Try.underlying123 Bi rfl (by decide) (by decide) v14 [] nd An _ _ (fun _ => True) (fun _ => False) rfl rfl H14.out (Kd.aY HN.out HB.out) (fun _ _ h => h) (fun _ h => h.elim) (fun _ _ => trivial) HB.out (az HB.out) (by have := HNL.out; simp only [List.length_nil]; omega) ?_; intro v16 w_ ho hb hg hat; rw [List.nil_append] at ho; have nO := aa.mk ho; have nX := aa.mk (bQ BX.out hg (Kd.mO H14.out BX.out (by decide))); clear BX HB H14; have BX := nX; have HB := aa.mk hb; have H16 := nO; clear ho hb hg hat nO nX; refine hK.out _ _ ⟨(af BX.out 0).trans rfl, (af BX.out 1).trans rfl, (af BX.out 2).trans rfl, (af BX.out 3).trans rfl, (af BX.out 4).trans rfl⟩ (fun bR => ?_); clear hK K; refine mD ?_
      refine on_ 7 (some 20) (ba 10 255) HT_.out (fun K hK => ?_); refine Kd.iF qI w.heap.size 126 ?hg (N := 20) ?hd (xs := ([⟨i, 65 + (j : Int)⟩] : List kL)) (inner := [.int .i64 i, .int .u8 (65 + (j : Int))]) (ok := fun _ => True) (okp := fun _ => True) ?hr ?hp (fun _ hk => hk) trivial HB.out (az HB.out) (by simp) ?_; (case hd => rfl); (case hg => rfl); (case hr => first | (go_simp; done) | (go_simp; rfl)); (case hp => exact (dM.c2 (show Kd.M qI _ _ _ (⟨i, 65 + (j : Int)⟩ : kL) [.int .i64 i, .int .u8 (65 + (j : Int))] from yg _ _ _ _) (dM.none _ _))); intro v20 w_ ho hb hg hat; have nO := aa.mk ho; have nX := aa.mk (bQ BX.out hg (by simp)); have n16 := aa.mk (Kd.vo H16.out rfl hg (fun _ e => by cases e))
      have nD := aa.mk (show v16.ownBlock ≠ v20.ownBlock by
       obtain ⟨b, e, hlt⟩ := hat; obtain ⟨_, ho'⟩ := Kd.yC H16.out; intro e'
       exact Nat.lt_irrefl _ (Nat.lt_of_lt_of_le (zB ho' b (e'.trans e)) hlt))
      clear BX HB H16; have BX := nX; have HB := aa.mk hb; have H20 := nO; have H16 := n16; have HDIS := nD; clear nD ho hb hg hat nO nX n16; refine hK.out _ _ ⟨(af BX.out 0).trans rfl, (af BX.out 1).trans rfl, (af BX.out 2).trans rfl, (af BX.out 3).trans rfl, (af BX.out 4).trans rfl⟩ (fun _ => hCont ⟨_, _, _⟩ _ ⟨⟨(af BX.out 0).trans rfl, (af BX.out 1).trans rfl, (af BX.out 2).trans rfl, (af BX.out 3).trans rfl, (af BX.out 4).trans rfl⟩, H16.out, H20.out, HB.out, BX.out⟩)
     ·skip; refine Kd.iF qI w.heap.size 126 ?hg (N := 20) ?hd (xs := ([⟨i, 65 + (j : Int)⟩] : List kL)) (inner := [.int .i64 i, .int .u8 (65 + (j : Int))]) (ok := fun _ => True) (okp := fun _ => True) ?hr ?hp (fun _ hk => hk) trivial HB.out (az HB.out) (by simp) ?_; (case hd => rfl); (case hg => rfl); (case hr => first | (go_simp; done) | (go_simp; rfl)); (case hp => exact (dM.c2 (show Kd.M qI _ _ _ (⟨i, 65 + (j : Int)⟩ : kL) [.int .i64 i, .int .u8 (65 + (j : Int))] from yg _ _ _ _) (dM.none _ _))); intro v20 w_ ho hb hg hat; have nO := aa.mk ho; have nX := aa.mk (bQ BX.out hg (by simp)); have n14 := aa.mk (Kd.vo H14.out rfl hg (fun _ e => by cases e))
      have nD := aa.mk (show v14.ownBlock ≠ v20.ownBlock by
       obtain ⟨b, e, hlt⟩ := hat; obtain ⟨_, ho'⟩ := Kd.yC H14.out; intro e'
       exact Nat.lt_irrefl _ (Nat.lt_of_lt_of_le (zB ho' b (e'.trans e)) hlt))
      clear BX HB H14; have BX := nX; have HB := aa.mk hb; have H20 := nO; have H14 := n14; have HDIS := nD; clear nD ho hb hg hat nO nX n14; refine hK.out _ _ ⟨(af BX.out 0).trans rfl, (af BX.out 1).trans rfl, (af BX.out 2).trans rfl, (af BX.out 3).trans rfl, (af BX.out 4).trans rfl⟩ (fun bR => ?_); clear hK K; refine mD ?_
      refine on_ 3 (some 16) (ba 10 255) HT_.out (fun K hK => ?_); refine Kd.fT qI (w0 := w) w.heap.size (by rfl) (.tmp 14) (.tmp 15) 123 126 (.agg #[.int .i64 0, .int .u8 0]) 16 rfl Try.underlying123 Bi rfl (by decide) (by decide) v14 [] nd An _ _ (fun _ => True) (fun _ => False) rfl rfl H14.out (Kd.aY HN.out HB.out) (fun _ _ h => h) (fun _ h => h.elim) (fun _ _ => trivial) HB.out (az HB.out) (by have := HNL.out; simp only [List.length_nil]; omega) ?_; intro v16 w_ ho hb hg hat; rw [List.nil_append] at ho; have nO := aa.mk ho; have nX := aa.mk (bQ BX.out hg (Kd.mO H14.out BX.out (by decide))); have n20 := aa.mk (Kd.vo H20.out rfl hg (fun k e e' => HDIS.out (e.trans e'))); clear BX HB H14 H20; have BX := nX; have HB := aa.mk hb; have H16 := nO; have H20 := n20; clear ho hb hg hat nO nX n20; refine hK.out _ _ ⟨(af BX.out 0).trans rfl, (af BX.out 1).trans rfl, (af BX.out 2).trans rfl, (af BX.out 3).trans rfl, (af BX.out 4).trans rfl⟩ (fun _ => hCont ⟨_, _, _⟩ _ ⟨⟨(af BX.out 0).trans rfl, (af BX.out 1).trans rfl, (af BX.out 2).trans rfl, (af BX.out 3).trans rfl, (af BX.out 4).trans rfl⟩, H16.out, H20.out, HB.out, BX.out⟩)
    ·skip; refine Kd.iF qI w.heap.size 126 ?hg (N := 20) ?hd (xs := ([⟨i, 65 + (j : Int)⟩] : List kL)) (inner := [.int .i64 i, .int .u8 (65 + (j : Int))]) (ok := fun _ => True) (okp := fun _ => True) ?hr ?hp (fun _ hk => hk) trivial HB.out (az HB.out) (by simp) ?_; (case hd => rfl); (case hg => rfl); (case hr => first | (go_simp; done) | (go_simp; rfl)); (case hp => exact (dM.c2 (show Kd.M qI _ _ _ (⟨i, 65 + (j : Int)⟩ : kL) [.int .i64 i, .int .u8 (65 + (j : Int))] from yg _ _ _ _) (dM.none _ _))); intro v20 w_ ho hb hg hat; have nO := aa.mk ho; have nX := aa.mk (bQ BX.out hg (by simp)); clear BX HB; have BX := nX; have HB := aa.mk hb; have H20 := nO; clear ho hb hg hat nO nX; refine hK.out _ _ ⟨(af BX.out 0).trans rfl, (af BX.out 1).trans rfl, (af BX.out 2).trans rfl, (af BX.out 3).trans rfl, (af BX.out 4).trans rfl⟩ (fun bR => ?_); clear hK K; refine mD ?_
     refine on_ 1 (some 14) (ba 10 247) HT_.out (fun K hK => ?_); refine Kd.iF qI w.heap.size 126 ?hg (N := 14) ?hd (xs := ([] : List kL)) (inner := []) (ok := fun _ => True) (okp := fun _ => True) ?hr ?hp (fun _ hk => hk) trivial HB.out (az HB.out) (by simp) ?_; (case hd => rfl); (case hg => rfl); (case hr => first | (go_simp; done) | (go_simp; rfl)); (case hp => exact (dM.none _ _)); intro v14 w_ ho hb hg hat; have nO := aa.mk ho; have nX := aa.mk (bQ BX.out hg (by simp)); have n20 := aa.mk (Kd.vo H20.out rfl hg (fun _ e => by cases e))
     have nD := aa.mk (show v20.ownBlock ≠ v14.ownBlock by
      obtain ⟨b, e, hlt⟩ := hat; obtain ⟨_, ho'⟩ := Kd.yC H20.out; intro e'
      exact Nat.lt_irrefl _ (Nat.lt_of_lt_of_le (zB ho' b (e'.trans e)) hlt))
     clear BX HB H20; have BX := nX; have HB := aa.mk hb; have H14 := nO; have H20 := n20; have HDIS := nD; clear nD ho hb hg hat nO nX n20; refine hK.out _ _ ⟨(af BX.out 0).trans rfl, (af BX.out 1).trans rfl, (af BX.out 2).trans rfl, (af BX.out 3).trans rfl, (af BX.out 4).trans rfl⟩ (fun bR => ?_); clear hK K; refine mD ?_
     refine on_ 3 (some 16) (ba 10 255) HT_.out (fun K hK => ?_); refine Kd.fT qI (w0 := w) w.heap.size (by rfl) (.tmp 14) (.tmp 15) 123 126 (.agg #[.int .i64 0, .int .u8 0]) 16 rfl Try.underlying123 Bi rfl (by decide) (by decide) v14 [] nd An _ _ (fun _ => True) (fun _ => False) rfl rfl H14.out (Kd.aY HN.out HB.out) (fun _ _ h => h) (fun _ h => h.elim) (fun _ _ => trivial) HB.out (az HB.out) (by have := HNL.out; simp only [List.length_nil]; omega) ?_; intro v16 w_ ho hb hg hat; rw [List.nil_append] at ho; have nO := aa.mk ho; have nX := aa.mk (bQ BX.out hg (Kd.mO H14.out BX.out (by decide))); have n20 := aa.mk (Kd.vo H20.out rfl hg (fun k e e' => HDIS.out ((e.trans e').symm))); clear BX HB H14 H20; have BX := nX; have HB := aa.mk hb; have H16 := nO; have H20 := n20; clear ho hb hg hat nO nX n20; refine hK.out _ _ ⟨(af BX.out 0).trans rfl, (af BX.out 1).trans rfl, (af BX.out 2).trans rfl, (af BX.out 3).trans rfl, (af BX.out 4).trans rfl⟩ (fun _ => hCont ⟨_, _, _⟩ _ ⟨⟨(af BX.out 0).trans rfl, (af BX.out 1).trans rfl, (af BX.out 2).trans rfl, (af BX.out 3).trans rfl, (af BX.out 4).trans rfl⟩, H16.out, H20.out, HB.out, BX.out⟩)
   rintro ⟨v14, v16, v20⟩ w_ ⟨bR, h16, h20, hb, hx⟩; clear HB BX hz0 hz1 hz2 hz3 hz4; have HB := aa.mk hb; have BX := aa.mk hx; have H16 := aa.mk h16; clear hb hx h16; obtain ⟨A20, c20, e20, _, hc20⟩ := Kd.uP h20; simp only at e20; subst e20; have MX := aa.mk hc20; clear hc20 h20; refine Eh ?_
   refine on_ 8 (some 21) (ba 10 511) HT_.out (fun K hK => ?_); refine Kd.fT qI (w0 := w) w.heap.size (by rfl) (.tmp 16) (.tmp 20) 123 126 (.agg #[.int .i64 0, .int .u8 0]) 16 rfl Try.underlying123 Bi rfl (by decide) (by decide) v16 nd [⟨i, 65 + (j : Int)⟩] A20 _ _ (fun _ => True) (fun _ => False) rfl rfl H16.out MX.out (fun _ _ h => h) (fun _ h => h.elim) (fun _ _ => trivial) HB.out (az HB.out) (by have := HNL.out; simp only [List.length_cons, List.length_nil]; omega) ?_; intro v21 w5 ho hb hg hat; have nX := aa.mk (bQ BX.out hg (Kd.mO H16.out BX.out (by decide))); obtain ⟨A21, c21, rfl, _, hc21⟩ := Kd.uP ho; have aaQ := aa.mk hc21; clear BX HB H16; have BX := nX; have HB := aa.mk hb; clear ho hb hg hat nX hc21; refine hK.out _ _ ⟨(af BX.out 0).trans rfl, (af BX.out 1).trans rfl, (af BX.out 2).trans rfl, (af BX.out 3).trans rfl, (af BX.out 4).trans rfl⟩ (fun bR => ?_); clear hK K; refine mD ?_
   refine JB 9 (some 22) (ba 10 1023) HT_.out (fun K hK => ?_); refine yA Try.func81 (by kernel_rfl) rfl #[.agg #[.slice A1 hs.length c1, .int .i64 W, .int .i64 S, .int .i64 t, .slice A4 sq.length c4], .slice A21 (nd ++ [(⟨i, 65 + (j : Int)⟩ : kL)]).length c21] (by rfl) rfl rfl (by (try simp only [List.map_toArray, List.map_cons, List.map_nil]); first | done | rfl) ?_; (with_reducible refine (Qu A1 c1 hs W S t A4 c4 sq A21 c21 (nd ++ [(⟨i, 65 + (j : Int)⟩ : kL)]) _ (Kd.aY HH.out HB.out) (Kd.aY HR.out HB.out) aaQ.out (by have := HNL.out; simp only [List.length_append, List.length_cons, List.length_nil]; omega) HQ.out HS.out).mono ?_); rintro e w6 ⟨rfl, hb⟩; refine ⟨_, rfl, ?_⟩; have nB := aa.mk (ax HB.out hb); have nX := aa.mk (au BX.out hb); clear HB BX; have HB := nB; have BX := nX; clear nB nX hb MX aaQ bR; refine hK.out _ _ ?_; clear hK K; refine D9 HT_.out ?_; obtain ⟨fv, hfv⟩ : ∃ fv, fv = jw W S t sq (nd ++ [(⟨i, 65 + (j : Int)⟩ : kL)]) hs := ⟨_, rfl⟩; rw [← hfv]
   cases fv with
   | false =>
    have HV := aa.mk hfv; (have hw8 : IntKind.u8.wrap (65 + (j : Int) + 1) = 65 + ((j + 1 : Nat) : Int) := by rw [IntKind.wrap_u8]; omega); clear hfv; go_wp2
    go_roundw
    case rel =>
     refine ⟨j + 1, acc, by omega, rfl, by first | exact congrArg (Value.int .u8) hw8 | (rw [hw8]) | go_num, ⟨?_, by have := HA.out.2.1; omega, HA.out.2.2⟩, HB, BX⟩; have e := HA.out.1; rw [show 26 - j = (26 - (j + 1)) + 1 by omega, dK, ← HV.out, if_neg (by decide)] at e; rw [← e, show (65 : Int) + ((j + 1 : Nat) : Int) = 65 + (j : Int) + 1 by omega]
    case measure => simp [intOf]; omega
   | true =>
    have HV := aa.mk hfv; have hw8 : IntKind.u8.wrap (65 + (j : Int) + 1) = 65 + ((j + 1 : Nat) : Int) := by rw [IntKind.wrap_u8]; omega
    have hcv : (convert 88 9 (.slice (some ⟨w6.heap.size, 0, none⟩) 1 1)).run Try.prog (w6.alloc (.cells #[.int .u8 (65 + (j : Int))] 5)) = .ok (.string (strOfNums [65 + (j : Int)])) (w6.alloc (.cells #[.int .u8 (65 + (j : Int))] 5)) := by
     refine run_convert_bytes_arg (P := Try.prog) _ 88 5 Try.underlying88 Try.underlying5 w6.heap.size 0 1 1 [65 + (j : Int)] rfl (fun k hk => ?_) 9 Try.underlying9; (obtain rfl : k = 0 := by omega); exact (af (heap_alloc_new w6 _) 0).trans rfl
    (have hcv' : ∀ s : ByteArray, s = strOfNums [65 + (j : Int)] → strOfNums acc ++ s = strOfNums (acc ++ [65 + (j : Int)]) := fun s e => by rw [e, Dk]); (have hlim : ¬ 9223372036854775807 < (strOfNums acc).size + (strOfNums [65 + (j : Int)]).size := by have := HA.out.2.1; rw [strOfNums_size, strOfNums_size, List.length_singleton]; omega); clear hfv; go_wp2
    go_roundw
    case rel =>
     refine ⟨j + 1, acc ++ [65 + (j : Int)], by omega, by first | rfl | exact congrArg Value.string (hcv' _ rfl), by first | exact congrArg (Value.int .u8) hw8 | (rw [hw8]) | go_num, ⟨?_, by have := HA.out.2.1; simp; omega, ?_⟩, ⟨aH HB.out _⟩, ⟨cz BX.out _⟩⟩
     ·have e := HA.out.1; rw [show 26 - j = (26 - (j + 1)) + 1 by omega, dK, ← HV.out, if_pos rfl] at e; rw [← e, show (65 : Int) + ((j + 1 : Nat) : Int) = 65 + (j : Int) + 1 by omega, List.append_assoc]; rfl
     ·intro c hc; rcases List.mem_append.1 hc with hc | hc
      ·exact HA.out.2.2 c hc
      ·rw [List.mem_singleton] at hc; omega
    case measure => simp [intOf]; omega
  ·(obtain rfl : j = 26 := by omega); (have hj1 : decide (65 + ((26 : Nat) : Int) ≤ 90) = false := by decide); go_wp2
   go_ret
   exact ⟨by have e := HA.out.1; rw [Nat.sub_self, dK, List.append_nil] at e; rw [e]; rfl, HB.out⟩
def Bl (W S t : Int) (hs : List S66) (sq : List (List S27)) (i : Int) : List Int := dK W S t hs sq i [] 26 65
def Fe (W S t : Int) (hs : List S66) (sq : List (List S27)) (n : Nat) : List ByteArray := (List.range n).map fun (i : Nat) => strOfNums (Bl W S t hs sq (i : Int))
def rM (hs : List S66) (W S t : Int) (sq : List (List S27)) : List ByteArray × Int := if (kg hs W S t sq).2 = 0 then (Fe W S t hs sq sq.length, 0) else ([], (kg hs W S t sq).2)
theorem Az {hs : List S66} {W S t : Int} {sq : List (List S27)} (h : (kg hs W S t sq).2 = 0) : nZ sq ∧ A8 hs := by
 by_cases hc : eH hs W S t sq = 0
 ·exact mW hc
 ·rw [kg, if_neg hc] at h; exact absurd h hc
def wP (s x : ByteArray) : ByteArray := if x.size = 1 then s ++ x else if x.size ≤ 3 then s ++ (⟨#[123]⟩ : ByteArray) ++ x ++ (⟨#[125]⟩ : ByteArray) else s ++ (⟨#[45]⟩ : ByteArray)
def ut : ByteArray → List ByteArray → ByteArray
 | s, [] => s
 | s, x :: r => ut (wP s x) r
theorem Zl (xs : List ByteArray) (s : ByteArray) (j : Nat) (h : j < xs.length) : ut s (xs.drop j) = ut (wP s (jc ByteArray.empty xs (j : Int))) (xs.drop (j + 1)) := by
 (have e : jc ByteArray.empty xs (j : Int) = xs[j] := by simp [jc, List.getD_eq_getElem?_getD, h]); rw [List.drop_eq_getElem_cons h, ut, e]
theorem Sa (s x : ByteArray) : (wP s x).size ≤ s.size + 5 := by
 unfold wP; have e1 : (⟨#[123]⟩ : ByteArray).size = 1 := rfl; have e2 : (⟨#[125]⟩ : ByteArray).size = 1 := rfl; have e3 : (⟨#[45]⟩ : ByteArray).size = 1 := rfl; split
 ·rw [ByteArray.size_append]; omega
 ·split
  ·rw [ByteArray.size_append, ByteArray.size_append, ByteArray.size_append, e1, e2]; omega
  ·rw [ByteArray.size_append, e3]; omega
def ahI (hs : List S66) (W S t : Int) (sq : List (List S27)) : ByteArray × Int := if (rM hs W S t sq).2 = 0 then (ut ⟨#[]⟩ (rM hs W S t sq).1, 0) else (⟨#[]⟩, (rM hs W S t sq).2)
theorem Sw {hs : List S66} {W S t : Int} {sq : List (List S27)} (h : (rM hs W S t sq).2 = 0) : (rM hs W S t sq).1.length ≤ 8 := by
 by_cases hc : (kg hs W S t sq).2 = 0
 ·rw [rM, if_pos hc]; have := (Az hc).1.1; simp [Fe]; omega
 ·rw [rM, if_neg hc] at h; exact absurd h hc
def kC (hs : List S66) (sq : List (List S27)) : Prop := hs.length ≤ 20 ∧ sq.length ≤ 20 ∧ (∀ h ∈ hs, h.f1.length ≤ 20) ∧ ∀ q ∈ sq, q.length ≤ 20
set_option maxRecDepth 100000 in
set_option maxHeartbeats 4000000 in
theorem ND (A1 : Option Addr) (c1 : Nat) (hs : List S66) (W S t : Int) (A4 : Option Addr) (c4 : Nat) (sq : List (List S27)) (w : World)
 (hh : Kd.C k66 w A1 hs.length hs) (hr : Kd.C (Kd.slice 27 k27) w A4 sq.length sq) :
 Calls Try.prog 13 #[.agg #[.slice A1 hs.length c1, .int .i64 W, .int .i64 S, .int .i64 t, .slice A4 sq.length c4]] w fun e w' => ∃ b, e = .returned (.bool b) ∧ (b = false → kC hs sq) ∧ Below w.heap.size w w' := by
 have HR := aa.mk hr; have HH := aa.mk hh; clear hr hh; go_enter Try.func13, Try.ntmps13; go_wp2
 go_loopw [3] (fun v2 wr => ∃ (j : Nat), j ≤ hs.length ∧ j ≤ 20 ∧ v2 = .int .i64 j ∧ aa (∀ k : Nat, k < j → (ah hs (k : Int)).f1.length ≤ 20) ∧ aa (Below w.heap.size w wr) ∧ aa (wr.heap[w.heap.size]? = some (.cells #[.slice A1 hs.length c1, .int .i64 W, .int .i64 S, .int .i64 t, .slice A4 sq.length c4] 25 (0, 0)))) (fun v2 _ => 20 - (intOf v2).toNat)
 case atStart => exact ⟨0, by omega, by omega, rfl, ⟨fun k hk => by omega⟩, ⟨aH (Below.refl _ _) _⟩, ⟨heap_alloc_new w _⟩⟩
 case round =>
  obtain ⟨j, hj, hj20, rfl, HA, HB, BX⟩ := hrel; have hz0 : wr.cell? ⟨w.heap.size, 0, none⟩ = some (.slice A1 hs.length c1) := (af BX.out 0).trans rfl; have hz4 : wr.cell? ⟨w.heap.size, 4, none⟩ = some (.slice A4 sq.length c4) := (af BX.out 4).trans rfl; by_cases hjl : j < hs.length ∧ j < 20
  ·have hj1 : decide ((j : Int) < (hs.length : Int)) = true := decide_eq_true (by omega); have hj2 : decide ((j : Int) < 20) = true := decide_eq_true (by omega); (have hjlt : (j : Int) < (hs.length : Int) := by omega); (have hjlt2 : (j : Int) < 20 := by omega); obtain ⟨ad, Ah, ch, e, hx0, hx1, hx2, hl2, hi2⟩ := qf (Kd.aY HH.out HB.out) (j : Int) (by omega) (by omega); cases e; rw [Int.toNat_natCast] at hx0 hx1 hx2
   have HD := aa.mk (show ∀ k : Nat, k < j + 1 → (ah hs (j : Int)).f1.length ≤ 20 → (ah hs (k : Int)).f1.length ≤ 20 by
    intro k hk h; rcases Nat.lt_or_ge k j with h' | h'
    ·exact HA.out k h'
    ·obtain rfl : k = j := by omega
     exact h)
   obtain ⟨n, hn⟩ : ∃ n, n = (ah hs (j : Int)).f1.length := ⟨_, rfl⟩; rw [← hn] at HD hx2; clear hx0 hx1 hl2 hi2 hn HA; by_cases hc : n > 20
   ·have hc1 : decide (20 < (n : Int)) = true := decide_eq_true (by omega); have hc2 : decide (20 < n) = true := decide_eq_true hc; clear hc; go_wp2
    go_ret
    exact ⟨_, rfl, fun h => by simp at h, HB.out⟩
   ·have hc1 : decide (20 < (n : Int)) = false := decide_eq_false (by omega); have hc2 : decide (20 < n) = false := decide_eq_false hc; have HC := aa.mk (show n ≤ 20 by omega); clear hc; go_wp2
    go_roundw
    (case rel => exact ⟨j + 1, by omega, by omega, by go_num, ⟨fun k hk => HD.out k hk HC.out⟩, HB, BX⟩); case measure => simp [intOf]; omega
  ·have HM := aa.mk (show hs.length ≤ 20 → ∀ h ∈ hs, h.f1.length ≤ 20 by
    intro hl h hm; obtain ⟨k, hk, rfl⟩ := List.getElem_of_mem hm; have := HA.out k (by omega)
    rwa [lg hs k hk] at this)
   (have hex : (hs.length : Int) ≤ j ∨ ((j : Int) < hs.length ∧ (20 : Int) ≤ j) := by omega); clear HA hjl hj hj20; rcases hex with hk1 | ⟨hk1, hk2⟩
   ·have hj1 : decide ((j : Int) < (hs.length : Int)) = false := decide_eq_false (by omega); go_wp2; clear hz0 hz4 hj1 hk1
    go_loopw [4] (fun v2 wr => ∃ (j : Nat), j ≤ sq.length ∧ j ≤ 20 ∧ v2 = .int .i64 j ∧ aa (∀ k : Nat, k < j → (cu sq (k : Int)).length ≤ 20) ∧ aa (Below w.heap.size w wr) ∧ aa (wr.heap[w.heap.size]? = some (.cells #[.slice A1 hs.length c1, .int .i64 W, .int .i64 S, .int .i64 t, .slice A4 sq.length c4] 25 (0, 0)))) (fun v2 _ => 20 - (intOf v2).toNat)
    case atStart => exact ⟨0, by omega, by omega, rfl, ⟨fun k hk => by omega⟩, HB, BX⟩
    case round =>
     clear HB BX; obtain ⟨j, hj, hj20, rfl, HA, HB, BX⟩ := hrel; have hz0 : wr.cell? ⟨w.heap.size, 0, none⟩ = some (.slice A1 hs.length c1) := (af BX.out 0).trans rfl; have hz4 : wr.cell? ⟨w.heap.size, 4, none⟩ = some (.slice A4 sq.length c4) := (af BX.out 4).trans rfl; by_cases hjl : j < sq.length ∧ j < 20
     ·have hj1 : decide ((j : Int) < (sq.length : Int)) = true := decide_eq_true (by omega); have hj2 : decide ((j : Int) < 20) = true := decide_eq_true (by omega); (have hjlt : (j : Int) < (sq.length : Int) := by omega); (have hjlt2 : (j : Int) < 20 := by omega); obtain ⟨ad, Ah, ch, e, hx0, hl2, hi2⟩ := xA (Kd.aY HR.out HB.out) (j : Int) (by omega) (by omega); cases e; rw [Int.toNat_natCast] at hx0
      have HD := aa.mk (show ∀ k : Nat, k < j + 1 → (cu sq (j : Int)).length ≤ 20 → (cu sq (k : Int)).length ≤ 20 by
       intro k hk h; rcases Nat.lt_or_ge k j with h' | h'
       ·exact HA.out k h'
       ·obtain rfl : k = j := by omega
        exact h)
      obtain ⟨n, hn⟩ : ∃ n, n = (cu sq (j : Int)).length := ⟨_, rfl⟩; rw [← hn] at HD hx0; clear hl2 hi2 hn HA; by_cases hc : n > 20
      ·have hc1 : decide (20 < (n : Int)) = true := decide_eq_true (by omega); have hc2 : decide (20 < n) = true := decide_eq_true hc; clear hc; go_wp2
       go_ret
       exact ⟨_, rfl, fun h => by simp at h, HB.out⟩
      ·have hc1 : decide (20 < (n : Int)) = false := decide_eq_false (by omega); have hc2 : decide (20 < n) = false := decide_eq_false hc; have HC := aa.mk (show n ≤ 20 by omega); clear hc; go_wp2
       go_roundw
       (case rel => exact ⟨j + 1, by omega, by omega, by go_num, ⟨fun k hk => HD.out k hk HC.out⟩, HB, BX⟩); case measure => simp [intOf]; omega
     ·have HM2 := aa.mk (show sq.length ≤ 20 → ∀ q ∈ sq, q.length ≤ 20 by
       intro hl q hm; obtain ⟨k, hk, rfl⟩ := List.getElem_of_mem hm; have := HA.out k (by omega)
       rwa [sN sq k hk] at this)
      (have hex2 : (sq.length : Int) ≤ j ∨ ((j : Int) < sq.length ∧ (20 : Int) ≤ j) := by omega); clear HA hjl hj hj20
      have hend : ∀ b1 b2 : Bool, b1 = decide (20 < hs.length) → b2 = decide (20 < sq.length) → (b1 || b2) = false → kC hs sq := by
       rintro b1 b2 rfl rfl h; simp only [Bool.or_eq_false_iff, decide_eq_false_iff_not, Nat.not_lt] at h; exact ⟨h.1, h.2, HM.out h.1, HM2.out h.2⟩
      have HEND := aa.mk hend; clear hend; rcases hex2 with hk1 | ⟨hk1, hk2⟩
      ·have hj1 : decide ((j : Int) < (sq.length : Int)) = false := decide_eq_false (by omega); by_cases g1 : 20 < hs.length
       ·have g1a : decide (20 < (hs.length : Int)) = true := decide_eq_true (by omega); have g1b : decide (20 < hs.length) = true := decide_eq_true g1; (have g1c : (20 : Int) < hs.length := by omega); go_wp2
        go_ret
        exact ⟨_, rfl, fun h => by simp at h, HB.out⟩
       ·have g1a : decide (20 < (hs.length : Int)) = false := decide_eq_false (by omega); have g1b : decide (20 < hs.length) = false := decide_eq_false g1; by_cases g2 : 20 < sq.length
        ·have g2a : decide (20 < (sq.length : Int)) = true := decide_eq_true (by omega); have g2b : decide (20 < sq.length) = true := decide_eq_true g2; go_wp2
         go_ret
         exact ⟨_, rfl, fun h => by simp at h, HB.out⟩
        ·have g2a : decide (20 < (sq.length : Int)) = false := decide_eq_false (by omega); have g2b : decide (20 < sq.length) = false := decide_eq_false g2; have HSM := aa.mk (HEND.out _ _ rfl rfl (by rw [g1b, g2b]; rfl)); go_wp2
         go_ret
         exact ⟨_, rfl, fun _ => HSM.out, HB.out⟩
      ·have hj1 : decide ((j : Int) < (sq.length : Int)) = true := decide_eq_true (by omega); have hj2 : decide ((j : Int) < 20) = false := decide_eq_false (by omega); by_cases g1 : 20 < hs.length
       ·have g1a : decide (20 < (hs.length : Int)) = true := decide_eq_true (by omega); have g1b : decide (20 < hs.length) = true := decide_eq_true g1; (have g1c : (20 : Int) < hs.length := by omega); go_wp2
        go_ret
        exact ⟨_, rfl, fun h => by simp at h, HB.out⟩
       ·have g1a : decide (20 < (hs.length : Int)) = false := decide_eq_false (by omega); have g1b : decide (20 < hs.length) = false := decide_eq_false g1; by_cases g2 : 20 < sq.length
        ·have g2a : decide (20 < (sq.length : Int)) = true := decide_eq_true (by omega); have g2b : decide (20 < sq.length) = true := decide_eq_true g2; go_wp2
         go_ret
         exact ⟨_, rfl, fun h => by simp at h, HB.out⟩
        ·exfalso; omega
   ·have hj1 : decide ((j : Int) < (hs.length : Int)) = true := decide_eq_true (by omega); have hj2 : decide ((j : Int) < 20) = false := decide_eq_false (by omega); go_wp2; clear hz0 hz4 hj1 hj2 hk1 hk2
    go_loopw [4] (fun v2 wr => ∃ (j : Nat), j ≤ sq.length ∧ j ≤ 20 ∧ v2 = .int .i64 j ∧ aa (∀ k : Nat, k < j → (cu sq (k : Int)).length ≤ 20) ∧ aa (Below w.heap.size w wr) ∧ aa (wr.heap[w.heap.size]? = some (.cells #[.slice A1 hs.length c1, .int .i64 W, .int .i64 S, .int .i64 t, .slice A4 sq.length c4] 25 (0, 0)))) (fun v2 _ => 20 - (intOf v2).toNat)
    case atStart => exact ⟨0, by omega, by omega, rfl, ⟨fun k hk => by omega⟩, HB, BX⟩
    case round =>
     clear HB BX; obtain ⟨j, hj, hj20, rfl, HA, HB, BX⟩ := hrel; have hz0 : wr.cell? ⟨w.heap.size, 0, none⟩ = some (.slice A1 hs.length c1) := (af BX.out 0).trans rfl; have hz4 : wr.cell? ⟨w.heap.size, 4, none⟩ = some (.slice A4 sq.length c4) := (af BX.out 4).trans rfl; by_cases hjl : j < sq.length ∧ j < 20
     ·have hj1 : decide ((j : Int) < (sq.length : Int)) = true := decide_eq_true (by omega); have hj2 : decide ((j : Int) < 20) = true := decide_eq_true (by omega); (have hjlt : (j : Int) < (sq.length : Int) := by omega); (have hjlt2 : (j : Int) < 20 := by omega); obtain ⟨ad, Ah, ch, e, hx0, hl2, hi2⟩ := xA (Kd.aY HR.out HB.out) (j : Int) (by omega) (by omega); cases e; rw [Int.toNat_natCast] at hx0
      have HD := aa.mk (show ∀ k : Nat, k < j + 1 → (cu sq (j : Int)).length ≤ 20 → (cu sq (k : Int)).length ≤ 20 by
       intro k hk h; rcases Nat.lt_or_ge k j with h' | h'
       ·exact HA.out k h'
       ·obtain rfl : k = j := by omega
        exact h)
      obtain ⟨n, hn⟩ : ∃ n, n = (cu sq (j : Int)).length := ⟨_, rfl⟩; rw [← hn] at HD hx0; clear hl2 hi2 hn HA; by_cases hc : n > 20
      ·have hc1 : decide (20 < (n : Int)) = true := decide_eq_true (by omega); have hc2 : decide (20 < n) = true := decide_eq_true hc; clear hc; go_wp2
       go_ret
       exact ⟨_, rfl, fun h => by simp at h, HB.out⟩
      ·have hc1 : decide (20 < (n : Int)) = false := decide_eq_false (by omega); have hc2 : decide (20 < n) = false := decide_eq_false hc; have HC := aa.mk (show n ≤ 20 by omega); clear hc; go_wp2
       go_roundw
       (case rel => exact ⟨j + 1, by omega, by omega, by go_num, ⟨fun k hk => HD.out k hk HC.out⟩, HB, BX⟩); case measure => simp [intOf]; omega
     ·have HM2 := aa.mk (show sq.length ≤ 20 → ∀ q ∈ sq, q.length ≤ 20 by
       intro hl q hm; obtain ⟨k, hk, rfl⟩ := List.getElem_of_mem hm; have := HA.out k (by omega)
       rwa [sN sq k hk] at this)
      (have hex2 : (sq.length : Int) ≤ j ∨ ((j : Int) < sq.length ∧ (20 : Int) ≤ j) := by omega); clear HA hjl hj hj20
      have hend : ∀ b1 b2 : Bool, b1 = decide (20 < hs.length) → b2 = decide (20 < sq.length) → (b1 || b2) = false → kC hs sq := by
       rintro b1 b2 rfl rfl h; simp only [Bool.or_eq_false_iff, decide_eq_false_iff_not, Nat.not_lt] at h; exact ⟨h.1, h.2, HM.out h.1, HM2.out h.2⟩
      have HEND := aa.mk hend; clear hend; rcases hex2 with hk1 | ⟨hk1, hk2⟩
      ·have hj1 : decide ((j : Int) < (sq.length : Int)) = false := decide_eq_false (by omega); by_cases g1 : 20 < hs.length
       ·have g1a : decide (20 < (hs.length : Int)) = true := decide_eq_true (by omega); have g1b : decide (20 < hs.length) = true := decide_eq_true g1; (have g1c : (20 : Int) < hs.length := by omega); go_wp2
        go_ret
        exact ⟨_, rfl, fun h => by simp at h, HB.out⟩
       ·have g1a : decide (20 < (hs.length : Int)) = false := decide_eq_false (by omega); have g1b : decide (20 < hs.length) = false := decide_eq_false g1; by_cases g2 : 20 < sq.length
        ·have g2a : decide (20 < (sq.length : Int)) = true := decide_eq_true (by omega); have g2b : decide (20 < sq.length) = true := decide_eq_true g2; go_wp2
         go_ret
         exact ⟨_, rfl, fun h => by simp at h, HB.out⟩
        ·have g2a : decide (20 < (sq.length : Int)) = false := decide_eq_false (by omega); have g2b : decide (20 < sq.length) = false := decide_eq_false g2; have HSM := aa.mk (HEND.out _ _ rfl rfl (by rw [g1b, g2b]; rfl)); go_wp2
         go_ret
         exact ⟨_, rfl, fun _ => HSM.out, HB.out⟩
      ·have hj1 : decide ((j : Int) < (sq.length : Int)) = true := decide_eq_true (by omega); have hj2 : decide ((j : Int) < 20) = false := decide_eq_false (by omega); by_cases g1 : 20 < hs.length
       ·have g1a : decide (20 < (hs.length : Int)) = true := decide_eq_true (by omega); have g1b : decide (20 < hs.length) = true := decide_eq_true g1; (have g1c : (20 : Int) < hs.length := by omega); go_wp2
        go_ret
        exact ⟨_, rfl, fun h => by simp at h, HB.out⟩
       ·have g1a : decide (20 < (hs.length : Int)) = false := decide_eq_false (by omega); have g1b : decide (20 < hs.length) = false := decide_eq_false g1; by_cases g2 : 20 < sq.length
        ·have g2a : decide (20 < (sq.length : Int)) = true := decide_eq_true (by omega); have g2b : decide (20 < sq.length) = true := decide_eq_true g2; go_wp2
         go_ret
         exact ⟨_, rfl, fun h => by simp at h, HB.out⟩
        ·exfalso; omega
end Go.Proofs.Ytihedeofkhapiaa.Pr
end
section
namespace Go.Proofs.Ytihedeofkhapiaa.Pr
open Go.RowKit Go.Proofs.YtihedeofkhapiaaW.PrintWords Go.Proofs.YtihedeofkhapiaaW.PrintLast Go.Proofs.YtihedeofkhapiaaW.PrintMore
attribute [local go_sem high] aa9 aak aav
def Av.T5 : Bool × List (List Nat × List Nat) := (true, [([], []), ([0], [0]), ([], []), ([1, 2], [1, 2]), ([3], [3]), ([], []), ([5], [5]), ([], []), ([6, 7], [6, 7]), ([8], [8]), ([], []), ([], []), ([10, 4, 0, 1, 2, 3, 4, 10, 11], [4, 10]), ([11, 9, 12, 0, 1, 2, 3, 4, 5, 6, 7, 8, 9, 10, 11, 12], [9, 11])])
def Av.B5 : List Nat := [0, 1, 0, 7, 15, 0, 32, 0, 224, 480, 0, 0, 3103, 8191]
theorem Av.Py : mr .any (opsOf Try.f23 5) = Av.T5 := by kernel_rfl
theorem Av.Hy : lL Av.T5.2 Av.B5 = true := by kernel_rfl
section
variable {W : World} {g g' : Nat} {t t' : TypeId} {a b c : Value} {cs : Array Value}
theorem Eu (h : W.heap[g]? = some (.cells #[a, b, c] t (0, 0))) (x y z : Value) : (((W.setCell ⟨g, 0, none⟩ x).setCell ⟨g, 1, none⟩ y).setCell ⟨g, 2, none⟩ z).heap[g]? = some (.cells #[x, y, z] t (0, 0)) := bS (bS (bS h 0 x rfl) 1 y rfl) 2 z rfl
theorem qd (h : W.heap[g']? = some (.cells cs t (0, 0))) (hne : g' ≠ g) (x y z : Value) : (((W.setCell ⟨g, 0, none⟩ x).setCell ⟨g, 1, none⟩ y).setCell ⟨g, 2, none⟩ z).heap[g']? = some (.cells cs t (0, 0)) := bA (bA (bA h hne _) hne _) hne _
theorem yw {w : World} (h : Below w.heap.size w W) (hg : w.heap.size ≤ g) (x y z : Value) : Below w.heap.size w (((W.setCell ⟨g, 0, none⟩ x).setCell ⟨g, 1, none⟩ y).setCell ⟨g, 2, none⟩ z) := df (df (df h hg) hg) hg
end
set_option maxRecDepth 100000 in
set_option maxHeartbeats 8000000 in
theorem J4 (A1 B1 A4 B4 : Option Addr) (c1 d1 c4 d4 : Nat) (hs : List S66) (W S t : Int) (sq : List (List S27)) (w : World)
 (hh : Kd.C k66 w A1 hs.length hs) (hr : Kd.C (Kd.slice 27 k27) w A4 sq.length sq) (hh' : Kd.C k66 w B1 hs.length hs) (hr' : Kd.C (Kd.slice 27 k27) w B4 sq.length sq) (hsm : kC hs sq) :
 Calls Try.prog 23 #[.agg #[.slice A1 hs.length c1, .int .i64 W, .int .i64 S, .int .i64 t, .slice A4 sq.length c4], .agg #[.slice B1 hs.length d1, .int .i64 W, .int .i64 S, .int .i64 t, .slice B4 sq.length d4]] w fun e w' => e = .returned (.bool true) ∧ Below w.heap.size w w' := by
 have HA := aa.mk hh; have HB4 := aa.mk hr; have HC := aa.mk hh'; have HD4 := aa.mk hr'; have HL1 := aa.mk hsm.1; have HL2 := aa.mk hsm.2.1; have HL3 := aa.mk hsm.2.2.1; have HL4 := aa.mk hsm.2.2.2; clear hh hr hh' hr' hsm; go_enter Try.func23, Try.ntmps23; (go_upto_region 1 with (fail)); obtain ⟨W1, hW1⟩ : ∃ W1, W1 = (w.alloc (.cells #[.slice A1 hs.length c1, .int .i64 W, .int .i64 S, .int .i64 t, .slice A4 sq.length c4] 25)).alloc (.cells #[.slice B1 hs.length d1, .int .i64 W, .int .i64 S, .int .i64 t, .slice B4 sq.length d4] 25) := ⟨_, rfl⟩; have HB := aa.mk (show Below w.heap.size w W1 by rw [hW1]; exact aH (aH (Below.refl _ _) _) _); have BXa := aa.mk (show W1.heap[w.heap.size]? = some (.cells #[.slice A1 hs.length c1, .int .i64 W, .int .i64 S, .int .i64 t, .slice A4 sq.length c4] 25 (0, 0)) by rw [hW1]; exact cz (heap_alloc_new w _) _)
 have BXb := aa.mk (show W1.heap[w.heap.size + 1]? = some (.cells #[.slice B1 hs.length d1, .int .i64 W, .int .i64 S, .int .i64 t, .slice B4 sq.length d4] 25 (0, 0)) by
  rw [hW1]; have := heap_alloc_new (w.alloc (.cells #[.slice A1 hs.length c1, .int .i64 W, .int .i64 S, .int .i64 t, .slice A4 sq.length c4] 25)) (.cells #[.slice B1 hs.length d1, .int .i64 W, .int .i64 S, .int .i64 t, .slice B4 sq.length d4] 25)
  rwa [World.size_alloc] at this)
 have hW1' : W1 = _ := hW1; (first | rw [← hW1] | skip); clear hW1 hW1'; have ha0 : W1.cell? ⟨w.heap.size, 0, none⟩ = some (.slice A1 hs.length c1) := (af BXa.out 0).trans rfl; have hb0 : W1.cell? ⟨w.heap.size + 1, 0, none⟩ = some (.slice B1 hs.length d1) := (af BXb.out 0).trans rfl; have ha1 : W1.cell? ⟨w.heap.size, 1, none⟩ = some (.int .i64 W) := (af BXa.out 1).trans rfl; have hb1 : W1.cell? ⟨w.heap.size + 1, 1, none⟩ = some (.int .i64 W) := (af BXb.out 1).trans rfl; have ha2 : W1.cell? ⟨w.heap.size, 2, none⟩ = some (.int .i64 S) := (af BXa.out 2).trans rfl; have hb2 : W1.cell? ⟨w.heap.size + 1, 2, none⟩ = some (.int .i64 S) := (af BXb.out 2).trans rfl; have ha3 : W1.cell? ⟨w.heap.size, 3, none⟩ = some (.int .i64 t) := (af BXa.out 3).trans rfl; have hb3 : W1.cell? ⟨w.heap.size + 1, 3, none⟩ = some (.int .i64 t) := (af BXb.out 3).trans rfl; have ha4 : W1.cell? ⟨w.heap.size, 4, none⟩ = some (.slice A4 sq.length c4) := (af BXa.out 4).trans rfl; have hb4 : W1.cell? ⟨w.heap.size + 1, 4, none⟩ = some (.slice B4 sq.length d4) := (af BXb.out 4).trans rfl; go_wp2; clear ha0 ha1 ha2 ha3 ha4 hb0 hb1 hb2 hb3 hb4
 go_loopw [5, 6, 7, 8, 9] (fun v5 v6 v7 v8 v9 wr => ∃ (j : Nat), j ≤ hs.length ∧ v5 = .bool true ∧ v6 = .int .i64 j ∧ aa (Below w.heap.size w wr) ∧ aa (wr.heap[w.heap.size]? = some (.cells #[.slice A1 hs.length c1, .int .i64 W, .int .i64 S, .int .i64 t, .slice A4 sq.length c4] 25 (0, 0))) ∧ aa (wr.heap[w.heap.size + 1]? = some (.cells #[.slice B1 hs.length d1, .int .i64 W, .int .i64 S, .int .i64 t, .slice B4 sq.length d4] 25 (0, 0)))) (fun _ v6 _ _ _ _ => hs.length - (intOf v6).toNat)
 case atStart => exact ⟨0, by omega, rfl, rfl, HB, BXa, BXb⟩
 case round =>
  clear HB BXa BXb; obtain ⟨j, hj, rfl, rfl, HB, BXa, BXb⟩ := hrel; have ha0 : wr.cell? ⟨w.heap.size, 0, none⟩ = some (.slice A1 hs.length c1) := (af BXa.out 0).trans rfl; have hb0 : wr.cell? ⟨w.heap.size + 1, 0, none⟩ = some (.slice B1 hs.length d1) := (af BXb.out 0).trans rfl; by_cases hjl : j < hs.length
  ·have hj1 : decide ((j : Int) < (hs.length : Int)) = true := decide_eq_true (by omega); (have hjlt : (j : Int) < (hs.length : Int) := by omega); (have hj20 : (j : Int) < 20 := by have := HL1.out; omega); obtain ⟨ad, Ah, ch, e, hx0, hx1, hx2, hl2, hi2⟩ := qf HA.out (j : Int) (by omega) (by omega); cases e; obtain ⟨bd, Bh, dh, e, hy0, hy1, hy2, hl3, hi3⟩ := qf HC.out (j : Int) (by omega) (by omega); cases e; rw [Int.toNat_natCast] at hx0 hx1 hx2 hy0 hy1 hy2; have HSL := aa.mk (show (ah hs (j : Int)).f1.length ≤ 20 by rw [lg hs j hjl]; exact HL3.out _ (List.getElem_mem hjl)); obtain ⟨h, hhd⟩ : ∃ h, h = ah hs (j : Int) := ⟨_, rfl⟩; rw [← hhd] at HSL hx0 hx1 hx2 hy0 hy1 hy2 hl2 hl3 hi2 hi3; have HI2 := aa.mk hi2; have HI3 := aa.mk hi3; have X0 := aa.mk hx0; have X1 := aa.mk hx1; have X2 := aa.mk hx2; have Y0 := aa.mk hy0; have Y1 := aa.mk hy1; have Y2 := aa.mk hy2; clear hhd hi2 hi3 hl2 hl3 hx0 hx1 hx2 hy0 hy1 hy2; (go_wp2_with (fail)); have nB := aa.mk (eF HB.out); have nX := aa.mk (dO BXa.out); have nY := aa.mk (dO BXb.out); clear HB BXa BXb ha0 hb0; have HB := nB; have BXa := nX; have BXb := nY; clear nB nX nY; refine qH (n := 14) (S := fun w' => w'.cell? ⟨w.heap.size, 0, none⟩ = some (.slice (some ad) hs.length c1) ∧ w'.cell? ⟨w.heap.size + 1, 0, none⟩ = some (.slice (some bd) hs.length d1) ∧ w'.cell? (ad.add (j * 3)) = some (.int .i64 h.f0.f0) ∧ w'.cell? ⟨(ad.add (j * 3)).block, (ad.add (j * 3)).off + 1, none⟩ = some (.int .i64 h.f0.f1) ∧ w'.cell? ⟨(ad.add (j * 3)).block, (ad.add (j * 3)).off + 2, none⟩ = some (.slice Ah h.f1.length ch) ∧ w'.cell? (bd.add (j * 3)) = some (.int .i64 h.f0.f0) ∧ w'.cell? ⟨(bd.add (j * 3)).block, (bd.add (j * 3)).off + 1, none⟩ = some (.int .i64 h.f0.f1) ∧ w'.cell? ⟨(bd.add (j * 3)).block, (bd.add (j * 3)).off + 2, none⟩ = some (.slice Bh h.f1.length dh)) (ds := [13]) (ba 14 0) (by kernel_rfl) rfl rfl ⟨(af BXa.out 0).trans rfl, (af BXb.out 0).trans rfl, (HB.out.cell (World.block_lt_of_cell? _ _ X0.out)).trans X0.out, (HB.out.cell (World.block_lt_of_cell? _ _ X1.out)).trans X1.out, (HB.out.cell (World.block_lt_of_cell? _ _ X2.out)).trans X2.out, (HB.out.cell (World.block_lt_of_cell? _ _ Y0.out)).trans Y0.out, (HB.out.cell (World.block_lt_of_cell? _ _ Y1.out)).trans Y1.out, (HB.out.cell (World.block_lt_of_cell? _ _ Y2.out)).trans Y2.out⟩ (fun bR => ?_); refine mg Av.Py Av.Hy (fun HT_ HW_ => ?_); refine fU 0 61 (ba 14 1) HT_.out ?_
   refine fU 2 63 (ba 14 5) HT_.out ?_
   refine fU 5 66 (ba 14 37) HT_.out ?_
   refine fU 7 68 (ba 14 165) HT_.out ?_
   refine tV 1 62 (ba 14 167) HT_.out HW_.out bR ?_
   refine fU 3 64 (ba 14 175) HT_.out ?_
   refine tV 4 65 (ba 14 191) HT_.out HW_.out bR ?_
   refine tV 6 67 (ba 14 255) HT_.out HW_.out bR ?_
   refine fU 8 69 (ba 14 511) HT_.out ?_
   refine tV 9 70 (ba 14 1023) HT_.out HW_.out bR ?_
   refine xw (σ := Nat × Nat) 2 (ba 14 4095) (fun s_ => [(7, .pointer (some ⟨s_.1, 0, none⟩)), (8, .pointer (some ⟨s_.2, 0, none⟩))]) (fun s_ w' => (w'.cell? ⟨w.heap.size, 0, none⟩ = some (.slice (some ad) hs.length c1) ∧ w'.cell? ⟨w.heap.size + 1, 0, none⟩ = some (.slice (some bd) hs.length d1) ∧ w'.cell? (ad.add (j * 3)) = some (.int .i64 h.f0.f0) ∧ w'.cell? ⟨(ad.add (j * 3)).block, (ad.add (j * 3)).off + 1, none⟩ = some (.int .i64 h.f0.f1) ∧ w'.cell? ⟨(ad.add (j * 3)).block, (ad.add (j * 3)).off + 2, none⟩ = some (.slice Ah h.f1.length ch) ∧ w'.cell? (bd.add (j * 3)) = some (.int .i64 h.f0.f0) ∧ w'.cell? ⟨(bd.add (j * 3)).block, (bd.add (j * 3)).off + 1, none⟩ = some (.int .i64 h.f0.f1) ∧ w'.cell? ⟨(bd.add (j * 3)).block, (bd.add (j * 3)).off + 2, none⟩ = some (.slice Bh h.f1.length dh)) ∧ w'.heap[s_.1]? = some (.cells #[.int .i64 0, .int .i64 0, .slice none 0 0] 66 (0, 0)) ∧ w'.heap[s_.2]? = some (.cells #[.int .i64 0, .int .i64 0, .slice none 0 0] 66 (0, 0)) ∧ s_.1 ≠ s_.2 ∧ w.heap.size + 1 < s_.1 ∧ w.heap.size + 1 < s_.2 ∧ Below w.heap.size w w' ∧ w'.heap[w.heap.size]? = some (.cells #[.slice (some ad) hs.length c1, .int .i64 W, .int .i64 S, .int .i64 t, .slice A4 sq.length c4] 25 (0, 0)) ∧ w'.heap[w.heap.size + 1]? = some (.cells #[.slice (some bd) hs.length d1, .int .i64 W, .int .i64 S, .int .i64 t, .slice B4 sq.length d4] 25 (0, 0))) ?_ ?_; rotate_left
   ·intro hCont; refine Cz 10 11 7 8 (ba 14 2047) (ba 14 3071) HT_.out (fun K hK => ?_) (fun K hK => ?_)
    ·skip; refine yn ?hg (N := 7) ?hd (cs := #[.int .i64 0, .int .i64 0, .slice none 0 0]) (t := 66) ?hr ?_; (case hd => rfl); (case hg => rfl); (case hr => first | (go_simp; done) | (go_simp; rfl)); intro g1 hg w_ hbox hb; have nX := aa.mk (au BXa.out hb); have nY := aa.mk (au BXb.out hb); have nB := aa.mk (ax HB.out hb); have Gg1 := aa.mk (show w.heap.size + 1 < g1 by rw [hg]; exact bW BXb.out); have Kg1 := aa.mk hbox; clear BXa BXb HB; have BXa := nX; have BXb := nY; have HB := nB; clear nX nY nB hg hbox hb; refine hK.out _ _ ⟨(af BXa.out 0).trans rfl, (af BXb.out 0).trans rfl, (HB.out.cell (World.block_lt_of_cell? _ _ X0.out)).trans X0.out, (HB.out.cell (World.block_lt_of_cell? _ _ X1.out)).trans X1.out, (HB.out.cell (World.block_lt_of_cell? _ _ X2.out)).trans X2.out, (HB.out.cell (World.block_lt_of_cell? _ _ Y0.out)).trans Y0.out, (HB.out.cell (World.block_lt_of_cell? _ _ Y1.out)).trans Y1.out, (HB.out.cell (World.block_lt_of_cell? _ _ Y2.out)).trans Y2.out⟩ (fun bR => ?_); clear hK K; refine mD ?_
     refine on_ 11 (some 8) (ba 14 4095) HT_.out (fun K hK => ?_); refine yn ?hg (N := 8) ?hd (cs := #[.int .i64 0, .int .i64 0, .slice none 0 0]) (t := 66) ?hr ?_; (case hd => rfl); (case hg => rfl); (case hr => first | (go_simp; done) | (go_simp; rfl)); intro g2 hg w_ hbox hb; have nX := aa.mk (au BXa.out hb); have nY := aa.mk (au BXb.out hb); have nB := aa.mk (ax HB.out hb); have Gg2 := aa.mk (show w.heap.size + 1 < g2 by rw [hg]; exact bW BXb.out); have ng1 := aa.mk (au Kg1.out hb); have HNE := aa.mk (show g1 ≠ g2 by have := bW Kg1.out; omega); have Kg2 := aa.mk hbox; clear BXa BXb HB Kg1; have BXa := nX; have BXb := nY; have HB := nB; have Kg1 := ng1; clear nX nY nB hg hbox hb ng1; refine hK.out _ _ ⟨(af BXa.out 0).trans rfl, (af BXb.out 0).trans rfl, (HB.out.cell (World.block_lt_of_cell? _ _ X0.out)).trans X0.out, (HB.out.cell (World.block_lt_of_cell? _ _ X1.out)).trans X1.out, (HB.out.cell (World.block_lt_of_cell? _ _ X2.out)).trans X2.out, (HB.out.cell (World.block_lt_of_cell? _ _ Y0.out)).trans Y0.out, (HB.out.cell (World.block_lt_of_cell? _ _ Y1.out)).trans Y1.out, (HB.out.cell (World.block_lt_of_cell? _ _ Y2.out)).trans Y2.out⟩ (fun _ => hCont ⟨g1, g2⟩ _ ⟨⟨(af BXa.out 0).trans rfl, (af BXb.out 0).trans rfl, (HB.out.cell (World.block_lt_of_cell? _ _ X0.out)).trans X0.out, (HB.out.cell (World.block_lt_of_cell? _ _ X1.out)).trans X1.out, (HB.out.cell (World.block_lt_of_cell? _ _ X2.out)).trans X2.out, (HB.out.cell (World.block_lt_of_cell? _ _ Y0.out)).trans Y0.out, (HB.out.cell (World.block_lt_of_cell? _ _ Y1.out)).trans Y1.out, (HB.out.cell (World.block_lt_of_cell? _ _ Y2.out)).trans Y2.out⟩, Kg1.out, Kg2.out, HNE.out, Gg1.out, Gg2.out, HB.out, BXa.out, BXb.out⟩)
    ·skip; refine yn ?hg (N := 8) ?hd (cs := #[.int .i64 0, .int .i64 0, .slice none 0 0]) (t := 66) ?hr ?_; (case hd => rfl); (case hg => rfl); (case hr => first | (go_simp; done) | (go_simp; rfl)); intro g2 hg w_ hbox hb; have nX := aa.mk (au BXa.out hb); have nY := aa.mk (au BXb.out hb); have nB := aa.mk (ax HB.out hb); have Gg2 := aa.mk (show w.heap.size + 1 < g2 by rw [hg]; exact bW BXb.out); have Kg2 := aa.mk hbox; clear BXa BXb HB; have BXa := nX; have BXb := nY; have HB := nB; clear nX nY nB hg hbox hb; refine hK.out _ _ ⟨(af BXa.out 0).trans rfl, (af BXb.out 0).trans rfl, (HB.out.cell (World.block_lt_of_cell? _ _ X0.out)).trans X0.out, (HB.out.cell (World.block_lt_of_cell? _ _ X1.out)).trans X1.out, (HB.out.cell (World.block_lt_of_cell? _ _ X2.out)).trans X2.out, (HB.out.cell (World.block_lt_of_cell? _ _ Y0.out)).trans Y0.out, (HB.out.cell (World.block_lt_of_cell? _ _ Y1.out)).trans Y1.out, (HB.out.cell (World.block_lt_of_cell? _ _ Y2.out)).trans Y2.out⟩ (fun bR => ?_); clear hK K; refine mD ?_
     refine on_ 10 (some 7) (ba 14 4095) HT_.out (fun K hK => ?_); refine yn ?hg (N := 7) ?hd (cs := #[.int .i64 0, .int .i64 0, .slice none 0 0]) (t := 66) ?hr ?_; (case hd => rfl); (case hg => rfl); (case hr => first | (go_simp; done) | (go_simp; rfl)); intro g1 hg w_ hbox hb; have nX := aa.mk (au BXa.out hb); have nY := aa.mk (au BXb.out hb); have nB := aa.mk (ax HB.out hb); have Gg1 := aa.mk (show w.heap.size + 1 < g1 by rw [hg]; exact bW BXb.out); have ng2 := aa.mk (au Kg2.out hb); have HNE := aa.mk (show g2 ≠ g1 by have := bW Kg2.out; omega); have Kg1 := aa.mk hbox; clear BXa BXb HB Kg2; have BXa := nX; have BXb := nY; have HB := nB; have Kg2 := ng2; clear nX nY nB hg hbox hb ng2; refine hK.out _ _ ⟨(af BXa.out 0).trans rfl, (af BXb.out 0).trans rfl, (HB.out.cell (World.block_lt_of_cell? _ _ X0.out)).trans X0.out, (HB.out.cell (World.block_lt_of_cell? _ _ X1.out)).trans X1.out, (HB.out.cell (World.block_lt_of_cell? _ _ X2.out)).trans X2.out, (HB.out.cell (World.block_lt_of_cell? _ _ Y0.out)).trans Y0.out, (HB.out.cell (World.block_lt_of_cell? _ _ Y1.out)).trans Y1.out, (HB.out.cell (World.block_lt_of_cell? _ _ Y2.out)).trans Y2.out⟩ (fun _ => hCont ⟨g1, g2⟩ _ ⟨⟨(af BXa.out 0).trans rfl, (af BXb.out 0).trans rfl, (HB.out.cell (World.block_lt_of_cell? _ _ X0.out)).trans X0.out, (HB.out.cell (World.block_lt_of_cell? _ _ X1.out)).trans X1.out, (HB.out.cell (World.block_lt_of_cell? _ _ X2.out)).trans X2.out, (HB.out.cell (World.block_lt_of_cell? _ _ Y0.out)).trans Y0.out, (HB.out.cell (World.block_lt_of_cell? _ _ Y1.out)).trans Y1.out, (HB.out.cell (World.block_lt_of_cell? _ _ Y2.out)).trans Y2.out⟩, Kg1.out, Kg2.out, HNE.out.symm, Gg1.out, Gg2.out, HB.out, BXa.out, BXb.out⟩)
   rintro ⟨g1, g2⟩ w7 ⟨bR, k1, k2, hne, hg1, hg2, hb, hxa, hxb⟩; clear HB BXa BXb; have HB := aa.mk hb; have BXa := aa.mk hxa; have BXb := aa.mk hxb; have K1 := aa.mk k1; have K2 := aa.mk k2; have NE := aa.mk hne; have G1 := aa.mk hg1; have G2 := aa.mk hg2; clear hb hxa hxb k1 k2 hne hg1 hg2; refine Eh ?_
   refine on_ 12 none (ba 14 8191) HT_.out (fun K hK => ?_); have hs0 : w7.cell? ⟨g1, 0, none⟩ = some (.int .i64 0) := (af K1.out 0).trans rfl; have hf0 := aN K1.out 0; have hs1 : w7.cell? ⟨g1, 1, none⟩ = some (.int .i64 0) := (af K1.out 1).trans rfl; have hf1 := aN K1.out 1; have hs2 : w7.cell? ⟨g1, 2, none⟩ = some (.slice none 0 0) := (af K1.out 2).trans rfl; have hf2 := aN K1.out 2; obtain ⟨w8, hw8⟩ : ∃ x, x = ((w7.setCell ⟨g1, 0, none⟩ (.int .i64 h.f0.f0)).setCell ⟨g1, 1, none⟩ (.int .i64 h.f0.f1)).setCell ⟨g1, 2, none⟩ (.slice Ah h.f1.length ch) := ⟨_, rfl⟩; refine yM (w1 := w8) (by rfl) rfl ?_ ?_
   ·rw [hw8]; first | (go_simp; done) | (go_simp; rfl)
   have n1 := aa.mk (show w8.heap[g1]? = some (.cells #[.int .i64 h.f0.f0, .int .i64 h.f0.f1, .slice Ah h.f1.length ch] 66 (0, 0)) by rw [hw8]; exact Eu K1.out _ _ _); have n2 := aa.mk (show w8.heap[g2]? = some (.cells #[.int .i64 0, .int .i64 0, .slice none 0 0] 66 (0, 0)) by rw [hw8]; exact qd K2.out NE.out.symm _ _ _); have nX := aa.mk (show w8.heap[w.heap.size]? = some (.cells #[.slice (some ad) hs.length c1, .int .i64 W, .int .i64 S, .int .i64 t, .slice A4 sq.length c4] 25 (0, 0)) by rw [hw8]; exact qd BXa.out (by have := G1.out; omega) _ _ _); have nY := aa.mk (show w8.heap[w.heap.size + 1]? = some (.cells #[.slice (some bd) hs.length d1, .int .i64 W, .int .i64 S, .int .i64 t, .slice B4 sq.length d4] 25 (0, 0)) by rw [hw8]; exact qd BXb.out (by have := G1.out; omega) _ _ _); have nB := aa.mk (show Below w.heap.size w w8 by rw [hw8]; exact yw HB.out (by have := G1.out; omega) _ _ _); clear BXa BXb HB K1 K2 hs0 hs1 hs2 hf0 hf1 hf2 hw8; have BXa := nX; have BXb := nY; have HB := nB; have K1 := n1; have K2 := n2; clear n1 n2 nX nY nB; refine hK.out _ _ ⟨(af BXa.out 0).trans rfl, (af BXb.out 0).trans rfl, (HB.out.cell (World.block_lt_of_cell? _ _ X0.out)).trans X0.out, (HB.out.cell (World.block_lt_of_cell? _ _ X1.out)).trans X1.out, (HB.out.cell (World.block_lt_of_cell? _ _ X2.out)).trans X2.out, (HB.out.cell (World.block_lt_of_cell? _ _ Y0.out)).trans Y0.out, (HB.out.cell (World.block_lt_of_cell? _ _ Y1.out)).trans Y1.out, (HB.out.cell (World.block_lt_of_cell? _ _ Y2.out)).trans Y2.out⟩ (fun bR => ?_); clear hK K; refine JB 13 none (ba 14 16383) HT_.out (fun K hK => ?_); have hs0 : w8.cell? ⟨g2, 0, none⟩ = some (.int .i64 0) := (af K2.out 0).trans rfl; have hf0 := aN K2.out 0; have hs1 : w8.cell? ⟨g2, 1, none⟩ = some (.int .i64 0) := (af K2.out 1).trans rfl; have hf1 := aN K2.out 1; have hs2 : w8.cell? ⟨g2, 2, none⟩ = some (.slice none 0 0) := (af K2.out 2).trans rfl; have hf2 := aN K2.out 2; obtain ⟨w9, hw9⟩ : ∃ x, x = ((w8.setCell ⟨g2, 0, none⟩ (.int .i64 h.f0.f0)).setCell ⟨g2, 1, none⟩ (.int .i64 h.f0.f1)).setCell ⟨g2, 2, none⟩ (.slice Bh h.f1.length dh) := ⟨_, rfl⟩; refine yM (w1 := w9) (by rfl) rfl ?_ ?_
   ·rw [hw9]; first | (go_simp; done) | (go_simp; rfl)
   have n1 := aa.mk (show w9.heap[g2]? = some (.cells #[.int .i64 h.f0.f0, .int .i64 h.f0.f1, .slice Bh h.f1.length dh] 66 (0, 0)) by rw [hw9]; exact Eu K2.out _ _ _); have n2 := aa.mk (show w9.heap[g1]? = some (.cells #[.int .i64 h.f0.f0, .int .i64 h.f0.f1, .slice Ah h.f1.length ch] 66 (0, 0)) by rw [hw9]; exact qd K1.out NE.out _ _ _); have nX := aa.mk (show w9.heap[w.heap.size]? = some (.cells #[.slice (some ad) hs.length c1, .int .i64 W, .int .i64 S, .int .i64 t, .slice A4 sq.length c4] 25 (0, 0)) by rw [hw9]; exact qd BXa.out (by have := G2.out; omega) _ _ _); have nY := aa.mk (show w9.heap[w.heap.size + 1]? = some (.cells #[.slice (some bd) hs.length d1, .int .i64 W, .int .i64 S, .int .i64 t, .slice B4 sq.length d4] 25 (0, 0)) by rw [hw9]; exact qd BXb.out (by have := G2.out; omega) _ _ _); have nB := aa.mk (show Below w.heap.size w w9 by rw [hw9]; exact yw HB.out (by have := G2.out; omega) _ _ _); clear BXa BXb HB K1 K2 hs0 hs1 hs2 hf0 hf1 hf2 hw9; have BXa := nX; have BXb := nY; have HB := nB; have K2 := n1; have K1 := n2; clear n1 n2 nX nY nB; refine hK.out _ _ ?_; clear hK K; refine D9 HT_.out ?_; clear bR; have hg10 : w9.cell? ⟨g1, 0, none⟩ = some (.int .i64 h.f0.f0) := (af K1.out 0).trans rfl; have hg11 : w9.cell? ⟨g1, 1, none⟩ = some (.int .i64 h.f0.f1) := (af K1.out 1).trans rfl; have hg12 : w9.cell? ⟨g1, 2, none⟩ = some (.slice Ah h.f1.length ch) := (af K1.out 2).trans rfl; have hg20 : w9.cell? ⟨g2, 0, none⟩ = some (.int .i64 h.f0.f0) := (af K2.out 0).trans rfl; have hg21 : w9.cell? ⟨g2, 1, none⟩ = some (.int .i64 h.f0.f1) := (af K2.out 1).trans rfl; have hg22 : w9.cell? ⟨g2, 2, none⟩ = some (.slice Bh h.f1.length dh) := (af K2.out 2).trans rfl; go_wp2
   go_loopw [5, 9] (fun v5 v9 wr => ∃ (i : Nat), i ≤ h.f1.length ∧ v5 = .bool true ∧ v9 = .int .i64 i ∧ aa (Below w.heap.size w wr) ∧ aa (wr.heap[w.heap.size]? = some (.cells #[.slice (some ad) hs.length c1, .int .i64 W, .int .i64 S, .int .i64 t, .slice A4 sq.length c4] 25 (0, 0))) ∧ aa (wr.heap[w.heap.size + 1]? = some (.cells #[.slice (some bd) hs.length d1, .int .i64 W, .int .i64 S, .int .i64 t, .slice B4 sq.length d4] 25 (0, 0))) ∧ aa (wr.heap[g1]? = some (.cells #[.int .i64 h.f0.f0, .int .i64 h.f0.f1, .slice Ah h.f1.length ch] 66 (0, 0))) ∧ aa (wr.heap[g2]? = some (.cells #[.int .i64 h.f0.f0, .int .i64 h.f0.f1, .slice Bh h.f1.length dh] 66 (0, 0)))) (fun _ v9 _ => h.f1.length - (intOf v9).toNat)
   case atStart => exact ⟨0, by omega, rfl, rfl, HB, BXa, BXb, K1, K2⟩
   case round =>
    clear HB BXa BXb K1 K2; obtain ⟨i, hi, rfl, rfl, HB, BXa, BXb, K1, K2⟩ := hrel; have hq2 : wr.cell? ⟨g1, 2, none⟩ = some (.slice Ah h.f1.length ch) := (af K1.out 2).trans rfl; have hr2 : wr.cell? ⟨g2, 2, none⟩ = some (.slice Bh h.f1.length dh) := (af K2.out 2).trans rfl; by_cases hil : i < h.f1.length
    ·have hi1 : decide ((i : Int) < (h.f1.length : Int)) = true := decide_eq_true (by omega); (have hilt : (i : Int) < (h.f1.length : Int) := by omega); (have hi20 : (i : Int) < 20 := by have := HSL.out; omega); obtain ⟨ed, e, hp0, hp1⟩ := mP (Kd.aY HI2.out HB.out) (i : Int) (by omega) (by omega); cases e; obtain ⟨fd, e, ho0, ho1⟩ := mP (Kd.aY HI3.out HB.out) (i : Int) (by omega) (by omega); cases e; rw [Int.toNat_natCast] at hp0 hp1 ho0 ho1; obtain ⟨p, hp⟩ : ∃ p, p = ai h.f1 (i : Int) := ⟨_, rfl⟩; rw [← hp] at hp0 hp1 ho0 ho1; clear hp; go_wp2; go_quiet (fail); go_wp2
     go_roundw
     (case rel => exact ⟨i + 1, by omega, rfl, by go_num, ⟨dn HB.out _⟩, ⟨fB BXa.out _⟩, ⟨fB BXb.out _⟩, ⟨fB K1.out _⟩, ⟨fB K2.out _⟩⟩); case measure => simp [intOf]; omega
    ·(obtain rfl : i = h.f1.length := by omega); (have hi1 : decide ((h.f1.length : Int) < (h.f1.length : Int)) = false := by simp); go_wp2
     go_roundw
     (case rel => exact ⟨j + 1, by omega, rfl, by go_num, HB, BXa, BXb⟩); case measure => simp [intOf]; omega
  ·(obtain rfl : j = hs.length := by omega); (have hj1 : decide ((hs.length : Int) < (hs.length : Int)) = false := by simp); go_wp2; clear ha0 hb0 hj1
   go_loopw [5, 10, 11, 12, 13] (fun v5 v10 v11 v12 v13 wr => ∃ (j : Nat), j ≤ sq.length ∧ v5 = .bool true ∧ v10 = .int .i64 j ∧ aa (Below w.heap.size w wr) ∧ aa (wr.heap[w.heap.size]? = some (.cells #[.slice A1 hs.length c1, .int .i64 W, .int .i64 S, .int .i64 t, .slice A4 sq.length c4] 25 (0, 0))) ∧ aa (wr.heap[w.heap.size + 1]? = some (.cells #[.slice B1 hs.length d1, .int .i64 W, .int .i64 S, .int .i64 t, .slice B4 sq.length d4] 25 (0, 0)))) (fun _ v10 _ _ _ _ => sq.length - (intOf v10).toNat)
   case atStart => exact ⟨0, by omega, rfl, rfl, HB, BXa, BXb⟩
   case round =>
    clear HB BXa BXb; obtain ⟨j, hj, rfl, rfl, HB, BXa, BXb⟩ := hrel; have ha4 : wr.cell? ⟨w.heap.size, 4, none⟩ = some (.slice A4 sq.length c4) := (af BXa.out 4).trans rfl; have hb4 : wr.cell? ⟨w.heap.size + 1, 4, none⟩ = some (.slice B4 sq.length d4) := (af BXb.out 4).trans rfl; by_cases hjl : j < sq.length
    ·have hj1 : decide ((j : Int) < (sq.length : Int)) = true := decide_eq_true (by omega); (have hjlt : (j : Int) < (sq.length : Int) := by omega); (have hj20 : (j : Int) < 20 := by have := HL2.out; omega); obtain ⟨ad, Ah, ch, e, hx0, hl2, hi2⟩ := xA (Kd.aY HB4.out HB.out) (j : Int) (by omega) (by omega); cases e; obtain ⟨bd, Bh, dh, e, hy0, hl3, hi3⟩ := xA (Kd.aY HD4.out HB.out) (j : Int) (by omega) (by omega); cases e; rw [Int.toNat_natCast] at hx0 hy0; have HSL := aa.mk (show (cu sq (j : Int)).length ≤ 20 by rw [sN sq j hjl]; exact HL4.out _ (List.getElem_mem hjl)); obtain ⟨q, hqd⟩ : ∃ q, q = cu sq (j : Int) := ⟨_, rfl⟩; rw [← hqd] at HSL hx0 hy0 hl2 hl3 hi2 hi3; have HI2 := aa.mk hi2; have HI3 := aa.mk hi3; clear hqd hi2 hi3 hl2 hl3; go_wp2; go_quiet (fail); have nB := aa.mk (dn HB.out nq); have nX := aa.mk (fB BXa.out nq); have nY := aa.mk (fB BXb.out nq); have nI := aa.mk (Kd.Lu HI2.out nq); have nJ := aa.mk (Kd.Lu HI3.out nq); clear HB BXa BXb HI2 HI3 hx0 hy0 ha4 hb4; have HB := nB; have BXa := nX; have BXb := nY; have HI2 := nI; have HI3 := nJ; clear nB nX nY nI nJ; go_wp2; obtain ⟨ws, hws⟩ : ∃ ws, ws = wr.drewN nq := ⟨_, rfl⟩; rw [← hws] at HB BXa BXb HI2 HI3 ⊢; clear hws
     go_loopw [5, 13] (fun v5 v13 wt => ∃ (i : Nat), i ≤ q.length ∧ v5 = .bool true ∧ v13 = .int .i64 i ∧ aa (Below w.heap.size w wt) ∧ aa (wt.heap[w.heap.size]? = some (.cells #[.slice A1 hs.length c1, .int .i64 W, .int .i64 S, .int .i64 t, .slice (some ad) sq.length c4] 25 (0, 0))) ∧ aa (wt.heap[w.heap.size + 1]? = some (.cells #[.slice B1 hs.length d1, .int .i64 W, .int .i64 S, .int .i64 t, .slice (some bd) sq.length d4] 25 (0, 0))) ∧ aa (Below ws.heap.size ws wt)) (fun _ v13 _ => q.length - (intOf v13).toNat)
     case atStart => exact ⟨0, by omega, rfl, rfl, HB, BXa, BXb, ⟨Below.refl _ _⟩⟩
     case round =>
      clear HB BXa BXb; obtain ⟨i, hi, rfl, rfl, HB, BXa, BXb, HWS⟩ := hrel; by_cases hil : i < q.length
      ·have hi1 : decide ((i : Int) < (q.length : Int)) = true := decide_eq_true (by omega); (have hilt : (i : Int) < (q.length : Int) := by omega); (have hi20 : (i : Int) < 20 := by have := HSL.out; omega); obtain ⟨ed, e, hp0, hp1⟩ := vv (Kd.aY HI2.out HWS.out) (i : Int) (by omega) (by omega); cases e; obtain ⟨fd, e, ho0, ho1⟩ := vv (Kd.aY HI3.out HWS.out) (i : Int) (by omega) (by omega); cases e; rw [Int.toNat_natCast] at hp0 hp1 ho0 ho1; obtain ⟨p, hp⟩ : ∃ p, p = eu q (i : Int) := ⟨_, rfl⟩; rw [← hp] at hp0 hp1 ho0 ho1; clear hp; go_wp2; go_quiet (fail); go_wp2
       go_roundw
       (case rel => exact ⟨i + 1, by omega, rfl, by go_num, ⟨dn HB.out _⟩, ⟨fB BXa.out _⟩, ⟨fB BXb.out _⟩, ⟨dn HWS.out _⟩⟩); case measure => simp [intOf]; omega
      ·(obtain rfl : i = q.length := by omega); (have hi1 : decide ((q.length : Int) < (q.length : Int)) = false := by simp); go_wp2
       go_roundw
       (case rel => exact ⟨j + 1, by omega, rfl, by go_num, HB, BXa, BXb⟩); case measure => simp [intOf]; omega
    ·(obtain rfl : j = sq.length := by omega); (have hj1 : decide ((sq.length : Int) < (sq.length : Int)) = false := by simp); go_wp2
     go_ret
     exact ⟨rfl, HB.out⟩
end Go.Proofs.Ytihedeofkhapiaa.Pr
end
section
namespace Go.Proofs.Ytihedeofkhapiaa.Pr
open Go.RowKit Go.Proofs.YtihedeofkhapiaaW.PrintWords Go.Proofs.YtihedeofkhapiaaW.PrintLast Go.Proofs.YtihedeofkhapiaaW.PrintMore
attribute [local go_sem] nM nP ql qj ow oM qp qx
def gY (W S t : Int) (hs : List S66) (sq : List (List S27)) (i c : Int) : Nat → Int
 | 0 => 0
 | j + 1 => if (j : Int) = i then gY W S t hs sq i c j else gY W S t hs sq i c j + ((dK W S t hs sq (j : Int) [⟨i, c⟩] 26 65).length : Int)
def mK (W S t : Int) (hs : List S66) (sq : List (List S27)) (i : Int) (s : ByteArray) : Nat → Int
 | 0 => 0
 | a + 1 => mx (mK W S t hs sq i s a) (gY W S t hs sq i (bt s (a : Int)) sq.length)
def nN (W S t : Int) (hs : List S66) (sq : List (List S27)) (i : Int) : Int := mK W S t hs sq i (strOfNums (dK W S t hs sq i [] 26 65)) (strOfNums (dK W S t hs sq i [] 26 65)).size
theorem vI (W S t : Int) (hs : List S66) (sq : List (List S27)) (i : Int) (nd : List kL) : ∀ (n : Nat) (c : Int), (dK W S t hs sq i nd n c).length ≤ n
 | 0, _ => by simp [dK]
 | n + 1, c => by
  have := vI W S t hs sq i nd n (c + 1); rw [dK]; split
  ·simp; omega
  ·omega
theorem qV (W S t : Int) (hs : List S66) (sq : List (List S27)) (i c : Int) : ∀ n, 0 ≤ gY W S t hs sq i c n ∧ gY W S t hs sq i c n ≤ 26 * n
 | 0 => by simp [gY]
 | n + 1 => by
  have := qV W S t hs sq i c n; have := vI W S t hs sq (n : Int) [⟨i, c⟩] 26 65; rw [gY]; split <;> omega
theorem AB (W S t : Int) (hs : List S66) (sq : List (List S27)) (hl : sq.length ≤ 8) (i : Int) (s : ByteArray) : ∀ n, 0 ≤ mK W S t hs sq i s n ∧ mK W S t hs sq i s n ≤ 208
 | 0 => by simp [mK]
 | n + 1 => by
  have := AB W S t hs sq hl i s n; have := qV W S t hs sq i (bt s (n : Int)) sq.length; rw [mK]; unfold mx; split <;> omega
def zU.T11 : Bool × List (List Nat × List Nat) := (true, [([], []), ([], []), ([], []), ([], []), ([], []), ([], []), ([4, 5], [4, 5]), ([3, 6], [3, 6]), ([7], [7]), ([1, 2, 8], [1, 2, 8]), ([9], [9]), ([0, 10], [0, 10]), ([11, 9, 0, 1, 2, 3, 4, 5, 6, 7, 8, 9, 10, 11], [0, 11])])
def zU.B11 : List Nat := [0, 0, 0, 0, 0, 0, 48, 120, 248, 510, 1022, 2047, 4095]
theorem zU.Rm : mr .any (opsOf Try.f69 11) = zU.T11 := by kernel_rfl
theorem zU.J8 : lL zU.T11.2 zU.B11 = true := by kernel_rfl
def Aj.T8 : Bool × List (List Nat × List Nat) := (true, [([], []), ([], []), ([0, 1], [0, 1]), ([], []), ([], []), ([3, 4, 2], [3, 4]), ([2, 5], [2, 5])])
def Aj.B8 : List Nat := [0, 0, 3, 0, 0, 31, 63]
theorem Aj.YA : mr .any (opsOf Try.f46 8) = Aj.T8 := by kernel_rfl
theorem Aj.OJ : lL Aj.T8.2 Aj.B8 = true := by kernel_rfl
set_option maxRecDepth 100000 in
set_option maxHeartbeats 8000000 in
theorem CF (A1 : Option Addr) (c1 : Nat) (hs : List S66) (W S t : Int) (A4 : Option Addr) (c4 : Nat) (sq : List (List S27)) (i : Int) (w : World)
 (hh : Kd.C k66 w A1 hs.length hs) (hr : Kd.C (Kd.slice 27 k27) w A4 sq.length sq) (hq : nZ sq) (hho : A8 hs) :
 Calls Try.prog 69 #[.agg #[.slice A1 hs.length c1, .int .i64 W, .int .i64 S, .int .i64 t, .slice A4 sq.length c4], .int .i64 i] w fun e w' => e = .returned (.int .i64 (nN W S t hs sq i)) ∧ Below w.heap.size w w' := by
 have HR := aa.mk hr; have HH := aa.mk hh; have HQ := aa.mk hq; have HS := aa.mk hho; have HQ8 := aa.mk hq.1; clear hr hh hq hho; go_enter Try.func69, Try.ntmps69; (go_upto_region 1 with (fail)); obtain ⟨W1, hW1⟩ : ∃ W1, W1 = w.alloc (.cells #[.slice A1 hs.length c1, .int .i64 W, .int .i64 S, .int .i64 t, .slice A4 sq.length c4] 25) := ⟨_, rfl⟩; have HB := aa.mk (show Below w.heap.size w W1 by rw [hW1]; exact aH (Below.refl _ _) _); have BX := aa.mk (show W1.heap[w.heap.size]? = some (.cells #[.slice A1 hs.length c1, .int .i64 W, .int .i64 S, .int .i64 t, .slice A4 sq.length c4] 25 (0, 0)) by rw [hW1]; exact heap_alloc_new w _); rw [← hW1]; clear hW1; obtain ⟨b0, b1, b2, b3, b4, _, _, _, _, _⟩ := cells5 BX.out; (go_wp2_with (fail)); refine (AA A1 c1 hs W S t A4 c4 sq i none 0 [] _ (Kd.aY HH.out HB.out) (Kd.aY HR.out HB.out) (Kd.OW _ _) (by decide) HQ.out HS.out).mono ?_; rintro e w2 ⟨rfl, hb⟩; replace HB := aa.mk (ax HB.out hb); replace BX := aa.mk (au BX.out hb); clear hb b0 b1 b2 b3 b4; have HE := aa.mk (show nN W S t hs sq i = mK W S t hs sq i (strOfNums (dK W S t hs sq i [] 26 65)) (strOfNums (dK W S t hs sq i [] 26 65)).size from rfl); have HSZ := aa.mk (show (strOfNums (dK W S t hs sq i [] 26 65)).size ≤ 26 by rw [strOfNums_size]; exact vI W S t hs sq i [] 26 65); obtain ⟨s, hs_⟩ : ∃ s, s = strOfNums (dK W S t hs sq i [] 26 65) := ⟨_, rfl⟩; rw [← hs_] at HE HSZ ⊢; clear hs_; go_wp2
 go_loopw [5, 7, 8, 9] (fun v5 v7 v8 v9 wr => ∃ a : Nat, a ≤ s.size ∧ v5 = .int .i64 (mK W S t hs sq i s a) ∧ v7 = .int .i64 a ∧ aa (Below w.heap.size w wr) ∧ aa (wr.heap[w.heap.size]? = some (.cells #[.slice A1 hs.length c1, .int .i64 W, .int .i64 S, .int .i64 t, .slice A4 sq.length c4] 25 (0, 0)))) (fun _ v7 _ _ _ => s.size - (intOf v7).toNat)
 case atStart => exact ⟨0, by omega, rfl, rfl, HB, BX⟩
 case round =>
  clear HB BX; obtain ⟨a, ha, rfl, rfl, HB, BX⟩ := hrel; by_cases hal : a < s.size
  ·have ha1 : decide ((a : Int) < (s.size : Int)) = true := decide_eq_true (by omega); (have halt : (a : Int) < (s.size : Int) := by omega); (have ha26 : (a : Int) < 26 := by have := HSZ.out; omega); have HW := aa.mk (AB W S t hs sq HQ8.out i s a); have HN := aa.mk (show mK W S t hs sq i s (a + 1) = mx (mK W S t hs sq i s a) (gY W S t hs sq i (bt s (a : Int)) sq.length) from rfl); obtain ⟨c, hc⟩ : ∃ c, c = bt s (a : Int) := ⟨_, rfl⟩; rw [← hc] at HN; have HC := aa.mk hc; clear hc; go_wp2
   go_loopw [8, 9] (fun v8 v9 wr => ∃ b : Nat, b ≤ sq.length ∧ v8 = .int .i64 (gY W S t hs sq i c b) ∧ v9 = .int .i64 b ∧ aa (Below w.heap.size w wr) ∧ aa (wr.heap[w.heap.size]? = some (.cells #[.slice A1 hs.length c1, .int .i64 W, .int .i64 S, .int .i64 t, .slice A4 sq.length c4] 25 (0, 0)))) (fun _ v9 _ => sq.length - (intOf v9).toNat)
   case atStart => exact ⟨0, by omega, rfl, rfl, HB, BX⟩
   case round =>
    clear HB BX; obtain ⟨b, hbl, rfl, rfl, HB, BX⟩ := hrel; obtain ⟨b0, b1, b2, b3, b4, _, _, _, _, _⟩ := cells5 BX.out; by_cases hbn : b < sq.length
    ·have hb1 : decide ((b : Int) < (sq.length : Int)) = true := decide_eq_true (by omega); (have hblt : (b : Int) < (sq.length : Int) := by omega); (have hb8 : (b : Int) < 8 := by have := HQ8.out; omega); have HO := aa.mk (qV W S t hs sq i c b); by_cases hbi : (b : Int) = i
     ·(have n1 : ((b : Int) != i) = false := by rw [hbi]; exact bne_self_eq_false i); (have n2 : ((b : Int) == i) = true := by rw [hbi]; exact beq_self_eq_true i); have HP := aa.mk (show gY W S t hs sq i c (b + 1) = gY W S t hs sq i c b by rw [gY, if_pos hbi]); clear hbi; go_wp2_with (fail)
      go_roundw
      (case rel => exact ⟨b + 1, by omega, by rw [HP.out], by go_num, HB, BX⟩); case measure => simp [intOf]; omega
     ·have n1 : ((b : Int) != i) = true := bne_iff_ne.2 hbi; have n2 : ((b : Int) == i) = false := beq_eq_false_iff_ne.2 hbi; have HP := aa.mk (show gY W S t hs sq i c (b + 1) = gY W S t hs sq i c b + ((dK W S t hs sq (b : Int) [⟨i, c⟩] 26 65).length : Int) by rw [gY, if_neg hbi]); have HFL := aa.mk (vI W S t hs sq (b : Int) [⟨i, c⟩] 26 65); clear hbi; (go_wp2_with (fail)); replace HB := aa.mk (eF HB.out); replace BX := aa.mk (dO BX.out); refine qH (n := 13) (S := fun w' => w'.cell? ⟨w.heap.size, 0, none⟩ = some (.slice A1 hs.length c1) ∧ w'.cell? ⟨w.heap.size, 1, none⟩ = some (.int .i64 W) ∧ w'.cell? ⟨w.heap.size, 2, none⟩ = some (.int .i64 S) ∧ w'.cell? ⟨w.heap.size, 3, none⟩ = some (.int .i64 t) ∧ w'.cell? ⟨w.heap.size, 4, none⟩ = some (.slice A4 sq.length c4)) (ds := []) (ba 13 0) (by kernel_rfl) rfl rfl ⟨b0, b1, b2, b3, b4⟩ (fun bR => ?_); refine mg zU.Rm zU.J8 (fun HT_ HW_ => ?_); clear b0 b1 b2 b3 b4; refine fU 0 29 (ba 13 1) HT_.out ?_; refine tV 1 30 (ba 13 3) HT_.out HW_.out bR ?_; refine fU 2 31 (ba 13 7) HT_.out ?_; refine fU 3 32 (ba 13 15) HT_.out ?_; refine fU 4 33 (ba 13 31) HT_.out ?_; refine fU 5 34 (ba 13 63) HT_.out ?_; refine fU 6 35 (ba 13 127) HT_.out ?_ (v := .int .u8 c) (hv := by intro w'; rw [HC.out, ← aaa s (a : Int) hal]; go_simp; done); refine fU 7 36 (ba 13 255) HT_.out ?_; refine on_ 8 (some 37) (ba 13 511) HT_.out (fun K hK => ?_); refine Kd.iF qI w.heap.size 126 ?hg (N := 37) ?hd (xs := ([⟨i, c⟩] : List kL)) (inner := [.int .i64 i, .int .u8 c]) (ok := fun _ => True) (okp := fun _ => True) ?hr ?hp (fun _ hk => hk) trivial HB.out (az HB.out) (by simp) ?_; (case hd => rfl); (case hg => rfl); (case hr => first | (go_simp; done) | (go_simp; rfl)); (case hp => exact (dM.c2 (show Kd.M qI _ _ _ (⟨i, c⟩ : kL) [.int .i64 i, .int .u8 c] from yg _ _ _ _) (dM.none _ _))); intro v37 w_ ho hb hg hat; obtain ⟨A37, c37, rfl, _, hc37⟩ := Kd.uP ho; have C37 := aa.mk hc37; replace BX := aa.mk (bQ BX.out hg (by simp)); replace HB := aa.mk hb; clear ho hb hg hat hc37; obtain ⟨b0, b1, b2, b3, b4, _, _, _, _, _⟩ := cells5 BX.out; refine hK.out _ _ ⟨b0, b1, b2, b3, b4⟩ (fun bR => ?_); clear hK K b0 b1 b2 b3 b4; refine mD ?_; refine on_ 9 (some 38) (ba 13 1023) HT_.out (fun K hK => ?_); refine yA Try.func62 (by kernel_rfl) rfl #[.agg #[.slice A1 hs.length c1, .int .i64 W, .int .i64 S, .int .i64 t, .slice A4 sq.length c4], .int .i64 (b : Int), .slice A37 1 c37] (by rfl) rfl rfl (by (try simp only [List.map_toArray, List.map_cons, List.map_nil]); first | done | rfl) ?_; refine (AA A1 c1 hs W S t A4 c4 sq (b : Int) A37 c37 [⟨i, c⟩] _ (Kd.aY HH.out HB.out) (Kd.aY HR.out HB.out) C37.out (by simp) HQ.out HS.out).mono ?_; rintro e w6 ⟨rfl, hb⟩; refine ⟨_, rfl, ?_⟩; replace BX := aa.mk (au BX.out hb); replace HB := aa.mk (ax HB.out hb); clear hb; have HZ := aa.mk (strOfNums_size (dK W S t hs sq (b : Int) [⟨i, c⟩] 26 65)); obtain ⟨z, hz⟩ : ∃ z, z = strOfNums (dK W S t hs sq (b : Int) [⟨i, c⟩] 26 65) := ⟨_, rfl⟩; rw [← hz] at HZ ⊢; clear hz; obtain ⟨b0, b1, b2, b3, b4, _, _, _, _, _⟩ := cells5 BX.out; refine hK.out _ _ ⟨b0, b1, b2, b3, b4⟩ (fun bR => ?_); clear hK K b0 b1 b2 b3 b4; refine mD ?_; refine fU 10 39 (ba 13 2047) HT_.out ?_; refine fU 11 40 (ba 13 4095) HT_.out ?_; refine fU 12 8 (ba 13 8191) HT_.out ?_; refine D9 HT_.out ?_; clear bR; go_wp2
      go_roundw
      case rel => exact ⟨b + 1, by omega, by
       rw [HP.out, ← HZ.out]; have h1 := HO.out; have h2 := HFL.out; have h3 := HZ.out; congr 1; unfold wrap64
       omega, by go_num, HB, BX⟩
      case measure => simp [intOf]; omega
    ·(obtain rfl : b = sq.length := by omega); (have hb1 : decide ((sq.length : Int) < (sq.length : Int)) = false := by simp); go_wp2_with (fail)
     go_roundw
     (case rel => exact ⟨a + 1, by omega, by rw [HN.out]; rfl, by go_num, HB, BX⟩); case measure => simp [intOf]; omega
  ·(obtain rfl : a = s.size := by omega); (have ha1 : decide ((s.size : Int) < (s.size : Int)) = false := by simp); go_wp2
   go_ret
   exact ⟨by rw [HE.out]; rfl, HB.out⟩
end Go.Proofs.Ytihedeofkhapiaa.Pr
end
section
namespace Go.Proofs.Ytihedeofkhapiaa.Pr
open Go.RowKit Go.Proofs.YtihedeofkhapiaaW.PrintWords Go.Proofs.YtihedeofkhapiaaW.PrintLast Go.Proofs.YtihedeofkhapiaaW.PrintMore
def jI (W S t : Int) (hs : List S66) (sq : List (List S27)) : Nat → Int
 | 0 => 0
 | n + 1 => if nN W S t hs sq ((n + 1 : Nat) : Int) < nN W S t hs sq (jI W S t hs sq n) then ((n + 1 : Nat) : Int) else jI W S t hs sq n
def sI (hs : List S66) (W S t : Int) (sq : List (List S27)) : (Int × Int) × Int :=
 if (kg hs W S t sq).2 = 0 then ((jI W S t hs sq (sq.length - 1), nN W S t hs sq (jI W S t hs sq (sq.length - 1))), 0) else ((0, 0), (kg hs W S t sq).2)
theorem zZ {hs : List S66} {W S t : Int} {sq : List (List S27)} (h : (kg hs W S t sq).2 = 0) : 0 < sq.length := by
 rw [kg] at h; by_cases hc : eH hs W S t sq = 0
 ·exact (kE hc).2.2.1
 ·rw [if_neg hc] at h; exact absurd h hc
set_option maxRecDepth 100000 in
set_option maxHeartbeats 8000000 in
theorem Sg (A1 : Option Addr) (c1 : Nat) (hs : List S66) (W S t : Int) (A4 : Option Addr) (c4 : Nat) (sq : List (List S27)) (w : World)
 (hh : Kd.C k66 w A1 hs.length hs) (hr : Kd.C (Kd.slice 27 k27) w A4 sq.length sq) :
 Calls Try.prog 46 #[.agg #[.slice A1 hs.length c1, .int .i64 W, .int .i64 S, .int .i64 t, .slice A4 sq.length c4]] w fun e w' => e = .returned (.tuple #[.int .i64 (sI hs W S t sq).1.1, .int .i64 (sI hs W S t sq).1.2, .int .i64 (sI hs W S t sq).2]) ∧ Below w.heap.size w w' := by
 have HR := aa.mk hr; have HH := aa.mk hh; clear hr hh; go_enter Try.func46, Try.ntmps46; (go_upto_region 1 with (fail)); obtain ⟨W1, hW1⟩ : ∃ W1, W1 = w.alloc (.cells #[.slice A1 hs.length c1, .int .i64 W, .int .i64 S, .int .i64 t, .slice A4 sq.length c4] 25) := ⟨_, rfl⟩; have HB := aa.mk (show Below w.heap.size w W1 by rw [hW1]; exact aH (Below.refl _ _) _); have BX := aa.mk (show W1.heap[w.heap.size]? = some (.cells #[.slice A1 hs.length c1, .int .i64 W, .int .i64 S, .int .i64 t, .slice A4 sq.length c4] 25 (0, 0)) by rw [hW1]; exact heap_alloc_new w _); rw [← hW1]; clear hW1; obtain ⟨b0, b1, b2, b3, b4, _, _, _, _, _⟩ := cells5 BX.out; (go_wp2_with (fail)); refine (M6 A1 c1 hs W S t A4 c4 sq _ (Kd.aY HH.out HB.out) (Kd.aY HR.out HB.out)).mono ?_; rintro e w2 ⟨v, rfl, _, hb⟩; replace HB := aa.mk (ax HB.out hb); replace BX := aa.mk (au BX.out hb); clear hb b0 b1 b2 b3 b4; have HE := aa.mk (show sI hs W S t sq = if (kg hs W S t sq).2 = 0 then ((jI W S t hs sq (sq.length - 1), nN W S t hs sq (jI W S t hs sq (sq.length - 1))), 0) else ((0, 0), (kg hs W S t sq).2) from rfl); have HOK := aa.mk (fun h : (kg hs W S t sq).2 = 0 => (⟨Az h, zZ h⟩ : (nZ sq ∧ A8 hs) ∧ 0 < sq.length)); obtain ⟨ev, hev⟩ : ∃ ev, ev = (kg hs W S t sq).2 := ⟨_, rfl⟩; rw [← hev] at HE HOK ⊢; clear hev; by_cases hz : ev = 0
 ·have HF := aa.mk (HE.out.trans (if_pos hz)); obtain ⟨⟨oq, oh⟩, hp⟩ := HOK.out hz; have OQ := aa.mk oq; have OH := aa.mk oh; have OP := aa.mk hp; have OL := aa.mk oq.1; (have z1 : (ev == 0) = true := by rw [hz]; rfl); (have z2 : (ev != 0) = false := by rw [hz]; rfl); clear hz HE HOK oq oh hp; go_wp2
  go_loopw [7, 8] (fun v7 v8 wr => ∃ n : Nat, n + 1 ≤ sq.length ∧ v7 = .int .i64 (jI W S t hs sq n) ∧ v8 = .int .i64 ((n + 1 : Nat) : Int) ∧ aa (Below w.heap.size w wr) ∧ aa (wr.heap[w.heap.size]? = some (.cells #[.slice A1 hs.length c1, .int .i64 W, .int .i64 S, .int .i64 t, .slice A4 sq.length c4] 25 (0, 0)))) (fun _ v8 _ => sq.length - (intOf v8).toNat)
  case atStart => exact ⟨0, by have := OP.out; omega, rfl, rfl, HB, BX⟩
  case round =>
   clear HB BX; obtain ⟨n, hn, rfl, rfl, HB, BX⟩ := hrel; obtain ⟨b0, b1, b2, b3, b4, _, _, _, _, _⟩ := cells5 BX.out; by_cases hnl : n + 1 < sq.length
   ·have hn1 : decide (((n + 1 : Nat) : Int) < (sq.length : Int)) = true := decide_eq_true (by omega); (have hn2 : ((n + 1 : Nat) : Int) < (sq.length : Int) := by omega); (have hn8 : ((n + 1 : Nat) : Int) < 8 := by have := OL.out; omega); have HN := aa.mk (show jI W S t hs sq (n + 1) = if nN W S t hs sq ((n + 1 : Nat) : Int) < nN W S t hs sq (jI W S t hs sq n) then ((n + 1 : Nat) : Int) else jI W S t hs sq n from rfl); obtain ⟨q, hq⟩ : ∃ q : Int, q = ((n + 1 : Nat) : Int) := ⟨_, rfl⟩; obtain ⟨bs, hbs⟩ : ∃ bs, bs = jI W S t hs sq n := ⟨_, rfl⟩; rw [← hq, ← hbs] at HN; rw [← hq] at hn1 hn2 hn8; have HQ := aa.mk hq; have HBS := aa.mk hbs; rw [← hq, ← hbs]; clear hq hbs; (go_wp2_with (fail)); replace HB := aa.mk (eF HB.out); replace BX := aa.mk (dO BX.out); refine qH (n := 7) (S := fun w' => w'.cell? ⟨w.heap.size, 0, none⟩ = some (.slice A1 hs.length c1) ∧ w'.cell? ⟨w.heap.size, 1, none⟩ = some (.int .i64 W) ∧ w'.cell? ⟨w.heap.size, 2, none⟩ = some (.int .i64 S) ∧ w'.cell? ⟨w.heap.size, 3, none⟩ = some (.int .i64 t) ∧ w'.cell? ⟨w.heap.size, 4, none⟩ = some (.slice A4 sq.length c4)) (ds := []) (ba 7 0) (by kernel_rfl) rfl rfl ⟨b0, b1, b2, b3, b4⟩ (fun bR => ?_); refine mg Aj.YA Aj.OJ (fun HT_ HW_ => ?_); clear b0 b1 b2 b3 b4; refine tV 0 24 (ba 7 1) HT_.out HW_.out bR ?_; refine fU 1 25 (ba 7 3) HT_.out ?_; refine tV 3 27 (ba 7 11) HT_.out HW_.out bR ?_; refine fU 4 28 (ba 7 27) HT_.out ?_; refine on_ 2 (some 26) (ba 7 31) HT_.out (fun K hK => ?_); refine yA Try.func69 (by kernel_rfl) rfl #[.agg #[.slice A1 hs.length c1, .int .i64 W, .int .i64 S, .int .i64 t, .slice A4 sq.length c4], .int .i64 q] (by rfl) rfl rfl (by (try simp only [List.map_toArray, List.map_cons, List.map_nil]); first | done | rfl) ?_; refine (CF A1 c1 hs W S t A4 c4 sq q _ (Kd.aY HH.out HB.out) (Kd.aY HR.out HB.out) OQ.out OH.out).mono ?_; rintro e s_ ⟨rfl, hb⟩; refine ⟨_, rfl, ?_⟩; replace BX := aa.mk (au BX.out hb); replace HB := aa.mk (ax HB.out hb); clear hb; obtain ⟨r1, hr1⟩ : ∃ r, r = nN W S t hs sq q := ⟨_, rfl⟩; rw [← hr1] at HN ⊢; clear hr1; obtain ⟨b0, b1, b2, b3, b4, _, _, _, _, _⟩ := cells5 BX.out; refine hK.out _ _ ⟨b0, b1, b2, b3, b4⟩ (fun bR => ?_); clear hK K b0 b1 b2 b3 b4; refine mD ?_; refine on_ 5 (some 29) (ba 7 63) HT_.out (fun K hK => ?_); refine yA Try.func69 (by kernel_rfl) rfl #[.agg #[.slice A1 hs.length c1, .int .i64 W, .int .i64 S, .int .i64 t, .slice A4 sq.length c4], .int .i64 bs] (by rfl) rfl rfl (by (try simp only [List.map_toArray, List.map_cons, List.map_nil]); first | done | rfl) ?_; refine (CF A1 c1 hs W S t A4 c4 sq bs _ (Kd.aY HH.out HB.out) (Kd.aY HR.out HB.out) OQ.out OH.out).mono ?_; rintro e s_ ⟨rfl, hb⟩; refine ⟨_, rfl, ?_⟩; replace BX := aa.mk (au BX.out hb); replace HB := aa.mk (ax HB.out hb); clear hb; obtain ⟨r2, hr2⟩ : ∃ r, r = nN W S t hs sq bs := ⟨_, rfl⟩; rw [← hr2] at HN ⊢; clear hr2; obtain ⟨b0, b1, b2, b3, b4, _, _, _, _, _⟩ := cells5 BX.out; refine hK.out _ _ ⟨b0, b1, b2, b3, b4⟩ (fun bR => ?_); clear hK K b0 b1 b2 b3 b4; refine mD ?_; refine fU 6 30 (ba 7 127) HT_.out ?_; refine D9 HT_.out ?_; clear bR; by_cases hlt : r1 < r2
    ·have d1 : decide (r1 < r2) = true := decide_eq_true hlt; have HM := aa.mk (HN.out.trans (if_pos hlt)); go_wp2
     go_roundw
     case rel => exact ⟨n + 1, by omega, by rw [HM.out], by
      have h := HQ.out; congr 1; unfold wrap64
      omega, HB, BX⟩
     case measure =>
      have h := HQ.out; (have e : wrap64 (q + 1) = q + 1 := by unfold wrap64; omega); simp [intOf, e]; omega
    ·have d1 : decide (r1 < r2) = false := decide_eq_false hlt; have HM := aa.mk (HN.out.trans (if_neg hlt)); (have d2 : r2 ≤ r1 := by omega); go_wp2
     go_roundw
     case rel => exact ⟨n + 1, by omega, by rw [HM.out], by
      have h := HQ.out; congr 1; unfold wrap64
      omega, HB, BX⟩
     case measure =>
      have h := HQ.out; (have e : wrap64 (q + 1) = q + 1 := by unfold wrap64; omega); simp [intOf, e]; omega
   ·have hn1 : decide (((n + 1 : Nat) : Int) < (sq.length : Int)) = false := decide_eq_false (by omega); have HG := aa.mk (show sI hs W S t sq = ((jI W S t hs sq n, nN W S t hs sq (jI W S t hs sq n)), 0) by rw [HF.out, show sq.length - 1 = n by omega]); obtain ⟨bs, hbs⟩ : ∃ bs, bs = jI W S t hs sq n := ⟨_, rfl⟩; rw [← hbs] at HG ⊢; clear hbs; (go_wp2_with (fail)); refine (CF A1 c1 hs W S t A4 c4 sq bs _ (Kd.aY HH.out HB.out) (Kd.aY HR.out HB.out) OQ.out OH.out).mono ?_; rintro e s_ ⟨rfl, hb⟩; go_wp2
    go_ret3
    exact ⟨by rw [HG.out]; rfl, ax HB.out hb⟩
 ·have HF := aa.mk (HE.out.trans (if_neg hz)); have z1 : (ev == 0) = false := beq_eq_false_iff_ne.2 hz; have z2 : (ev != 0) = true := bne_iff_ne.2 hz; clear hz HE HOK; go_wp2
  go_ret3
  exact ⟨by rw [HF.out]; rfl, HB.out⟩
theorem qR (W S : Int) {sh : List S86} (hsh : pY sh) {q : List S27} (hq : za q) {k : Nat} (hk : k < sh.length) : 0 ≤ cellP W S (fD q) (ai sh (k : Int)) ∧ (cellP W S (fD q) (ai sh (k : Int)) ≤ 20 ∨ cellP W S (fD q) (ai sh (k : Int)) = 1048576) := by
 have hs := hsh.at hk; exact KG W S hq (ai sh (k : Int)) hs.1 hs.2
def oZ (W S : Int) (sq : List (List S27)) (sh : List S86) (i : Nat) : Int := yF W S sh (cu sq (i : Int))
theorem Qf (W S : Int) {sq : List (List S27)} (hq : nZ sq) {sh : List S86} (hsh : pY sh) :
 (eQ (-1) 0 (dI W S sq sh sq.length) sh sq.length).2 = gL (oZ W S sq sh) sq.length ∧ ∀ i (h : i < sq.length), (eQ (-1) 0 (dI W S sq sh sq.length) sh sq.length).1.getD i 0 = oZ W S sq sh i := by
 have hnn : ∀ i k, i < sq.length → k < sh.length → 0 ≤ (dI W S sq sh sq.length).getD (i * 8 + k) 0 := fun i k hi hk => by
  rw [lM W S sq sh hsh.1 sq.length hq.1 i k hi hk]; exact (qR W S hsh (hq.at hi).2 hk).1
 obtain ⟨e1, e2⟩ := MF (dI W S sq sh sq.length) sh sq.length hq.1 hnn
 have hE : ∀ i (h : i < sq.length), eO (-1) 0 (dI W S sq sh sq.length) i sh sh.length = oZ W S sq sh i := fun i h => by
  rw [vJ W S sq hq.1 sh hsh.1 i h _ (Nat.le_refl _)]; rfl
 refine ⟨?_, fun i h => by rw [e2 i h, hE i h]⟩; rw [e1]; exact uG _ (fun i hi => hE i hi)
theorem tZ (W S : Int) {sq : List (List S27)} (hq : nZ sq) {sh : List S86} (hsh : pY sh) {i : Nat} (hi : i < sq.length) : 0 ≤ oZ W S sq sh i ∧ (oZ W S sq sh i ≤ 20 ∨ oZ W S sq sh i = 1048576) := (rA W S (hq.at hi).2 hsh _ (Nat.le_refl _)).2
theorem Bw (f : Nat → Int) : ∀ n, (∀ i, i < n → 0 ≤ f i ∧ (f i ≤ 20 ∨ f i = 1048576)) → (gL f n = gL (fun i => nW (f i)) n ∧ 0 ≤ gL f n ∧ gL f n ≤ 20 * n) ∨ (1048576 ≤ gL f n ∧ 1000 ≤ gL (fun i => nW (f i)) n)
 | 0, _ => .inl ⟨rfl, Int.le_refl _, Int.le_refl _⟩
 | n + 1, h => by
  have h1 := Bw f n (fun i hi => h i (by omega)); have h2 := h n (by omega)
  have hc : 0 ≤ nW (f n) ∧ ((nW (f n) = f n ∧ f n ≤ 20) ∨ (nW (f n) = 1000 ∧ f n = 1048576)) := by
   unfold nW; split <;> omega
  simp only [gL]
  have hp : 0 ≤ gL f n ∧ 0 ≤ gL (fun i => nW (f i)) n := by
   rcases h1 with h1 | h1 <;> omega
  rcases h1 with h1 | h1 <;> omega
theorem EI (W S : Int) {sq : List (List S27)} (hq : nZ sq) {sh : List S86} (hsh : pY sh) : ∀ n, n ≤ sq.length → iP W S sq sh [] n = some (gL (fun i => nW (oZ W S sq sh i)) n)
 | 0, _ => rfl
 | n + 1, hn => by
  have e := (rA W S (hq.at (i := n) (by omega)).2 hsh _ (Nat.le_refl _)).1; rw [iP, EI W S hq hsh n (by omega)]; simp only [Option.bind_some, nC, List.foldl_nil]; rw [e]; rfl
theorem UW (hs : List S66) (W S : Int) {sq : List (List S27)} (hq : nZ sq) (x : Nat) (hsh : pY (ah hs (x : Int)).f1) : kK hs W S sq x = gL (oZ W S sq (ah hs (x : Int)).f1) sq.length := (Qf W S hq hsh).1
theorem zR (hs : List S66) (W S : Int) {sq : List (List S27)} (hq : nZ sq) (x : Nat) (hsh : pY (ah hs (x : Int)).f1) :
 (kK hs W S sq x = iY W S sq (ah hs (x : Int)).f1 [] ∧ 0 ≤ kK hs W S sq x ∧ kK hs W S sq x ≤ 160) ∨ (1048576 ≤ kK hs W S sq x ∧ 1000 ≤ iY W S sq (ah hs (x : Int)).f1 []) := by
 have h1 := Bw (oZ W S sq (ah hs (x : Int)).f1) sq.length (fun i hi => tZ W S hq hsh hi); have h2 := hq.1; rw [UW hs W S hq x hsh, iY, EI W S hq hsh _ (Nat.le_refl _), Option.getD_some]; rcases h1 with ⟨a, b, c⟩ | h1
 ·exact .inl ⟨a, b, by omega⟩
 ·exact .inr h1
theorem Rn (hs : List S66) (W S : Int) {t : Int} (ht : t ≤ 40) {sq : List (List S27)} (hq : nZ sq) (x : Nat) (hsh : pY (ah hs (x : Int)).f1) : kK hs W S sq x ≤ t ↔ iY W S sq (ah hs (x : Int)).f1 [] ≤ t := by
 rcases zR hs W S hq x hsh with ⟨a, _⟩ | ⟨a, b⟩
 ·rw [a]
 ·omega
def Ht (b b' : Int) : Prop := (b = b' ∧ 0 ≤ b ∧ b ≤ 160) ∨ (1048576 ≤ b ∧ 1000 ≤ b')
theorem XL {a a' b b' : Int} (h : Ht a a') (h' : Ht b b') : Ht (mn a b) (min a' b') := by
 unfold Ht mn at *; rw [Int.min_def]
 (repeat' split) <;> omega
theorem Jm {α : Type} (T R : α → Int) : ∀ (l : List α) (b b' : Int), Ht b b' → (∀ x ∈ l, Ht (T x) (R x)) → Ht (l.foldl (fun b x => mn b (T x)) b) (l.foldl (fun b x => min b (R x)) b')
 | [], _, _, h, _ => h
 | x :: r, b, b', h, hl => by
  rw [List.foldl_cons, List.foldl_cons]; exact Jm T R r _ _ (XL h (hl x List.mem_cons_self)) (fun y hy => hl y (List.mem_cons_of_mem _ hy))
theorem EK (W S : Int) (sq : List (List S27)) : ∀ (hs : List S66) (b : Int), xD W S sq b hs = hs.foldl (fun b h => min b (iY W S sq h.f1 [])) b
 | [], _ => rfl
 | h :: r, b => by rw [xD, List.foldl_cons, EK W S sq r]
theorem lu (hs : List S66) (x : Fin hs.length) : ah hs ((x.1 : Nat) : Int) = hs.get x := by rw [lg hs x.1 x.2]; rfl
theorem Qk {β : Type} (hs : List S66) (g : β → S66 → β) (b : β) : hs.foldl g b = (List.finRange hs.length).foldl (fun b x => g b (hs.get x)) b := by
 have e : hs = (List.finRange hs.length).map hs.get := by
  apply List.ext_getElem
  ·simp
  ·intro i h1 h2; simp
 conv => lhs; rw [e]
 rw [List.foldl_map]
theorem QE {hs : List S66} {W S t : Int} {sq : List (List S27)} (hc : eH hs W S t sq = 0) : Ht (oW hs W S sq (List.finRange hs.length)) (xD W S sq 1000 hs) := by
 obtain ⟨hq, hh⟩ := mW hc; rw [EK, Qk]
 exact Jm (fun x : Fin hs.length => kK hs W S sq x.1) (fun x => iY W S sq (hs.get x).f1 []) _ _ _ (.inr ⟨Int.le_refl _, Int.le_refl _⟩) (fun x _ => by
  have h := zR hs W S hq x.1 (hh.at x.2); rw [lu hs x] at h; rcases h with ⟨h1, h2, h3⟩ | h
  ·exact .inl ⟨h1, h2, h3⟩
  ·exact .inr h)
theorem Yk (hs : List S66) (W S t : Int) (sq : List (List S27)) : BM hs W S t sq = KV hs W S t sq := by
 by_cases hc : eH hs W S t sq = 0
 ·rw [BM, KV, if_pos hc, if_pos hc]; have h := QE hc; generalize oW hs W S sq (List.finRange hs.length) = b at h; generalize xD W S sq 1000 hs = b' at h; rcases h with ⟨h1, h2, h3⟩ | ⟨h1, h2⟩
  ·subst h1; rw [if_neg (by omega), if_neg (by omega)]
  ·rw [if_pos h1, if_pos h2]
 ·rw [BM, KV, if_neg hc, if_neg hc]
theorem IP {hs : List S66} {W S t : Int} (ht : t ≤ 40) {sq : List (List S27)} (hq : nZ sq) (hh : A8 hs) : ∀ (d j : Nat), j + d = hs.length → ik W S t sq j (hs.drop j) = mM hs W S t sq ((List.finRange hs.length).drop j)
 | 0, j, h => by
  rw [List.drop_eq_nil_of_le (by omega), List.drop_eq_nil_of_le (by simp; omega)]; rfl
 | d + 1, j, h => by
  (have hj : j < hs.length := by omega); (have hj2 : j < (List.finRange hs.length).length := by simpa using hj); have ih := IP (W := W) (S := S) ht hq hh d (j + 1) (by omega); (have e : (List.finRange hs.length)[j] = ⟨j, hj⟩ := by simp); have hle := Rn hs W S ht hq j (hh.at hj); rw [D8 W S t sq hs j hj, ih, List.drop_eq_getElem_cons hj2, e]; generalize (List.finRange hs.length).drop (j + 1) = L; by_cases hc : iY W S sq (ah hs (j : Int)).f1 [] ≤ t
  ·rw [if_pos hc]; (show _ = ((⟨j, hj⟩ :: L).filter fun x => decide (kK hs W S sq x.1 ≤ t)).map fun x => (x.1 : Int)); rw [List.filter_cons_of_pos (by simpa using hle.2 hc), List.map_cons]; rfl
  ·rw [if_neg hc]; (show _ = ((⟨j, hj⟩ :: L).filter fun x => decide (kK hs W S sq x.1 ≤ t)).map fun x => (x.1 : Int)); rw [List.filter_cons_of_neg (by simpa using fun h => hc (hle.1 h))]; rfl
theorem Jp {hs : List S66} {W S t : Int} {sq : List (List S27)} (hc : eH hs W S t sq = 0) : ik W S t sq 0 hs = mM hs W S t sq (List.finRange hs.length) := by
 obtain ⟨hq, hh⟩ := mW hc; obtain ⟨_, _, _, _, _, _, _, _, h9⟩ := kE hc; have := nR.1 h9; exact IP this.2 hq hh hs.length 0 (by omega)
theorem FI (hs : List S66) (W S t : Int) (sq : List (List S27)) : tO hs W S t sq = kg hs W S t sq := by
 by_cases hc : eH hs W S t sq = 0
 ·rw [tO, kg, if_pos hc, if_pos hc, Jp hc]
 ·rw [tO, kg, if_neg hc, if_neg hc]
theorem DJ (f : Nat → Int) (i : Nat) (v : Int) : ∀ n, gL (fun j => if j = i then v else f j) n = if i < n then gL f n - f i + v else gL f n
 | 0 => by simp [gL]
 | n + 1 => by
  simp only [gL]; rw [DJ f i v n]; by_cases h1 : n = i
  ·subst h1; rw [if_neg (by omega), if_pos rfl, if_pos (by omega)]; omega
  ·rw [if_neg h1]; by_cases h2 : i < n
   ·rw [if_pos h2, if_pos (by omega)]; omega
   ·rw [if_neg h2, if_neg (by omega)]
theorem si {f : Nat → Int} : ∀ n, (∀ i, i < n → 0 ≤ f i) → ∀ i, i < n → f i ≤ gL f n ∧ 0 ≤ gL f n
 | 0, _, i, hi => by omega
 | n + 1, h, i, hi => by
  simp only [gL]; have h0 := h n (by omega)
  have hp : 0 ≤ gL f n := by
   rcases Nat.eq_zero_or_pos n with rfl | hn
   ·exact Int.le_refl _
   ·exact (si n (fun j hj => h j (by omega)) 0 hn).2
  by_cases e : i = n
  ·subst e; omega
  ·have := (si n (fun j hj => h j (by omega)) i (by omega)).1; omega
def Ris (sh : List S86) : Prop := sh.Pairwise (fun a b => a.f0 < b.f0) ∧ ∀ s ∈ sh, 65 ≤ s.f0 ∧ s.f0 ≤ 90
theorem Qv : ∀ (sh : List S86) (p : Option Int), jb p sh = 0 → Ris sh ∧ ∀ q, p = some q → ∀ s ∈ sh, q < s.f0
 | [], _, _ => ⟨⟨List.Pairwise.nil, fun s hs => by cases hs⟩, fun q _ s hs => by cases hs⟩
 | x :: r, p, h => by
  rw [jb] at h; by_cases h1 : x.f0 < 65 ∨ x.f0 > 90
  ·rw [if_pos h1] at h; exact absurd h (by decide)
  ·rw [if_neg h1] at h; by_cases h2 : inP x.f1 1 1023 = true
   ·rw [if_pos h2] at h; by_cases h3 : ∃ q, p = some q ∧ x.f0 ≤ q
    ·rw [if_pos h3] at h; exact absurd h (by decide)
    ·rw [if_neg h3] at h; obtain ⟨⟨hr1, hr2⟩, hr3⟩ := Qv r _ h; have hx := hr3 x.f0 rfl; refine ⟨⟨List.Pairwise.cons hx hr1, fun s hs => ?_⟩, fun q hq s hs => ?_⟩
     ·rcases List.mem_cons.1 hs with rfl | hs
      ·omega
      ·exact hr2 s hs
     ·(have hqx : q < x.f0 := Int.not_le.1 fun hle => h3 ⟨q, hq, hle⟩); rcases List.mem_cons.1 hs with rfl | hs
      ·exact hqx
      ·have := hx s hs; omega
   ·rw [if_neg h2] at h; exact absurd h (by decide)
theorem sQ : ∀ (sh : List S86), sh.Pairwise (fun a b => a.f0 < b.f0) → ∀ (k : Nat) (hk : k < sh.length) (c : Int), (sh[k]).f0 = c → iH sh c = ((sh[k]).f1, true)
 | s :: r, h, 0, _, c, e => by
  simp only [List.getElem_cons_zero] at e ⊢; rw [iH, if_pos e]
 | s :: r, h, k + 1, hk, c, e => by
  simp only [List.getElem_cons_succ] at e ⊢; rw [List.pairwise_cons] at h; (have hk' : k < r.length := by simpa using hk); have := h.1 _ (List.getElem_mem hk'); rw [iH, if_neg (by omega)]; exact sQ r h.2 k hk' c e
theorem xG : ∀ (sh : List S86) (c : Int), (∀ s ∈ sh, s.f0 ≠ c) → iH sh c = (0, false)
 | [], _, _ => rfl
 | s :: r, c, h => by
  rw [iH, if_neg (h s List.mem_cons_self)]; exact xG r c (fun y hy => h y (List.mem_cons_of_mem _ hy))
theorem zI (f : Nat → Int) : ∀ n, (∀ i, i < n → 0 ≤ f i ∧ (f i ≤ 20 ∨ f i = 1048576)) → gL f n ≤ 1048576 * n
 | 0, _ => by simp [gL]
 | n + 1, h => by
  have h1 := zI f n (fun i hi => h i (by omega)); have h2 := h n (by omega); simp only [gL]; push_cast; omega
def kH (W S : Int) (sq : List (List S27)) (sh : List S86) (i : Nat) (v : Int) (j : Nat) : Int := if j = i then v else oZ W S sq sh j
theorem zo {a b : Int} (ha : 0 ≤ a ∧ (a ≤ 20 ∨ a = 1048576)) (hb : 0 ≤ b ∧ (b ≤ 20 ∨ b = 1048576)) (h : a ≤ b) : mx (nW a) (nW b) = nW b := by
 unfold mx nW
 (repeat' split) <;> omega
theorem AJ (W S : Int) {sq : List (List S27)} (hq : nZ sq) {sh : List S86} (hsh : pY sh) {i : Nat} {c : Int} {k : Nat} (hk : k < sh.length) (hs : iH sh c = ((ai sh (k : Int)).f1, true)) : ∀ n, n ≤ sq.length →
 iP W S sq sh [⟨(i : Int), c⟩] n = some (gL (fun j => nW (kH W S sq sh i (cellP W S (fD (cu sq (i : Int))) (ai sh (k : Int))) j)) n)
 | 0, _ => rfl
 | n + 1, hn => by
  have hl := rA W S (hq.at (i := n) (by omega)).2 hsh _ (Nat.le_refl _); rw [iP, AJ W S hq hsh hk hs n (by omega)]; simp only [Option.bind_some, nC, List.foldl_cons, List.foldl_nil, iI, hs, if_true]; by_cases e : i = n
  ·subst e; rw [if_pos rfl]; have hle : nk W S (fD (cu sq (i : Int))) sh sh.length ≤ cellP W S (fD (cu sq (i : Int))) (ai sh (k : Int)) := Be W S _ sh sh.length k hk; have hm := zo hl.2 (qR W S hsh (hq.at (i := i) (by omega)).2 hk) hle; rw [hl.1, wR, hm]; simp only [Option.bind_some, gL, kH, if_true]
  ·rw [if_neg (by omega), hl.1]; simp only [Option.bind_some, gL, kH]; rw [if_neg (Ne.symm e)]; rfl
theorem BR (W S : Int) (sq : List (List S27)) (sh : List S86) {i : Nat} {c : Int} (hs : iH sh c = (0, false)) : ∀ n, i < n → iP W S sq sh [⟨(i : Int), c⟩] n = none
 | 0, h => by omega
 | n + 1, h => by
  rw [iP]; by_cases e : i = n
  ·subst e
   have : nC W S (cu sq (i : Int)) sh i [⟨(i : Int), c⟩] = none := by
    simp [nC, iI, hs]
   rw [this]; cases iP W S sq sh [⟨(i : Int), c⟩] i <;> rfl
  ·rw [BR W S sq sh hs n (by omega)]; rfl
theorem VB (hs : List S66) (W S : Int) {t : Int} (ht : t ≤ 40) {sq : List (List S27)} (hq : nZ sq) (x : Nat) (hsh : pY (ah hs (x : Int)).f1) {i : Nat} (hi : i < sq.length) {k : Nat} (hk : k < (ah hs (x : Int)).f1.length) :
 xf (-1) 0 W S t hs sq i x k = true ↔ gL (fun j => nW (kH W S sq (ah hs (x : Int)).f1 i (cellP W S (fD (cu sq (i : Int))) (ai (ah hs (x : Int)).f1 (k : Int))) j)) sq.length ≤ t := by
 obtain ⟨e1, e2⟩ := Qf W S hq hsh; have hm := lM W S sq (ah hs (x : Int)).f1 hsh.1 sq.length hq.1 i k hi hk; have hv := qR W S hsh (hq.at hi).2 hk
 have h3 : xf (-1) 0 W S t hs sq i x k = (decide (cellP W S (fD (cu sq (i : Int))) (ai (ah hs (x : Int)).f1 (k : Int)) < 1048576) && decide (wrap64 (wrap64 (gL (oZ W S sq (ah hs (x : Int)).f1) sq.length - oZ W S sq (ah hs (x : Int)).f1 i) + cellP W S (fD (cu sq (i : Int))) (ai (ah hs (x : Int)).f1 (k : Int))) ≤ t)) := by
  show (tK (-1) 0 (i : Int) _ && decide ((dI W S sq (ah hs (x : Int)).f1 sq.length).getD (i * 8 + k) 0 < 1048576) && decide (wrap64 (wrap64 ((eQ (-1) 0 (dI W S sq (ah hs (x : Int)).f1 sq.length) (ah hs (x : Int)).f1 sq.length).2 - (eQ (-1) 0 (dI W S sq (ah hs (x : Int)).f1 sq.length) (ah hs (x : Int)).f1 sq.length).1.getD i 0) + (dI W S sq (ah hs (x : Int)).f1 sq.length).getD (i * 8 + k) 0) ≤ t)) = _; rw [Bt, Bool.true_and, hm, e1, e2 i hi]
 rw [h3]; generalize hV : cellP W S (fD (cu sq (i : Int))) (ai (ah hs (x : Int)).f1 (k : Int)) = v at hv; have hu := DJ (oZ W S sq (ah hs (x : Int)).f1) i v sq.length; rw [if_pos hi] at hu
 have hf : ∀ j, j < sq.length → 0 ≤ kH W S sq (ah hs (x : Int)).f1 i v j ∧ (kH W S sq (ah hs (x : Int)).f1 i v j ≤ 20 ∨ kH W S sq (ah hs (x : Int)).f1 i v j = 1048576) := fun j hj => by
  unfold kH; split
  ·exact hv
  ·exact tZ W S hq hsh hj
 have h2 := Bw _ sq.length hf; have hmem := (si (f := kH W S sq (ah hs (x : Int)).f1 i v) sq.length (fun j hj => (hf j hj).1) i hi).1; (have hvi : kH W S sq (ah hs (x : Int)).f1 i v i = v := by rw [kH, if_pos rfl]); rw [hvi] at hmem; have hn := si (f := oZ W S sq (ah hs (x : Int)).f1) sq.length (fun j hj => (tZ W S hq hsh hj).1) i hi; have hn0 := (tZ W S hq hsh hi).1; have hub := zI (oZ W S sq (ah hs (x : Int)).f1) sq.length (fun j hj => tZ W S hq hsh hj); have h8 := hq.1; have hw : gL (kH W S sq (ah hs (x : Int)).f1 i v) sq.length = gL (oZ W S sq (ah hs (x : Int)).f1) sq.length - oZ W S sq (ah hs (x : Int)).f1 i + v := hu; generalize gL (kH W S sq (ah hs (x : Int)).f1 i v) sq.length = A at *; generalize gL (fun j => nW (kH W S sq (ah hs (x : Int)).f1 i v j)) sq.length = B at *; generalize gL (oZ W S sq (ah hs (x : Int)).f1) sq.length = C at *; generalize oZ W S sq (ah hs (x : Int)).f1 i = D at *; (have w1 : wrap64 (C - D) = C - D := by unfold wrap64; omega); (have w2 : wrap64 (C - D + v) = C - D + v := by unfold wrap64; omega); rw [w1, w2, Bool.and_eq_true, decide_eq_true_eq, decide_eq_true_eq]; rcases h2 with h2 | h2 <;> omega
theorem Vb (hs : List S66) (W S : Int) {t : Int} (ht : t ≤ 40) {sq : List (List S27)} (hq : nZ sq) (x : Nat) (hsh : pY (ah hs (x : Int)).f1) (hr : Ris (ah hs (x : Int)).f1) {i : Nat} (hi : i < sq.length) (c : Int) :
 iY W S sq (ah hs (x : Int)).f1 [⟨(i : Int), c⟩] ≤ t ↔ ∃ k, k < (ah hs (x : Int)).f1.length ∧ xf (-1) 0 W S t hs sq i x k = true ∧ c = (ai (ah hs (x : Int)).f1 (k : Int)).f0 := by
 by_cases hex : ∃ k, ∃ hk : k < (ah hs (x : Int)).f1.length, ((ah hs (x : Int)).f1[k]).f0 = c
 ·obtain ⟨k, hk, e⟩ := hex; have hf := sQ _ hr.1 k hk c e; rw [← jf _ k hk] at hf e; have hm := AJ (i := i) W S hq hsh hk hf sq.length (Nat.le_refl _); rw [iY, hm, Option.getD_some, ← VB hs W S ht hq x hsh hi hk]; constructor
  ·intro h; exact ⟨k, hk, h, e.symm⟩
  ·rintro ⟨k', hk', h, e'⟩
   have : k' = k := by
    have h1 := sQ _ hr.1 k' hk' c (by rw [← jf _ k' hk']; exact e'.symm); rcases Nat.lt_trichotomy k' k with hlt | he | hlt
    ·have := List.pairwise_iff_getElem.1 hr.1 k' k hk' hk hlt; rw [← jf _ k' hk', ← jf _ k hk, e, ← e'] at this; omega
    ·exact he
    ·have := List.pairwise_iff_getElem.1 hr.1 k k' hk hk' hlt; rw [← jf _ k' hk', ← jf _ k hk, e, ← e'] at this; omega
   rw [← this]; exact h
 ·have hn := xG (ah hs (x : Int)).f1 c (fun s hs' e => by
   obtain ⟨k, hk, rfl⟩ := List.getElem_of_mem hs'
   exact hex ⟨k, hk, e⟩)
  rw [iY, BR W S sq _ hn sq.length hi]; constructor
  ·intro h; simp only [Option.getD_none] at h; omega
  ·rintro ⟨k, hk, _, e⟩; exact absurd ⟨k, hk, by rw [← jf _ k hk]; exact e.symm⟩ hex
theorem Gl (W S t : Int) (sq : List (List S27)) (nd : List kL) : ∀ hs : List S66, jw W S t sq nd hs = true ↔ ∃ h ∈ hs, iY W S sq h.f1 nd ≤ t
 | [] => by simp [jw]
 | h :: r => by
  rw [jw]; by_cases hc : iY W S sq h.f1 nd ≤ t
  ·rw [if_pos hc]; exact ⟨fun _ => ⟨h, List.mem_cons_self, hc⟩, fun _ => rfl⟩
  ·rw [if_neg hc, Gl W S t sq nd r]; constructor
   ·rintro ⟨y, hy, e⟩; exact ⟨y, List.mem_cons_of_mem _ hy, e⟩
   ·rintro ⟨y, hy, e⟩; rcases List.mem_cons.1 hy with rfl | hy
    ·exact absurd e hc
    ·exact ⟨y, hy, e⟩
theorem row_iff (gs gl W S t : Int) (hs : List S66) (sq : List (List S27)) (i x : Nat) (c : Int) : ∀ K, mF gs gl W S t hs sq i x K c = true ↔ ∃ k, k < K ∧ xf gs gl W S t hs sq i x k = true ∧ c = (ai (ah hs (x : Int)).f1 (k : Int)).f0
 | 0 => by simp [mF]
 | K + 1 => by
  rw [mF, Bool.or_eq_true, row_iff gs gl W S t hs sq i x c K, Bool.and_eq_true, beq_iff_eq]; constructor
  ·rintro (⟨k, hk, h⟩ | h)
   ·exact ⟨k, by omega, h⟩
   ·exact ⟨K, by omega, h⟩
  ·rintro ⟨k, hk, h⟩; by_cases e : k = K
   ·subst e; exact .inr h
   ·exact .inl ⟨k, by omega, h⟩
def BD (hs : List S66) : Prop := ∀ h ∈ hs, Ris h.f1
theorem zC : ∀ hs : List S66, ji hs = 0 → BD hs
 | [], _ => fun h hh => by cases hh
 | p :: r, e => fun h hh => by
  rw [ji] at e; by_cases h1 : kX p.f0.f0 p.f0.f1 p.f1 = 0
  ·rw [if_pos h1] at e; rcases List.mem_cons.1 hh with rfl | hh
   ·rw [kX] at h1; by_cases c1 : inP h.f0.f0 (-3000) 3000 = true ∧ inP h.f0.f1 (-3000) 3000 = true
    ·rw [if_pos c1] at h1; by_cases c2 : h.f0.f0 > h.f0.f1
     ·rw [if_pos c2] at h1; exact absurd h1 (by decide)
     ·rw [if_neg c2] at h1; by_cases c3 : h.f1.length = 0
      ·rw [if_pos c3] at h1; exact absurd h1 (by decide)
      ·rw [if_neg c3] at h1; by_cases c4 : h.f1.length > 8
       ·rw [if_pos c4] at h1; exact absurd h1 (by decide)
       ·rw [if_neg c4] at h1; exact (Qv _ _ h1).1
    ·rw [if_neg c1] at h1; exact absurd h1 (by decide)
   ·exact zC r e h hh
  ·rw [if_neg h1] at e; exact absurd e h1
theorem NK {hs : List S66} {W S t : Int} {sq : List (List S27)} (ht : t ≤ 40) (hq : nZ sq) (hh : A8 hs) (hr : BD hs) {i : Nat} (hi : i < sq.length) (c : Int) :
 jw W S t sq [⟨(i : Int), c⟩] hs = gQ (-1) 0 W S t hs sq i (List.finRange hs.length) c := by
 rw [Bool.eq_iff_iff, Gl, gQ, List.any_eq_true]; (have hone := fun x : Fin hs.length => Vb hs W S ht hq x.1 (hh.at x.2) (by rw [lu]; exact hr _ (List.get_mem _ _)) hi c); constructor
 ·rintro ⟨h, hm, e⟩; obtain ⟨n, hn, rfl⟩ := List.getElem_of_mem hm; refine ⟨⟨n, hn⟩, List.mem_finRange _, ?_⟩; rw [row_iff]; have := hone ⟨n, hn⟩; rw [lu] at this; have h2 := this.1 e; rw [lu]
  simpa only [lu] using h2
 ·rintro ⟨x, _, h⟩; rw [row_iff] at h; refine ⟨hs.get x, List.get_mem _ _, ?_⟩; have := (hone x).2 h
  rwa [lu] at this
theorem Ag {hs : List S66} {W S t : Int} {sq : List (List S27)} (hr : BD hs) (i : Nat) (c : Int) (h : gQ (-1) 0 W S t hs sq i (List.finRange hs.length) c = true) : 65 ≤ c ∧ c ≤ 90 := by
 rw [gQ, List.any_eq_true] at h; obtain ⟨x, _, h⟩ := h; rw [row_iff] at h; obtain ⟨k, hk, _, rfl⟩ := h; rw [lu] at hk ⊢; rw [jf _ k hk]; exact (hr _ (List.get_mem _ _)).2 _ (List.getElem_mem hk)
theorem vD (W S t : Int) (hs : List S66) (sq : List (List S27)) (i : Int) (nd : List kL) : ∀ (n a : Nat), dK W S t hs sq i nd n (a : Int) = ((List.range' a n).map Int.ofNat).filter (fun c => jw W S t sq (nd ++ [⟨i, c⟩]) hs)
 | 0, a => rfl
 | n + 1, a => by
  rw [dK, show ((a : Int) + 1) = ((a + 1 : Nat) : Int) by omega, vD W S t hs sq i nd n (a + 1), List.range'_succ, List.map_cons, List.filter_cons]; rfl
theorem Fv {hs : List S66} {W S t : Int} {sq : List (List S27)} (hc : eH hs W S t sq = 0) {i : Nat} (hi : i < sq.length) : Bl W S t hs sq (i : Int) = dz (-1) 0 W S t hs sq i := by
 obtain ⟨hq, hh⟩ := mW hc; obtain ⟨_, _, _, _, h5, _, _, _, h9⟩ := kE hc; have ht := (nR.1 h9).2; have hr := zC hs h5; (have hf : ∀ c : Int, jw W S t sq ([] ++ [⟨(i : Int), c⟩]) hs = gQ (-1) 0 W S t hs sq i (List.finRange hs.length) c := fun c => NK ht hq hh hr hi c); rw [Bl, show (65 : Int) = ((65 : Nat) : Int) from rfl, vD, dz]; (have e : List.range 256 = List.range' 0 65 ++ (List.range' 65 26 ++ List.range' 91 165) := by decide +kernel); rw [e, List.map_append, List.map_append, List.filter_append, List.filter_append]
 have z1 : ((List.range' 0 65).map Int.ofNat).filter (gQ (-1) 0 W S t hs sq i (List.finRange hs.length)) = [] := by
  rw [List.filter_eq_nil_iff]; intro c hm h; have := Ag hr i c h; obtain ⟨n, hn, rfl⟩ := List.mem_map.1 hm; rw [List.mem_range'_1] at hn; have e3 : Int.ofNat n = (n : Int) := rfl; omega
 have z2 : ((List.range' 91 165).map Int.ofNat).filter (gQ (-1) 0 W S t hs sq i (List.finRange hs.length)) = [] := by
  rw [List.filter_eq_nil_iff]; intro c hm h; have := Ag hr i c h; obtain ⟨n, hn, rfl⟩ := List.mem_map.1 hm; rw [List.mem_range'_1] at hn; have e3 : Int.ofNat n = (n : Int) := rfl; omega
 rw [z1, z2, List.nil_append, List.append_nil]; exact List.filter_congr (fun c _ => hf c)
theorem EL {gs gl : Int} {m : List Int} {i : Nat} {sh : List S86} (h : gs ≠ (i : Int)) : ∀ K, eO gs gl m i sh K = eO (-1) 0 m i sh K
 | 0 => rfl
 | K + 1 => by rw [eO, eO, EL h K, Bt, tK, if_neg h]
theorem PQ {gs gl : Int} {m : List Int} {sh : List S86} : ∀ n, n ≤ 8 → (∀ i, i < n → 0 ≤ eO gs gl m i sh sh.length ∧ eO gs gl m i sh sh.length ≤ 1048576) →
 (eQ gs gl m sh n).2 = gL (fun i => eO gs gl m i sh sh.length) n ∧ ∀ i, i < n → (eQ gs gl m sh n).1.getD i 0 = eO gs gl m i sh sh.length := by
 intro n
 induction n with
 | zero => intro _ _; exact ⟨rfl, fun i hi => by omega⟩
 | succ n ih =>
  intro hn h; obtain ⟨h1, h2⟩ := ih (by omega) (fun i hi => h i (by omega)); have hb := vZ (f := fun i => eO gs gl m i sh sh.length) n (by omega) (fun i hi => h i (by omega)); have hb2 := h n (by omega); refine ⟨?_, fun i hi => ?_⟩
  ·rw [eQ]; simp only [gL]; rw [h1, eT (by omega) (by omega)]
  ·rw [eQ]; simp only []; rw [List.getD_eq_getElem?_getD, List.getElem?_set]; have hl := jl gs gl m sh n; by_cases he : n = i
   ·subst he; rw [if_pos rfl, if_pos (by omega)]; rfl
   ·rw [if_neg he, ← List.getD_eq_getElem?_getD]; exact h2 i (by omega)
theorem zw {c : Int} {m : List Int} {i : Nat} {sh : List S86} (h : ∀ k, k < sh.length → (ai sh (k : Int)).f0 ≠ c) : ∀ K, K ≤ sh.length → eO (i : Int) c m i sh K = 1048576
 | 0, _ => rfl
 | K + 1, hK => by
  (have hne : ¬ ((ai sh (K : Int)).f0 == c) = true := by rw [beq_iff_eq]; exact h K (by omega)); rw [eO, tK, if_pos rfl, if_neg hne, zw h K (by omega)]
theorem Cs {c v : Int} {m : List Int} {i : Nat} {sh : List S86} {k0 : Nat} (hk0 : k0 < sh.length) (hc : (ai sh (k0 : Int)).f0 = c) (hu : ∀ k, k < sh.length → (ai sh (k : Int)).f0 = c → k = k0) (hv : m.getD (i * 8 + k0) 0 = v) (hv1 : v ≤ 1048576) :
 ∀ K, K ≤ sh.length → eO (i : Int) c m i sh K = if k0 < K then v else 1048576
 | 0, _ => rfl
 | K + 1, hK => by
  rw [eO, Cs hk0 hc hu hv hv1 K (by omega), tK, if_pos rfl]; by_cases he : K = k0
  ·subst he; rw [if_pos (beq_iff_eq.2 hc), if_neg (by omega), if_pos (by omega), hv]; unfold mn; split <;> omega
  ·have hne : ¬ ((ai sh (K : Int)).f0 == c) = true := by
    rw [beq_iff_eq]; exact fun e => he (hu K (by omega) e)
   rw [if_neg hne]; by_cases hl : k0 < K
   ·rw [if_pos hl, if_pos (by omega)]
   ·rw [if_neg hl, if_neg (by omega)]
theorem Mm {sh : List S86} (h : Ris sh) {k k' : Nat} (hk : k < sh.length) (hk' : k' < sh.length) (e : (ai sh (k : Int)).f0 = (ai sh (k' : Int)).f0) : k = k' := by
 have hp := List.pairwise_iff_getElem.1 h.1; rw [jf sh k hk, jf sh k' hk'] at e; rcases Nat.lt_trichotomy k k' with hl | he | hl
 ·have := hp k k' hk hk' hl; omega
 ·exact he
 ·have := hp k' k hk' hk hl; omega
def qL (W S : Int) (sq : List (List S27)) (sh : List S86) (i : Nat) (c : Int) : Int := eO (i : Int) c (dI W S sq sh sq.length) i sh sh.length
theorem AC (W S : Int) {sq : List (List S27)} (hq : nZ sq) {sh : List S86} (hsh : pY sh) (hr : Ris sh) {i : Nat} (hi : i < sq.length) {k0 : Nat} (hk0 : k0 < sh.length) {c : Int} (hc : (ai sh (k0 : Int)).f0 = c) :
 qL W S sq sh i c = cellP W S (fD (cu sq (i : Int))) (ai sh (k0 : Int)) := by
 have hv := qR W S hsh (hq.at hi).2 hk0; rw [qL, Cs hk0 hc (fun k hk e => Mm hr hk hk0 (e.trans hc.symm)) (lM W S sq sh hsh.1 sq.length hq.1 i k0 hi hk0) (by omega) sh.length (Nat.le_refl _), if_pos hk0]
theorem EE (W S : Int) {sq : List (List S27)} (hq : nZ sq) {sh : List S86} (hsh : pY sh) (hr : Ris sh) {i : Nat} (hi : i < sq.length) (c : Int) : 0 ≤ qL W S sq sh i c ∧ (qL W S sq sh i c ≤ 20 ∨ qL W S sq sh i c = 1048576) := by
 by_cases hex : ∃ k, k < sh.length ∧ (ai sh (k : Int)).f0 = c
 ·obtain ⟨k, hk, e⟩ := hex; rw [AC W S hq hsh hr hi hk e]; exact qR W S hsh (hq.at hi).2 hk
 ·rw [qL, zw (fun k hk e => hex ⟨k, hk, e⟩) _ (Nat.le_refl _)]; omega
theorem Dm (W S : Int) {sq : List (List S27)} (hq : nZ sq) {sh : List S86} (hsh : pY sh) {i : Nat} {v : Int} (hv : 0 ≤ v ∧ (v ≤ 20 ∨ v = 1048576)) (j : Nat) (hj : j < sq.length) : 0 ≤ kH W S sq sh i v j ∧ (kH W S sq sh i v j ≤ 20 ∨ kH W S sq sh i v j = 1048576) := by
 unfold kH; split
 ·exact hv
 ·exact tZ W S hq hsh hj
theorem Ju (W S : Int) {sq : List (List S27)} (hq : nZ sq) {sh : List S86} (hsh : pY sh) (hr : Ris sh) {i : Nat} (hi : i < sq.length) (c : Int) :
 (eQ (i : Int) c (dI W S sq sh sq.length) sh sq.length).2 = gL (kH W S sq sh i (qL W S sq sh i c)) sq.length ∧ ∀ j, j < sq.length → (eQ (i : Int) c (dI W S sq sh sq.length) sh sq.length).1.getD j 0 = kH W S sq sh i (qL W S sq sh i c) j := by
 have hE : ∀ j, j < sq.length → eO (i : Int) c (dI W S sq sh sq.length) j sh sh.length = kH W S sq sh i (qL W S sq sh i c) j := fun j hj => by
  unfold kH; by_cases e : j = i
  ·subst e; rw [if_pos rfl]; rfl
  ·rw [if_neg e, EL (by omega), vJ W S sq hq.1 sh hsh.1 j hj _ (Nat.le_refl _)]; rfl
 have hb : ∀ j, j < sq.length → 0 ≤ eO (i : Int) c (dI W S sq sh sq.length) j sh sh.length ∧ eO (i : Int) c (dI W S sq sh sq.length) j sh sh.length ≤ 1048576 := fun j hj => by
  rw [hE j hj]; have := Dm W S hq hsh (i := i) (EE W S hq hsh hr hi c) j hj; omega
 obtain ⟨h1, h2⟩ := PQ (gs := (i : Int)) (gl := c) (m := dI W S sq sh sq.length) (sh := sh) sq.length hq.1 hb; exact ⟨h1.trans (uG _ hE), fun j hj => (h2 j hj).trans (hE j hj)⟩
theorem Nu (f : Nat → Int) (n : Nat) (hn : n ≤ 8) {t : Int} (ht : t ≤ 40) (hf : ∀ j, j < n → 0 ≤ f j ∧ (f j ≤ 20 ∨ f j = 1048576)) {j : Nat} (hj : j < n) {v : Int} (hv : 0 ≤ v ∧ (v ≤ 20 ∨ v = 1048576)) :
 (v < 1048576 ∧ wrap64 (wrap64 (gL f n - f j) + v) ≤ t) ↔ gL (fun x => nW (if x = j then v else f x)) n ≤ t := by
 have hu := DJ f j v n; rw [if_pos hj] at hu
 have hg : ∀ x, x < n → 0 ≤ (if x = j then v else f x) ∧ ((if x = j then v else f x) ≤ 20 ∨ (if x = j then v else f x) = 1048576) := fun x hx => by
  split
  ·exact hv
  ·exact hf x hx
 have h2 := Bw _ n hg; have hmem := (si (f := fun x => if x = j then v else f x) n (fun x hx => (hg x hx).1) j hj).1; simp only [if_true] at hmem; have h3 := si (f := f) n (fun x hx => (hf x hx).1) j hj; have h4 := (hf j hj).1; have hub := zI f n hf; generalize gL (fun x => nW (if x = j then v else f x)) n = B at *; generalize gL (fun x => if x = j then v else f x) n = A at *; generalize gL f n = C at *; generalize f j = D at *; (have w1 : wrap64 (C - D) = C - D := by unfold wrap64; omega); (have w2 : wrap64 (C - D + v) = C - D + v := by unfold wrap64; omega); rw [w1, w2]; rcases h2 with h2 | h2 <;> omega
theorem ES (hs : List S66) (W S : Int) {t : Int} (ht : t ≤ 40) {sq : List (List S27)} (hq : nZ sq) (x : Nat) (hsh : pY (ah hs (x : Int)).f1) (hr : Ris (ah hs (x : Int)).f1) {i : Nat} (hi : i < sq.length) (c0 : Int) {j : Nat} (hj : j < sq.length) (hji : j ≠ i) {k : Nat} (hk : k < (ah hs (x : Int)).f1.length) :
 xf (i : Int) c0 W S t hs sq j x k = true ↔ gL (fun y => nW (if y = j then cellP W S (fD (cu sq (j : Int))) (ai (ah hs (x : Int)).f1 (k : Int)) else kH W S sq (ah hs (x : Int)).f1 i (qL W S sq (ah hs (x : Int)).f1 i c0) y)) sq.length ≤ t := by
 obtain ⟨e1, e2⟩ := Ju W S hq hsh hr hi c0; have hm := lM W S sq (ah hs (x : Int)).f1 hsh.1 sq.length hq.1 j k hj hk; have hv := qR W S hsh (hq.at hj).2 hk; rw [← Nu _ sq.length hq.1 ht (Dm W S hq hsh (EE W S hq hsh hr hi c0)) hj hv]; (have hmay : tK (i : Int) c0 (j : Int) (ai (ah hs (x : Int)).f1 (k : Int)) = true := by rw [tK, if_neg (by omega)]); show (tK (i : Int) c0 (j : Int) _ && decide ((dI W S sq (ah hs (x : Int)).f1 sq.length).getD (j * 8 + k) 0 < 1048576) && decide (wrap64 (wrap64 ((eQ (i : Int) c0 (dI W S sq (ah hs (x : Int)).f1 sq.length) (ah hs (x : Int)).f1 sq.length).2 - (eQ (i : Int) c0 (dI W S sq (ah hs (x : Int)).f1 sq.length) (ah hs (x : Int)).f1 sq.length).1.getD j 0) + (dI W S sq (ah hs (x : Int)).f1 sq.length).getD (j * 8 + k) 0) ≤ t)) = true ↔ _; rw [hmay, Bool.true_and, hm, e1, e2 j hj, Bool.and_eq_true, decide_eq_true_eq, decide_eq_true_eq]
theorem BI (W S : Int) {sq : List (List S27)} (hq : nZ sq) {sh : List S86} (hsh : pY sh) (hr : Ris sh) {i j : Nat} (hji : j ≠ i) {c0 c : Int} {k0 k : Nat} (hk0 : k0 < sh.length) (hs0 : iH sh c0 = ((ai sh (k0 : Int)).f1, true)) (hc0 : (ai sh (k0 : Int)).f0 = c0) (hk : k < sh.length) (hs : iH sh c = ((ai sh (k : Int)).f1, true)) : ∀ n, n ≤ sq.length →
 iP W S sq sh [⟨(i : Int), c0⟩, ⟨(j : Int), c⟩] n = some (gL (fun y => nW (if y = j then cellP W S (fD (cu sq (j : Int))) (ai sh (k : Int)) else kH W S sq sh i (qL W S sq sh i c0) y)) n)
 | 0, _ => rfl
 | n + 1, hn => by
  have hl := rA W S (hq.at (i := n) (by omega)).2 hsh _ (Nat.le_refl _); rw [iP, BI W S hq hsh hr hji hk0 hs0 hc0 hk hs n (by omega)]; simp only [Option.bind_some, nC, List.foldl_cons, List.foldl_nil, iI, hs, hs0, if_true]; by_cases e : j = n
  ·subst e; have hle : nk W S (fD (cu sq (j : Int))) sh sh.length ≤ cellP W S (fD (cu sq (j : Int))) (ai sh (k : Int)) := Be W S _ sh sh.length k hk; have hm := zo hl.2 (qR W S hsh (hq.at (i := j) (by omega)).2 hk) hle; rw [if_neg (by omega)]; simp only [if_true]; rw [hl.1, wR, hm]; simp only [Option.bind_some, gL, if_true]
  ·by_cases e' : i = n
   ·subst e'; have hle : nk W S (fD (cu sq (i : Int))) sh sh.length ≤ cellP W S (fD (cu sq (i : Int))) (ai sh (k0 : Int)) := Be W S _ sh sh.length k0 hk0; have hm := zo hl.2 (qR W S hsh (hq.at (i := i) (by omega)).2 hk0) hle; have hkn := AC W S hq hsh hr (i := i) (by omega) hk0 hc0; simp only [if_true]; rw [if_neg (by omega), hl.1, wR, hm]; simp only [Option.bind_some, gL, kH, if_true]; rw [if_neg (Ne.symm hji), hkn]
   ·rw [if_neg (by omega)]; simp only []; rw [if_neg (by omega), hl.1]; simp only [Option.bind_some, gL, kH]; rw [if_neg (Ne.symm e), if_neg (Ne.symm e')]; rfl
theorem zS (W S : Int) (sq : List (List S27)) (sh : List S86) {i : Nat} {c : Int} {d : kL} (hs : iH sh c = (0, false)) : ∀ n, i < n → iP W S sq sh [⟨(i : Int), c⟩, d] n = none
 | 0, h => by omega
 | n + 1, h => by
  rw [iP]; by_cases e : i = n
  ·subst e
   have : nC W S (cu sq (i : Int)) sh i [⟨(i : Int), c⟩, d] = none := by
    simp [nC, iI, hs]
   rw [this]; cases iP W S sq sh [⟨(i : Int), c⟩, d] i <;> rfl
  ·rw [zS W S sq sh hs n (by omega)]; rfl
theorem Ap (W S : Int) (sq : List (List S27)) (sh : List S86) {i : Nat} {c : Int} {d : kL} (hs : iH sh c = (0, false)) : ∀ n, i < n → iP W S sq sh [d, ⟨(i : Int), c⟩] n = none
 | 0, h => by omega
 | n + 1, h => by
  rw [iP]; by_cases e : i = n
  ·subst e
   have : nC W S (cu sq (i : Int)) sh i [d, ⟨(i : Int), c⟩] = none := by
    rw [nC, List.foldl_cons, List.foldl_cons, List.foldl_nil]
    cases iI W S (cu sq (i : Int)) sh i (some (jQ W S (cu sq (i : Int)) sh sh.length)) d with
    | none => rfl
    | some v => simp [iI, hs]
   rw [this]; cases iP W S sq sh [d, ⟨(i : Int), c⟩] i <;> rfl
  ·rw [Ap W S sq sh hs n (by omega)]; rfl
theorem AL {sh : List S86} (hr : Ris sh) (c : Int) : (∃ k, k < sh.length ∧ (ai sh (k : Int)).f0 = c ∧ iH sh c = ((ai sh (k : Int)).f1, true)) ∨ ((∀ k, k < sh.length → (ai sh (k : Int)).f0 ≠ c) ∧ iH sh c = (0, false)) := by
 by_cases hex : ∃ k, ∃ hk : k < sh.length, (sh[k]).f0 = c
 ·obtain ⟨k, hk, e⟩ := hex; have hf := sQ _ hr.1 k hk c e; rw [← jf _ k hk] at hf e; exact .inl ⟨k, hk, e, hf⟩
 ·refine .inr ⟨fun k hk e => hex ⟨k, hk, by rw [← jf _ k hk]; exact e⟩, xG sh c (fun s hs' e => ?_)⟩; obtain ⟨k, hk, rfl⟩ := List.getElem_of_mem hs'; exact hex ⟨k, hk, e⟩
theorem QH (hs : List S66) (W S : Int) {t : Int} (ht : t ≤ 40) {sq : List (List S27)} (hq : nZ sq) (x : Nat) (hsh : pY (ah hs (x : Int)).f1) (hr : Ris (ah hs (x : Int)).f1) {i : Nat} (hi : i < sq.length) (c0 : Int) {j : Nat} (hj : j < sq.length) (hji : j ≠ i) (c : Int) :
 iY W S sq (ah hs (x : Int)).f1 [⟨(i : Int), c0⟩, ⟨(j : Int), c⟩] ≤ t ↔ ∃ k, k < (ah hs (x : Int)).f1.length ∧ xf (i : Int) c0 W S t hs sq j x k = true ∧ c = (ai (ah hs (x : Int)).f1 (k : Int)).f0 := by
 rcases AL hr c0 with ⟨k0, hk0, e0, hs0⟩ | ⟨hn0, hs0⟩
 ·rcases AL hr c with ⟨k, hk, e, hsc⟩ | ⟨hn, hsc⟩
  ·rw [iY, BI W S hq hsh hr hji hk0 hs0 e0 hk hsc sq.length (Nat.le_refl _), Option.getD_some, ← ES hs W S ht hq x hsh hr hi c0 hj hji hk]; constructor
   ·intro h; exact ⟨k, hk, h, e.symm⟩
   ·rintro ⟨k', hk', h, e'⟩; have : k' = k := Mm hr hk' hk (e'.symm.trans e.symm); rw [← this]; exact h
  ·rw [iY, Ap W S sq _ hsc sq.length hj]; constructor
   ·intro h; simp only [Option.getD_none] at h; omega
   ·rintro ⟨k, hk, _, e⟩; exact absurd e.symm (hn k hk)
 ·rw [iY, zS W S sq _ hs0 sq.length hi]; constructor
  ·intro h; simp only [Option.getD_none] at h; omega
  ·rintro ⟨k, hk, h, _⟩; rw [ES hs W S ht hq x hsh hr hi c0 hj hji hk] at h; have hkn : qL W S sq (ah hs (x : Int)).f1 i c0 = 1048576 := zw hn0 _ (Nat.le_refl _); rw [hkn] at h; have hv := qR W S hsh (hq.at hj).2 hk; have hw := Dm W S hq hsh (i := i) (v := 1048576) (by omega)
   have hm := (si (f := fun y => nW (if y = j then cellP W S (fD (cu sq (j : Int))) (ai (ah hs (x : Int)).f1 (k : Int)) else kH W S sq (ah hs (x : Int)).f1 i 1048576 y)) sq.length (fun y hy => by
    have h1 := hw y hy; unfold nW
    split <;> split <;> omega) i hi).1
   simp only [if_neg (Ne.symm hji), kH, if_true] at hm; (have : nW 1048576 = 1000 := by decide); rw [this] at hm; simp only [kH] at h; omega
theorem MP {hs : List S66} {W S t : Int} {sq : List (List S27)} (ht : t ≤ 40) (hq : nZ sq) (hh : A8 hs) (hr : BD hs) {i : Nat} (hi : i < sq.length) (c0 : Int) {j : Nat} (hj : j < sq.length) (hji : j ≠ i) (c : Int) :
 jw W S t sq [⟨(i : Int), c0⟩, ⟨(j : Int), c⟩] hs = gQ (i : Int) c0 W S t hs sq j (List.finRange hs.length) c := by
 rw [Bool.eq_iff_iff, Gl, gQ, List.any_eq_true]; (have hone := fun x : Fin hs.length => QH hs W S ht hq x.1 (hh.at x.2) (by rw [lu]; exact hr _ (List.get_mem _ _)) hi c0 hj hji c); constructor
 ·rintro ⟨h, hm, e⟩; obtain ⟨n, hn, rfl⟩ := List.getElem_of_mem hm; refine ⟨⟨n, hn⟩, List.mem_finRange _, ?_⟩; rw [row_iff]; have := hone ⟨n, hn⟩; rw [lu] at this; have h2 := this.1 e; rw [lu]
  simpa only [lu] using h2
 ·rintro ⟨x, _, h⟩; rw [row_iff] at h; refine ⟨hs.get x, List.get_mem _ _, ?_⟩; have := (hone x).2 h
  rwa [lu] at this
theorem AQ {hs : List S66} {W S t : Int} {sq : List (List S27)} (hr : BD hs) (gs gl : Int) (i : Nat) (c : Int) (h : gQ gs gl W S t hs sq i (List.finRange hs.length) c = true) : 65 ≤ c ∧ c ≤ 90 := by
 rw [gQ, List.any_eq_true] at h; obtain ⟨x, _, h⟩ := h; rw [row_iff] at h; obtain ⟨k, hk, _, rfl⟩ := h; rw [lu] at hk ⊢; rw [jf _ k hk]; exact (hr _ (List.get_mem _ _)).2 _ (List.getElem_mem hk)
theorem xm {hs : List S66} {W S t : Int} {sq : List (List S27)} (hc : eH hs W S t sq = 0) {i : Nat} (hi : i < sq.length) (c0 : Int) {j : Nat} (hj : j < sq.length) (hji : j ≠ i) : dK W S t hs sq (j : Int) [⟨(i : Int), c0⟩] 26 65 = dz (i : Int) c0 W S t hs sq j := by
 obtain ⟨hq, hh⟩ := mW hc; obtain ⟨_, _, _, _, h5, _, _, _, h9⟩ := kE hc; have ht := (nR.1 h9).2; have hr := zC hs h5; (have hf : ∀ c : Int, jw W S t sq ([⟨(i : Int), c0⟩] ++ [⟨(j : Int), c⟩]) hs = gQ (i : Int) c0 W S t hs sq j (List.finRange hs.length) c := fun c => MP ht hq hh hr hi c0 hj hji c); rw [show (65 : Int) = ((65 : Nat) : Int) from rfl, vD, dz]; (have e : List.range 256 = List.range' 0 65 ++ (List.range' 65 26 ++ List.range' 91 165) := by decide +kernel); rw [e, List.map_append, List.map_append, List.filter_append, List.filter_append]
 have z1 : ((List.range' 0 65).map Int.ofNat).filter (gQ (i : Int) c0 W S t hs sq j (List.finRange hs.length)) = [] := by
  rw [List.filter_eq_nil_iff]; intro c hm h; have := AQ hr _ _ j c h; obtain ⟨n, hn, rfl⟩ := List.mem_map.1 hm; rw [List.mem_range'_1] at hn; have e3 : Int.ofNat n = (n : Int) := rfl; omega
 have z2 : ((List.range' 91 165).map Int.ofNat).filter (gQ (i : Int) c0 W S t hs sq j (List.finRange hs.length)) = [] := by
  rw [List.filter_eq_nil_iff]; intro c hm h; have := AQ hr _ _ j c h; obtain ⟨n, hn, rfl⟩ := List.mem_map.1 hm; rw [List.mem_range'_1] at hn; have e3 : Int.ofNat n = (n : Int) := rfl; omega
 rw [z1, z2, List.nil_append, List.append_nil]; exact List.filter_congr (fun c _ => hf c)
end Go.Proofs.Ytihedeofkhapiaa.Pr
end
