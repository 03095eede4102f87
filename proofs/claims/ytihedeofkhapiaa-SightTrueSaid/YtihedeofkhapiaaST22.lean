/- Part 22 of 34 of the proof of: SightTrue: for every slice of numbers, the law returns true: whatever truly is on a stone made of them, its letters and its hand fit, it was cut within Years, and it has at least as many marks as Marks says; no condition beyond the statement's own. -/
import Derived.Test.YtihedeofkhapiaaST21
set_option linter.unusedVariables false
set_option linter.unusedSimpArgs false
section
namespace Go.Proofs.Ytihedeofkhapiaa.Pr
open Go.RowKit Go.Proofs.YtihedeofkhapiaaW.PrintWords Go.Proofs.YtihedeofkhapiaaW.PrintLast Go.Proofs.YtihedeofkhapiaaW.PrintMore
attribute [local go_sem] ou oG qI qK nA ni oF oo
mutual
def ag.l0 : Nat → Int → Int → Int → Int → Int → List (S66) → Int → Int → Int → Option ((List (S66)) × Int × Int × Int × (List (List (S27))) × Int × ByteArray × List Int × Int × Int)
 | 0, _, _, _, _, _, _, _, _, _ => none
 | k + 1, x2, x3, x11, mr, mD, iQ, jE, jF, ko => if x11 > 0 then ((aG.f k mr mD x2).bind fun Ha => ((some (([(⟨(⟨Ha.1, Ha.2.1⟩ : S63), Ha.2.2.1⟩ : S66)] : List (S66)) : List (S66))).bind fun CZ => (if iQ.length + CZ.length < 3518437208883 then (ag.l0 k x2 x3 (wrap64 (x11 - 1)) Ha.2.2.2.1 Ha.2.2.2.2 (iQ ++ CZ) jE jF ko) else (none)))) else ((bE.f mr mD (iQ.length : Int)).bind fun Ed => (if 0 ≤ Ed.1 then (if Ed.1 < (iQ.length : Int) then ((bW.f Ed.2.1 Ed.2.2 1 x3).bind fun Dg => (ag.l1 k ((aj iQ Ed.1).f1) 0 Dg.1 Dg.2.1 Dg.2.2 iQ jE jF ko ([] : List (List (S27))) Ed.1 (⟨#[]⟩ : ByteArray) ([] : List Int))) else (none)) else (none)))
def ag.l1 : Nat → List (S86) → Int → Int → Int → Int → List (S66) → Int → Int → Int → List (List (S27)) → Int → ByteArray → List Int → Option ((List (S66)) × Int × Int × Int × (List (List (S27))) × Int × ByteArray × List Int × Int × Int)
 | 0, _, _, _, _, _, _, _, _, _, _, _, _, _ => none
 | k + 1, x13, x14, x15, mr, mD, iQ, jE, jF, ko, kv, kL, kC, kD => if x15 > 0 then ((bE.f mr mD (x13.length : Int)).bind fun BM => (if 0 ≤ BM.1 then (if BM.1 < (x13.length : Int) then ((bE.f BM.2.1 BM.2.2 (wrap64 (jE + 1))).bind fun Dl => ((bE.f Dl.2.1 Dl.2.2 (wrap64 (jF + 1))).bind fun wH => (ag.l2 k x13 x14 x15 ((av x13 BM.1).f1) Dl.1 wH.1 0 wH.2.1 wH.2.2 iQ jE jF ko kv kL kC kD ((av x13 BM.1).f0) ((av x13 BM.1).f1)))) else (none)) else (none))) else ((dJ.f mr mD (([0, 0, 1, 2] : List Int))).bind fun BN => (some (iQ, jE, jF, mn 40 (wrap64 (x14 + BN.1)), kv, kL, kC, kD, BN.2.1, BN.2.2)))
def ag.l2 : Nat → List (S86) → Int → Int → Int → Int → Int → Int → Int → Int → List (S66) → Int → Int → Int → List (List (S27)) → Int → ByteArray → List Int → Int → Int → Option ((List (S66)) × Int × Int × Int × (List (List (S27))) × Int × ByteArray × List Int × Int × Int)
 | 0, _, _, _, _, _, _, _, _, _, _, _, _, _, _, _, _, _, _, _ => none
 | k + 1, x13, x14, x15, x17, x18, x19, x20, mr, mD, iQ, jE, jF, ko, kv, kL, kC, kD, lY, kK => if x20 < 5 then (if 0 ≤ x20 then (if (Go.bits .and .i64 (shr .i64 kK x20) 1) = 1 then (if x18 > 0 then ((dQ.f mr mD 1 3).bind fun CO => (ag.j3 k x13 x14 x15 x17 x18 x19 x20 ((Go.bits .and .i64 (shr .i64 kK x20) 1) == 1) CO.1 CO.2.1 CO.2.2 iQ jE jF ko kv kL kC kD lY kK)) else (ag.j3 k x13 x14 x15 x17 x18 x19 x20 ((Go.bits .and .i64 (shr .i64 kK x20) 1) == 1) false mr mD iQ jE jF ko kv kL kC kD lY kK)) else (ag.j3 k x13 x14 x15 x17 x18 x19 x20 ((Go.bits .and .i64 (shr .i64 kK x20) 1) == 1) false mr mD iQ jE jF ko kv kL kC kD lY kK)) else (none)) else ((dJ.f mr mD (([0, 1, 1, 2, 3] : List Int))).bind fun De => (ag.l3 k x13 x14 x15 x17 ([] : List (S27)) De.1 De.2.1 De.2.2 iQ jE jF ko kv kL kC kD lY kK))
def ag.j3 : Nat → List (S86) → Int → Int → Int → Int → Int → Int → Bool → Bool → Int → Int → List (S66) → Int → Int → Int → List (List (S27)) → Int → ByteArray → List Int → Int → Int → Option ((List (S66)) × Int × Int × Int × (List (List (S27))) × Int × ByteArray × List Int × Int × Int)
 | 0, _, _, _, _, _, _, _, _, _, _, _, _, _, _, _, _, _, _, _, _, _ => none
 | k + 1, x13, x14, x15, x17, x18, x19, x20, x21, ad6, mr, mD, iQ, jE, jF, ko, kv, kL, kC, kD, lY, kK => if ad6 = true then (if 0 ≤ x20 then (if x21 = true then (ag.l2 k x13 (wrap64 (x14 + 1)) x15 (wrap64 (x17 - (shl .i64 1 x20))) (wrap64 (x18 - 1)) x19 (wrap64 (x20 + 1)) mr mD iQ jE jF ko kv kL kC kD lY kK) else (if x19 > 0 then ((dQ.f mr mD 1 3).bind fun qP => (if qP.1 = true then (ag.l2 k x13 (wrap64 ((wrap64 (x14 + 1)) + 1)) x15 (wrap64 ((wrap64 (x17 - (shl .i64 1 x20))) + (shl .i64 1 x20))) (wrap64 (x18 - 1)) (wrap64 (x19 - 1)) (wrap64 (x20 + 1)) qP.2.1 qP.2.2 iQ jE jF ko kv kL kC kD lY kK) else (ag.l2 k x13 (wrap64 (x14 + 1)) x15 (wrap64 (x17 - (shl .i64 1 x20))) (wrap64 (x18 - 1)) x19 (wrap64 (x20 + 1)) qP.2.1 qP.2.2 iQ jE jF ko kv kL kC kD lY kK))) else (ag.l2 k x13 (wrap64 (x14 + 1)) x15 (wrap64 (x17 - (shl .i64 1 x20))) (wrap64 (x18 - 1)) x19 (wrap64 (x20 + 1)) mr mD iQ jE jF ko kv kL kC kD lY kK))) else (none)) else (if x21 = true then (ag.l2 k x13 x14 x15 x17 x18 x19 (wrap64 (x20 + 1)) mr mD iQ jE jF ko kv kL kC kD lY kK) else (if x19 > 0 then ((dQ.f mr mD 1 3).bind fun wT => (if wT.1 = true then (if 0 ≤ x20 then (ag.l2 k x13 (wrap64 (x14 + 1)) x15 (wrap64 (x17 + (shl .i64 1 x20))) x18 (wrap64 (x19 - 1)) (wrap64 (x20 + 1)) wT.2.1 wT.2.2 iQ jE jF ko kv kL kC kD lY kK) else (none)) else (ag.l2 k x13 x14 x15 x17 x18 x19 (wrap64 (x20 + 1)) wT.2.1 wT.2.2 iQ jE jF ko kv kL kC kD lY kK))) else (ag.l2 k x13 x14 x15 x17 x18 x19 (wrap64 (x20 + 1)) mr mD iQ jE jF ko kv kL kC kD lY kK)))
def ag.l3 : Nat → List (S86) → Int → Int → Int → List (S27) → Int → Int → Int → List (S66) → Int → Int → Int → List (List (S27)) → Int → ByteArray → List Int → Int → Int → Option ((List (S66)) × Int × Int × Int × (List (List (S27))) × Int × ByteArray × List Int × Int × Int)
 | 0, _, _, _, _, _, _, _, _, _, _, _, _, _, _, _, _, _, _ => none
 | k + 1, x13, x14, x15, x17, x22, x23, mr, mD, iQ, jE, jF, ko, kv, kL, kC, kD, lY, kK => if x23 > 0 then ((bE.f mr mD 32).bind fun MS => ((dJ.f MS.2.1 MS.2.2 (([31, 15, MS.1] : List Int))).bind fun tQ => ((some (([(⟨tQ.1, Go.bits .and .i64 x17 tQ.1⟩ : S27)] : List (S27)) : List (S27))).bind fun uD => (if x22.length + uD.length < 8796093022208 then (ag.l3 k x13 x14 x15 x17 (x22 ++ uD) (wrap64 (x23 - 1)) tQ.2.1 tQ.2.2 iQ jE jF ko kv kL kC kD lY kK) else (none))))) else ((some (([lY] : List Int) : List Int)).bind fun jy => (if kC.size + (strOfNums jy).size ≤ 9223372036854775807 then ((some (([x17] : List Int) : List Int)).bind fun lN => (if kD.length + lN.length < 17592186044416 then ((some (([x22] : List (List (S27))) : List (List (S27)))).bind fun uB => (if kv.length + uB.length < 5864062014805 then (ag.l1 k x13 x14 (wrap64 (x15 - 1)) mr mD iQ jE jF ko (kv ++ uB) kL (kC ++ (strOfNums jy)) (kD ++ lN)) else (none))) else (none))) else (none)))
end
def ag.f (k : Nat) (s0_0 : Int) (s0_1 : Int) (a1 : Int) (a2 : Int) (a3 : Int) : Option ((List (S66)) × Int × Int × Int × (List (List (S27))) × Int × ByteArray × List Int × Int × Int) := (bE.f s0_0 s0_1 3).bind fun BO => ((bE.f BO.2.1 BO.2.2 3).bind fun wG => ((bW.f wG.2.1 wG.2.2 1 a1).bind fun sF => (ag.l0 k a2 a3 sF.1 sF.2.1 sF.2.2 ([] : List (S66)) BO.1 wG.1 0)))
theorem ag.gY : ∀ k, (∀ y0 y1 y2 y3 y4 y5 y6 y7 y8, LeO (ag.l0 k y0 y1 y2 y3 y4 y5 y6 y7 y8) (ag.l0 (k + 1) y0 y1 y2 y3 y4 y5 y6 y7 y8)) ∧ (∀ y0 y1 y2 y3 y4 y5 y6 y7 y8 y9 y10 y11 y12, LeO (ag.l1 k y0 y1 y2 y3 y4 y5 y6 y7 y8 y9 y10 y11 y12) (ag.l1 (k + 1) y0 y1 y2 y3 y4 y5 y6 y7 y8 y9 y10 y11 y12)) ∧ (∀ y0 y1 y2 y3 y4 y5 y6 y7 y8 y9 y10 y11 y12 y13 y14 y15 y16 y17 y18, LeO (ag.l2 k y0 y1 y2 y3 y4 y5 y6 y7 y8 y9 y10 y11 y12 y13 y14 y15 y16 y17 y18) (ag.l2 (k + 1) y0 y1 y2 y3 y4 y5 y6 y7 y8 y9 y10 y11 y12 y13 y14 y15 y16 y17 y18)) ∧ (∀ y0 y1 y2 y3 y4 y5 y6 y7 y8 y9 y10 y11 y12 y13 y14 y15 y16 y17 y18 y19 y20, LeO (ag.j3 k y0 y1 y2 y3 y4 y5 y6 y7 y8 y9 y10 y11 y12 y13 y14 y15 y16 y17 y18 y19 y20) (ag.j3 (k + 1) y0 y1 y2 y3 y4 y5 y6 y7 y8 y9 y10 y11 y12 y13 y14 y15 y16 y17 y18 y19 y20)) ∧ (∀ y0 y1 y2 y3 y4 y5 y6 y7 y8 y9 y10 y11 y12 y13 y14 y15 y16 y17, LeO (ag.l3 k y0 y1 y2 y3 y4 y5 y6 y7 y8 y9 y10 y11 y12 y13 y14 y15 y16 y17) (ag.l3 (k + 1) y0 y1 y2 y3 y4 y5 y6 y7 y8 y9 y10 y11 y12 y13 y14 y15 y16 y17))
 | 0 => ⟨fun _ _ _ _ _ _ _ _ _ r h => by simp [ag.l0] at h, fun _ _ _ _ _ _ _ _ _ _ _ _ _ r h => by simp [ag.l1] at h, fun _ _ _ _ _ _ _ _ _ _ _ _ _ _ _ _ _ _ _ r h => by simp [ag.l2] at h, fun _ _ _ _ _ _ _ _ _ _ _ _ _ _ _ _ _ _ _ _ _ r h => by simp [ag.j3] at h, fun _ _ _ _ _ _ _ _ _ _ _ _ _ _ _ _ _ _ r h => by simp [ag.l3] at h⟩
 | k + 1 => by
  obtain ⟨ih0, ih1, ih2, ih3, ih4⟩ := ag.gY k; refine ⟨?_, ?_, ?_, ?_, ?_⟩
  ·intro y0 y1 y2 y3 y4 y5 y6 y7 y8; unfold ag.l0
   repeat' first
   | (with_reducible exact ih0 _ _ _ _ _ _ _ _ _)
   | (with_reducible exact ih1 _ _ _ _ _ _ _ _ _ _ _ _ _)
   | (with_reducible exact ih2 _ _ _ _ _ _ _ _ _ _ _ _ _ _ _ _ _ _ _)
   | (with_reducible exact ih3 _ _ _ _ _ _ _ _ _ _ _ _ _ _ _ _ _ _ _ _ _)
   | (with_reducible exact ih4 _ _ _ _ _ _ _ _ _ _ _ _ _ _ _ _ _ _)
   | (with_reducible exact aG.mono _ _ _ _)
   | (with_reducible exact LeO.refl _)
   | (with_reducible exact LeO.none _)
   | (with_reducible refine LeO.ite ?_ ?_)
   | (with_reducible refine LeO.bind ?_ (fun _ => ?_))
   | exact ih0 _ _ _ _ _ _ _ _ _
   | exact ih1 _ _ _ _ _ _ _ _ _ _ _ _ _
   | exact ih2 _ _ _ _ _ _ _ _ _ _ _ _ _ _ _ _ _ _ _
   | exact ih3 _ _ _ _ _ _ _ _ _ _ _ _ _ _ _ _ _ _ _ _ _
   | exact ih4 _ _ _ _ _ _ _ _ _ _ _ _ _ _ _ _ _ _
   | exact aG.mono _ _ _ _
   | exact LeO.none _
   | refine LeO.ite ?_ ?_
   | refine LeO.bind ?_ (fun _ => ?_)
  ·intro y0 y1 y2 y3 y4 y5 y6 y7 y8 y9 y10 y11 y12; unfold ag.l1
   repeat' first
   | (with_reducible exact ih0 _ _ _ _ _ _ _ _ _)
   | (with_reducible exact ih1 _ _ _ _ _ _ _ _ _ _ _ _ _)
   | (with_reducible exact ih2 _ _ _ _ _ _ _ _ _ _ _ _ _ _ _ _ _ _ _)
   | (with_reducible exact ih3 _ _ _ _ _ _ _ _ _ _ _ _ _ _ _ _ _ _ _ _ _)
   | (with_reducible exact ih4 _ _ _ _ _ _ _ _ _ _ _ _ _ _ _ _ _ _)
   | (with_reducible exact aG.mono _ _ _ _)
   | (with_reducible exact LeO.refl _)
   | (with_reducible exact LeO.none _)
   | (with_reducible refine LeO.ite ?_ ?_)
   | (with_reducible refine LeO.bind ?_ (fun _ => ?_))
   | exact ih0 _ _ _ _ _ _ _ _ _
   | exact ih1 _ _ _ _ _ _ _ _ _ _ _ _ _
   | exact ih2 _ _ _ _ _ _ _ _ _ _ _ _ _ _ _ _ _ _ _
   | exact ih3 _ _ _ _ _ _ _ _ _ _ _ _ _ _ _ _ _ _ _ _ _
   | exact ih4 _ _ _ _ _ _ _ _ _ _ _ _ _ _ _ _ _ _
   | exact aG.mono _ _ _ _
   | exact LeO.none _
   | refine LeO.ite ?_ ?_
   | refine LeO.bind ?_ (fun _ => ?_)
  ·intro y0 y1 y2 y3 y4 y5 y6 y7 y8 y9 y10 y11 y12 y13 y14 y15 y16 y17 y18; unfold ag.l2
   repeat' first
   | (with_reducible exact ih0 _ _ _ _ _ _ _ _ _)
   | (with_reducible exact ih1 _ _ _ _ _ _ _ _ _ _ _ _ _)
   | (with_reducible exact ih2 _ _ _ _ _ _ _ _ _ _ _ _ _ _ _ _ _ _ _)
   | (with_reducible exact ih3 _ _ _ _ _ _ _ _ _ _ _ _ _ _ _ _ _ _ _ _ _)
   | (with_reducible exact ih4 _ _ _ _ _ _ _ _ _ _ _ _ _ _ _ _ _ _)
   | (with_reducible exact aG.mono _ _ _ _)
   | (with_reducible exact LeO.refl _)
   | (with_reducible exact LeO.none _)
   | (with_reducible refine LeO.ite ?_ ?_)
   | (with_reducible refine LeO.bind ?_ (fun _ => ?_))
   | exact ih0 _ _ _ _ _ _ _ _ _
   | exact ih1 _ _ _ _ _ _ _ _ _ _ _ _ _
   | exact ih2 _ _ _ _ _ _ _ _ _ _ _ _ _ _ _ _ _ _ _
   | exact ih3 _ _ _ _ _ _ _ _ _ _ _ _ _ _ _ _ _ _ _ _ _
   | exact ih4 _ _ _ _ _ _ _ _ _ _ _ _ _ _ _ _ _ _
   | exact aG.mono _ _ _ _
   | exact LeO.none _
   | refine LeO.ite ?_ ?_
   | refine LeO.bind ?_ (fun _ => ?_)
  ·intro y0 y1 y2 y3 y4 y5 y6 y7 y8 y9 y10 y11 y12 y13 y14 y15 y16 y17 y18 y19 y20; unfold ag.j3
   repeat' first
   | (with_reducible exact ih0 _ _ _ _ _ _ _ _ _)
   | (with_reducible exact ih1 _ _ _ _ _ _ _ _ _ _ _ _ _)
   | (with_reducible exact ih2 _ _ _ _ _ _ _ _ _ _ _ _ _ _ _ _ _ _ _)
   | (with_reducible exact ih3 _ _ _ _ _ _ _ _ _ _ _ _ _ _ _ _ _ _ _ _ _)
   | (with_reducible exact ih4 _ _ _ _ _ _ _ _ _ _ _ _ _ _ _ _ _ _)
   | (with_reducible exact aG.mono _ _ _ _)
   | (with_reducible exact LeO.refl _)
   | (with_reducible exact LeO.none _)
   | (with_reducible refine LeO.ite ?_ ?_)
   | (with_reducible refine LeO.bind ?_ (fun _ => ?_))
   | exact ih0 _ _ _ _ _ _ _ _ _
   | exact ih1 _ _ _ _ _ _ _ _ _ _ _ _ _
   | exact ih2 _ _ _ _ _ _ _ _ _ _ _ _ _ _ _ _ _ _ _
   | exact ih3 _ _ _ _ _ _ _ _ _ _ _ _ _ _ _ _ _ _ _ _ _
   | exact ih4 _ _ _ _ _ _ _ _ _ _ _ _ _ _ _ _ _ _
   | exact aG.mono _ _ _ _
   | exact LeO.none _
   | refine LeO.ite ?_ ?_
   | refine LeO.bind ?_ (fun _ => ?_)
  ·intro y0 y1 y2 y3 y4 y5 y6 y7 y8 y9 y10 y11 y12 y13 y14 y15 y16 y17; unfold ag.l3
   repeat' first
   | (with_reducible exact ih0 _ _ _ _ _ _ _ _ _)
   | (with_reducible exact ih1 _ _ _ _ _ _ _ _ _ _ _ _ _)
   | (with_reducible exact ih2 _ _ _ _ _ _ _ _ _ _ _ _ _ _ _ _ _ _ _)
   | (with_reducible exact ih3 _ _ _ _ _ _ _ _ _ _ _ _ _ _ _ _ _ _ _ _ _)
   | (with_reducible exact ih4 _ _ _ _ _ _ _ _ _ _ _ _ _ _ _ _ _ _)
   | (with_reducible exact aG.mono _ _ _ _)
   | (with_reducible exact LeO.refl _)
   | (with_reducible exact LeO.none _)
   | (with_reducible refine LeO.ite ?_ ?_)
   | (with_reducible refine LeO.bind ?_ (fun _ => ?_))
   | exact ih0 _ _ _ _ _ _ _ _ _
   | exact ih1 _ _ _ _ _ _ _ _ _ _ _ _ _
   | exact ih2 _ _ _ _ _ _ _ _ _ _ _ _ _ _ _ _ _ _ _
   | exact ih3 _ _ _ _ _ _ _ _ _ _ _ _ _ _ _ _ _ _ _ _ _
   | exact ih4 _ _ _ _ _ _ _ _ _ _ _ _ _ _ _ _ _ _
   | exact aG.mono _ _ _ _
   | exact LeO.none _
   | refine LeO.ite ?_ ?_
   | refine LeO.bind ?_ (fun _ => ?_)
theorem ag.mono : ∀ a0 a1 a2 a3 a4 k, LeO (ag.f k a0 a1 a2 a3 a4) (ag.f (k + 1) a0 a1 a2 a3 a4) := by
 intro a0 a1 a2 a3 a4 k; obtain ⟨ih0, ih1, ih2, ih3, ih4⟩ := ag.gY k; unfold ag.f
 repeat' first
  | (with_reducible exact ih0 _ _ _ _ _ _ _ _ _)
  | (with_reducible exact ih1 _ _ _ _ _ _ _ _ _ _ _ _ _)
  | (with_reducible exact ih2 _ _ _ _ _ _ _ _ _ _ _ _ _ _ _ _ _ _ _)
  | (with_reducible exact ih3 _ _ _ _ _ _ _ _ _ _ _ _ _ _ _ _ _ _ _ _ _)
  | (with_reducible exact ih4 _ _ _ _ _ _ _ _ _ _ _ _ _ _ _ _ _ _)
  | (with_reducible exact aG.mono _ _ _ _)
  | (with_reducible exact LeO.refl _)
  | (with_reducible exact LeO.none _)
  | (with_reducible refine LeO.ite ?_ ?_)
  | (with_reducible refine LeO.bind ?_ (fun _ => ?_))
  | exact ih0 _ _ _ _ _ _ _ _ _
  | exact ih1 _ _ _ _ _ _ _ _ _ _ _ _ _
  | exact ih2 _ _ _ _ _ _ _ _ _ _ _ _ _ _ _ _ _ _ _
  | exact ih3 _ _ _ _ _ _ _ _ _ _ _ _ _ _ _ _ _ _ _ _ _
  | exact ih4 _ _ _ _ _ _ _ _ _ _ _ _ _ _ _ _ _ _
  | exact aG.mono _ _ _ _
  | exact LeO.none _
  | refine LeO.ite ?_ ?_
  | refine LeO.bind ?_ (fun _ => ?_)
end Go.Proofs.Ytihedeofkhapiaa.Pr
end
