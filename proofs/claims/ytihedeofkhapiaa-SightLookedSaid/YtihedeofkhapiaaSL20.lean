/- Part 20 of 21 of the proof of: SightLooked: for every slice of numbers, the law returns true: of a line that one hand alone may have cut, made of them, if the letter of the square of Look is known, whichever it is, at most as many letters as said fit the other squares, and just as many for one of them, and no square before it does as well, and none does better; no condition beyond the statement's own. -/
import Derived.Test.YtihedeofkhapiaaSL9
import Derived.Test.YtihedeofkhapiaaSL11
import Derived.Test.YtihedeofkhapiaaSL13
import Derived.Test.YtihedeofkhapiaaSL18
import Derived.Test.YtihedeofkhapiaaSL19
set_option linter.unusedVariables false
set_option linter.unusedSimpArgs false
section
namespace Go.Proofs.Ytihedeofkhapiaa.Pr
open Go.RowKit Go.Proofs.YtihedeofkhapiaaW.PrintWords Go.Proofs.YtihedeofkhapiaaW.PrintLast Go.Proofs.YtihedeofkhapiaaW.PrintMore
attribute [local go_sem] pU pX ru rz nJ nK pR qa
mutual
def ai.j0 : Nat → Int → Int → List ByteArray → Bool → List (S66) → Int → Int → Int → List (List (S27)) → Option (Bool)
 | 0, _, _, _, _, _, _, _, _, _ => none
 | k + 1, x5, x6, x8, x55, mg, mf, lX, mF, mq => if x55 = true then (some false) else (ai.l0 k x5 x6 x8 0 mg mf lX mF mq)
def ai.l0 : Nat → Int → Int → List ByteArray → Int → List (S66) → Int → Int → Int → List (List (S27)) → Option (Bool)
 | 0, _, _, _, _, _, _, _, _, _ => none
 | k + 1, x5, x6, x8, x10, mg, mf, lX, mF, mq => if x10 < (x8.length : Int) then (ai.l1 k x5 x6 x8 x10 0 0 mg mf lX mF mq) else ((fG.f k).bind fun SY => (some SY))
def ai.l1 : Nat → Int → Int → List ByteArray → Int → Int → Int → List (S66) → Int → Int → Int → List (List (S27)) → Option (Bool)
 | 0, _, _, _, _, _, _, _, _, _, _, _ => none
 | k + 1, x5, x6, x8, x10, x11, x12, mg, mf, lX, mF, mq => if 0 ≤ x10 then (if x10 < (x8.length : Int) then (if x12 < ((jF ByteArray.empty x8 x10).size : Int) then (if 0 ≤ x12 then ((au.f k mg mf lX mF mq x10 (bt (jF ByteArray.empty x8 x10) x12)).bind fun Er => (if Er.2 = true then (ai.l1 k x5 x6 x8 x10 (mx x11 Er.1) (wrap64 (x12 + 1)) mg mf lX mF mq) else (some false))) else (none)) else (if x10 < x5 then (if x11 ≤ x6 then (some false) else (if x10 = x5 then (if x11 = x6 then (if x10 > x5 then (if x11 < x6 then (some false) else (ai.l0 k x5 x6 x8 (wrap64 (x10 + 1)) mg mf lX mF mq)) else (ai.l0 k x5 x6 x8 (wrap64 (x10 + 1)) mg mf lX mF mq)) else (some false)) else (if x10 > x5 then (if x11 < x6 then (some false) else (ai.l0 k x5 x6 x8 (wrap64 (x10 + 1)) mg mf lX mF mq)) else (ai.l0 k x5 x6 x8 (wrap64 (x10 + 1)) mg mf lX mF mq)))) else (if x10 = x5 then (if x11 = x6 then (if x10 > x5 then (if x11 < x6 then (some false) else (ai.l0 k x5 x6 x8 (wrap64 (x10 + 1)) mg mf lX mF mq)) else (ai.l0 k x5 x6 x8 (wrap64 (x10 + 1)) mg mf lX mF mq)) else (some false)) else (if x10 > x5 then (if x11 < x6 then (some false) else (ai.l0 k x5 x6 x8 (wrap64 (x10 + 1)) mg mf lX mF mq)) else (ai.l0 k x5 x6 x8 (wrap64 (x10 + 1)) mg mf lX mF mq))))) else (none)) else (none)
end
def ai.f (k : Nat) (l0 : List Int) : Option (Bool) := (mP.f l0).bind fun E5 => ((af.f k E5.1 E5.2 1 5 4).bind fun dn => ((bS.f k dn.1 dn.2.1 dn.2.2.1 dn.2.2.2.1 dn.2.2.2.2.1).bind fun iC => ((bV.f k dn.1 dn.2.1 dn.2.2.1 dn.2.2.2.1 dn.2.2.2.2.1).bind fun lh => (if iC.2.2 = 0 then (if lh.2 = 0 then (if (lh.1.length : Int) = (dn.2.2.2.2.1.length : Int) then (if iC.1 < 0 then (ai.j0 k iC.1 iC.2.1 lh.1 true dn.1 dn.2.1 dn.2.2.1 dn.2.2.2.1 dn.2.2.2.2.1) else (ai.j0 k iC.1 iC.2.1 lh.1 (decide (iC.1 ≥ (lh.1.length : Int))) dn.1 dn.2.1 dn.2.2.1 dn.2.2.2.1 dn.2.2.2.2.1)) else (ai.j0 k iC.1 iC.2.1 lh.1 true dn.1 dn.2.1 dn.2.2.1 dn.2.2.2.1 dn.2.2.2.2.1)) else (ai.j0 k iC.1 iC.2.1 lh.1 true dn.1 dn.2.1 dn.2.2.1 dn.2.2.2.1 dn.2.2.2.2.1)) else (ai.j0 k iC.1 iC.2.1 lh.1 true dn.1 dn.2.1 dn.2.2.1 dn.2.2.2.1 dn.2.2.2.2.1)))))
theorem ai.ig : ∀ k, (∀ y0 y1 y2 y3 y4 y5 y6 y7 y8, LeO (ai.j0 k y0 y1 y2 y3 y4 y5 y6 y7 y8) (ai.j0 (k + 1) y0 y1 y2 y3 y4 y5 y6 y7 y8)) ∧ (∀ y0 y1 y2 y3 y4 y5 y6 y7 y8, LeO (ai.l0 k y0 y1 y2 y3 y4 y5 y6 y7 y8) (ai.l0 (k + 1) y0 y1 y2 y3 y4 y5 y6 y7 y8)) ∧ (∀ y0 y1 y2 y3 y4 y5 y6 y7 y8 y9 y10, LeO (ai.l1 k y0 y1 y2 y3 y4 y5 y6 y7 y8 y9 y10) (ai.l1 (k + 1) y0 y1 y2 y3 y4 y5 y6 y7 y8 y9 y10))
 | 0 => ⟨fun _ _ _ _ _ _ _ _ _ r h => by simp [ai.j0] at h, fun _ _ _ _ _ _ _ _ _ r h => by simp [ai.l0] at h, fun _ _ _ _ _ _ _ _ _ _ _ r h => by simp [ai.l1] at h⟩
 | k + 1 => by
  obtain ⟨ih0, ih1, ih2⟩ := ai.ig k; refine ⟨?_, ?_, ?_⟩
  ·intro y0 y1 y2 y3 y4 y5 y6 y7 y8; unfold ai.j0
   repeat' first | (with_reducible exact ih1 _ _ _ _ _ _ _ _ _) | (with_reducible exact LeO.refl _) | (with_reducible refine LeO.ite ?_ ?_)
  ·intro y0 y1 y2 y3 y4 y5 y6 y7 y8; unfold ai.l0
   repeat' first | (with_reducible exact ih2 _ _ _ _ _ _ _ _ _ _ _) | (with_reducible exact fG.mono _) | (with_reducible exact LeO.refl _) | (with_reducible refine LeO.ite ?_ ?_) | (with_reducible refine LeO.bind ?_ (fun _ => ?_))
  ·intro y0 y1 y2 y3 y4 y5 y6 y7 y8 y9 y10; unfold ai.l1
   repeat' first | (with_reducible exact ih1 _ _ _ _ _ _ _ _ _) | (with_reducible exact ih2 _ _ _ _ _ _ _ _ _ _ _) | (with_reducible exact au.mono _ _ _ _ _ _ _ _) | (with_reducible exact LeO.refl _) | (with_reducible refine LeO.ite ?_ ?_) | (with_reducible refine LeO.bind ?_ (fun _ => ?_))
theorem ai.mono : ∀ a0 k, LeO (ai.f k a0) (ai.f (k + 1) a0) := by
 intro a0 k; obtain ⟨ih0, ih1, ih2⟩ := ai.ig k; unfold ai.f
 repeat' first | (with_reducible exact ih0 _ _ _ _ _ _ _ _ _) | (with_reducible exact af.mono _ _ _ _ _ _) | (with_reducible exact bV.mono _ _ _ _ _ _) | (with_reducible exact bS.mono _ _ _ _ _ _) | (with_reducible exact LeO.refl _) | (with_reducible refine LeO.ite ?_ ?_) | (with_reducible refine LeO.bind ?_ (fun _ => ?_))
def ai.T13 : Bool × List (List Nat × List Nat) := (true, [([], []), ([], []), ([], []), ([], []), ([2, 3], [2, 3]), ([4], [4]), ([], []), ([5, 6], [5, 6]), ([0, 1, 7], [0, 1, 7]), ([8], [8]), ([9], [9]), ([9], [9]), ([10, 8, 0, 1, 2, 3, 4, 5, 6, 7, 8, 9, 10], [10]), ([11, 12, 0, 1, 2, 3, 4, 5, 6, 7, 8, 9, 10, 11, 12], [11])])
def ai.B13 : List Nat := [0, 0, 0, 0, 12, 28, 0, 124, 255, 511, 1023, 1023, 2047, 8191]
theorem ai.UH : sw .any (opsOf Try.f12 13) = ai.T13 := by kernel_rfl
theorem ai.M7 : rA ai.T13.2 ai.B13 = true := by kernel_rfl
theorem KN {r : Bool} (hr : r = true) (h : some false = some r) : False := by subst hr; exact absurd h (by simp)
theorem I7 {k : Nat} {x5 : Int} {x6 : Int} {x8 : List ByteArray} {mg : List (S66)} {mf : Int} {lX : Int} {mF : Int} {mq : List (List (S27))} {r : Bool} (hr : r = true) (h : ai.j0 k x5 x6 x8 true mg mf lX mF mq = some r) : False := by
 subst hr; cases k <;> simp [ai.j0] at h
set_option maxHeartbeats 8000000 in
set_option maxRecDepth 100000 in
theorem ai.calls (k : Nat) (A0 : Option Addr) (c0 : Nat) (l0 : List Int) (r : Bool) (hrT : r = true) (w : World) (hr0 : Kd.C (Kd.int .i64) w A0 l0.length l0) (hc0 : l0.length ≤ c0) (h : ai.f k l0 = some r) :
 Calls Try.prog 12 #[.slice A0 l0.length c0] w fun e w' => e = .returned (.bool r) ∧ Below w.heap.size w w' := by
 have HRT := aa.mk hrT; clear hrT; have hu25 := Try.underlying25; have hu32 := Try.underlying32; have HR0 := aa.mk hr0; have HC0 := aa.mk hc0; clear hr0 hc0; have HB := aa.mk (Below.refl w.heap.size w); have H : ((mP.f l0).bind fun E5 => ((af.f k E5.1 E5.2 1 5 4).bind fun dn => ((bS.f k dn.1 dn.2.1 dn.2.2.1 dn.2.2.2.1 dn.2.2.2.2.1).bind fun iC => ((bV.f k dn.1 dn.2.1 dn.2.2.1 dn.2.2.2.1 dn.2.2.2.2.1).bind fun lh => (if iC.2.2 = 0 then (if lh.2 = 0 then (if (lh.1.length : Int) = (dn.2.2.2.2.1.length : Int) then (if iC.1 < 0 then (ai.j0 k iC.1 iC.2.1 lh.1 true dn.1 dn.2.1 dn.2.2.1 dn.2.2.2.1 dn.2.2.2.2.1) else (ai.j0 k iC.1 iC.2.1 lh.1 (decide (iC.1 ≥ (lh.1.length : Int))) dn.1 dn.2.1 dn.2.2.1 dn.2.2.2.1 dn.2.2.2.2.1)) else (ai.j0 k iC.1 iC.2.1 lh.1 true dn.1 dn.2.1 dn.2.2.1 dn.2.2.2.1 dn.2.2.2.2.1)) else (ai.j0 k iC.1 iC.2.1 lh.1 true dn.1 dn.2.1 dn.2.2.1 dn.2.2.2.1 dn.2.2.2.2.1)) else (ai.j0 k iC.1 iC.2.1 lh.1 true dn.1 dn.2.1 dn.2.2.1 dn.2.2.2.1 dn.2.2.2.2.1)))))) = some r := h; clear h; replace H := Option.bind_eq_some_iff.mp H; obtain ⟨⟨aav, aaE⟩, A20, H⟩ := H; dsimp only at H; have A2 := aa.mk A20; clear A20; replace H := Option.bind_eq_some_iff.mp H; obtain ⟨⟨kL, pV, qg, qI, kM, xK, yx, oH, Hy, Hg⟩, A30, H⟩ := H; dsimp only at H; have A3 := aa.mk A30; clear A30; replace H := Option.bind_eq_some_iff.mp H; obtain ⟨⟨ma, nC, Qf⟩, A40, H⟩ := H; dsimp only at H; have A4 := aa.mk A40; clear A40; replace H := Option.bind_eq_some_iff.mp H; obtain ⟨⟨jm, P6⟩, A50, H⟩ := H; dsimp only at H; have A5 := aa.mk A50; clear A50; have HC6 := aa.mk H; clear H; go_enter Try.func12, Try.ntmps12; (go_upto_region 4 with (first | ((with_reducible refine bR (f := 16) rfl ?_); refine fJ (some 17) rfl rfl Try.func16 (by kernel_rfl) rfl #[.slice A0 l0.length c0] rfl (by (simp only [List.map_toArray, List.map_cons, List.map_nil]); rfl) ?_; (with_reducible refine (mP.calls _ _ l0 aav aaE w _ ?side1 ?side2 ?side3 A2.out).mono ?_); (case side1 => exact HB.out); (case side2 => exact HR0.out); (case side3 => exact HC0.out); rintro e w7 ⟨g1135, rfl, hi, hb, hb2⟩; refine ⟨_, rfl, ?_⟩; replace HB := aa.mk (hb); have qW := aa.mk (hi); clear hb; clear hb2; (clear hi)) | ((with_reducible refine bR (f := 15) rfl ?_); refine fJ (some 18) rfl rfl Try.func15 (by kernel_rfl) rfl #[.pointer (some ⟨g1135, 0, none⟩), .int .i64 1, .int .i64 5, .int .i64 4] rfl (by (simp only [List.map_toArray, List.map_cons, List.map_nil]); rfl) ?_; (with_reducible refine (af.calls k g1135 aav aaE 1 5 4 kL pV qg qI kM xK yx oH Hy Hg w _ ?side1 ?side2 A3.out).mono ?_); (case side1 => exact qW.out); (case side2 => exact HB.out); rintro e w8 ⟨agl, agG, aam, rfl, ho0, ho1, ho2, hi, hb, hk⟩; refine ⟨_, rfl, ?_⟩; have tQ := aa.mk (Kd.jh (Kd.aQ (ok' := fun k_ => some k_ ≠ (agG : Value).ownBlock ∧ some k_ ≠ (aam : Value).ownBlock ∧ k_ ≠ g1135) ho0 (fun k_ hk_ => ⟨hk_.2.1, hk_.2.2, (bn.fresh (by exact qW.out) k_ hk_.1)⟩)) (ak (by exact HB.out))); have sQ := aa.mk (Kd.jh (Kd.aQ (ok' := fun k_ => some k_ ≠ (agl : Value).ownBlock ∧ some k_ ≠ (aam : Value).ownBlock ∧ k_ ≠ g1135) ho1 (fun k_ hk_ => ⟨hk_.2.1, hk_.2.2, (bn.fresh (by exact qW.out) k_ hk_.1)⟩)) (ak (by exact HB.out))); have xu := aa.mk (Kd.gG (Kd.dC (ok' := fun k_ => True) ho2 (fun _ hk_ => trivial)) (ak (by exact HB.out))); replace HB := aa.mk (hb); replace qW := aa.mk (hi); clear hb; clear hk; clear hi; clear ho0; clear ho1; (clear ho2)) | ((with_reducible refine dN (N := 3) rfl ?_); ((refine xP (by rfl) ?_; dsimp only)); refine eB ?hg (N := 3) ?hd (cs := #[.slice none 0 0, .int .i64 0, .int .i64 0, .int .i64 0, .slice none 0 0]) (t := 25) ?hr ?_; (case hd => rfl); (case hg => rfl); (case hr => (go_simp; done)); intro fC hg w9 hbox hb; replace tQ := aa.mk (Kd.gz (Kd.mi (nU tQ.out) fC (Nat.le_of_eq hg.symm)) hb); replace sQ := aa.mk (Kd.gz (Kd.mi (nU sQ.out) fC (Nat.le_of_eq hg.symm)) hb); replace xu := aa.mk (Kd.fE (rU xu.out) hb); have ik := aa.mk (hbox); have akH := aa.mk ((by rw [hg]; exact (ak (by exact HB.out)) : w.heap.size ≤ fC)); have acg := aa.mk ((by rw [hg]; exact (ak (by exact HB.out)) : w.heap.size ≤ fC)); replace HB := aa.mk (aM (by exact HB.out) hb); have yY := aa.mk ((by rw [hg]; exact Nat.ne_of_lt (bn.lt (show bn w _ g1135 Hy Hg from by exact qW.out)) : g1135 ≠ fC)); have Da := aa.mk ((by rw [hg]; exact Nat.ne_of_gt (bn.lt (show bn w _ g1135 Hy Hg from by exact qW.out)) : fC ≠ g1135)); replace qW := aa.mk (bn.below (by exact qW.out) hb); clear hb hbox hg) | ((with_reducible refine dN (N := 4) rfl ?_); ((refine xP (by rfl) ?_; dsimp only)); refine eB ?hg (N := 4) ?hd (cs := #[.int .i64 0, .string (⟨#[]⟩ : ByteArray), .slice none 0 0]) (t := 32) ?hr ?_; (case hd => rfl); (case hg => rfl); (case hr => (go_simp; done)); intro il hg w10 hbox hb; replace tQ := aa.mk (Kd.gz (Kd.mi (nU tQ.out) il (Nat.le_of_eq hg.symm)) hb); replace sQ := aa.mk (Kd.gz (Kd.mi (nU sQ.out) il (Nat.le_of_eq hg.symm)) hb); replace xu := aa.mk (Kd.fE (rU xu.out) hb); have kQ := aa.mk (hbox); have akO := aa.mk ((by rw [hg]; exact (ak (by exact HB.out)) : w.heap.size ≤ il)); have abC := aa.mk ((by rw [hg]; exact (ak (by exact HB.out)) : w.heap.size ≤ il)); replace HB := aa.mk (aM (by exact HB.out) hb); have uJ := aa.mk ((by rw [hg]; exact Nat.ne_of_lt (bW (g := fC) (o := .cells #[.slice none 0 0, .int .i64 0, .int .i64 0, .int .i64 0, .slice none 0 0] 25 (0, 0)) (bU ik.out)) : fC ≠ il)); have qm := aa.mk ((by rw [hg]; exact Nat.ne_of_gt (bW (g := fC) (o := .cells #[.slice none 0 0, .int .i64 0, .int .i64 0, .int .i64 0, .slice none 0 0] 25 (0, 0)) (bU ik.out)) : il ≠ fC)); replace ik := aa.mk (aG (bU ik.out) hb); have C9 := aa.mk ((by rw [hg]; exact Nat.ne_of_lt (bn.lt (show bn w _ g1135 Hy Hg from by exact qW.out)) : g1135 ≠ il)); have Kh := aa.mk ((by rw [hg]; exact Nat.ne_of_gt (bn.lt (show bn w _ g1135 Hy Hg from by exact qW.out)) : il ≠ g1135)); replace qW := aa.mk (bn.below (by exact qW.out) hb); clear hb hbox hg; obtain ⟨lV, lw, Uq⟩ := Kd.ic tQ.out; subst Uq; have SX := uJ.out; have R9 := qm.out; have OT := Da.out; have OM := yY.out; obtain ⟨Ja, JC, Oi, WL, YN, JI, J9, Pk, X8, Yl⟩ := cells5 ik.out; obtain ⟨nW, nH, IG⟩ := Kd.ic sQ.out; subst IG; have aet := Kh.out; have aeo := C9.out; obtain ⟨Ej, DZ, Ea, D5, Eh, Ec⟩ := cells3 kQ.out; obtain ⟨tJ, tC, RV⟩ := Kd.fZ xu.out; subst RV) | ((with_reducible refine bR (f := 45) rfl ?_); refine fJ (some 23) rfl rfl Try.func45 (by kernel_rfl) rfl #[.agg #[.slice lV kL.length lw, .int .i64 pV, .int .i64 qg, .int .i64 qI, .slice nW kM.length nH]] rfl (by (simp only [List.map_toArray, List.map_cons, List.map_nil]); rfl) ?_; (with_reducible refine (bS.calls k _ _ kL pV qg qI _ _ kM ma nC Qf _ ?side1 ?side2 ?side3 ?side4 A4.out).mono ?_); (case side1 => refine (Kd.fw (e := 66) (base := w.heap.size) (ok := fun k_ => (((some k_ ≠ (.slice nW kM.length nH : Value).ownBlock ∧ (some k_ ≠ (.slice tJ oH.length tC : Value).ownBlock ∧ k_ ≠ g1135)) ∧ k_ ≠ fC) ∧ k_ ≠ il)) (n := kL.length) (c := lw) ?_).2.2; exact (nU ((Kd.aQ (Kd.aQ (Kd.dA (p := ⟨il, 2, none⟩) (Kd.dA (p := ⟨il, 1, none⟩) (Kd.dA (p := ⟨il, 0, none⟩) (Kd.dA (p := ⟨fC, 4, none⟩) (Kd.dA (p := ⟨fC, 3, none⟩) (Kd.dA (p := ⟨fC, 2, none⟩) (Kd.dA (p := ⟨fC, 1, none⟩) (Kd.dA (p := ⟨fC, 0, none⟩) (Kd.aQ (Kd.aQ tQ.out (fun k_ hk => (⟨hk, hk.1.2⟩ : _ ∧ k_ ≠ fC))) (fun k_ hk => (⟨hk, hk.1.2⟩ : _ ∧ k_ ≠ il))) (fun _ hk => hk.1.2) (.slice lV kL.length lw)) (fun _ hk => hk.1.2) (.int .i64 pV)) (fun _ hk => hk.1.2) (.int .i64 qg)) (fun _ hk => hk.1.2) (.int .i64 qI)) (fun _ hk => hk.1.2) (.slice nW kM.length nH)) (fun _ hk => hk.2) (.int .i64 xK)) (fun _ hk => hk.2) (.string yx)) (fun _ hk => hk.2) (.slice tJ oH.length tC)) (fun _ h_ => h_.1)) (fun _ h_ => h_.1))))); (case side2 => exact (Kd.fw tQ.out).2.1); (case side3 => refine (Kd.fw (e := 39) (base := w.heap.size) (ok := fun k_ => (((some k_ ≠ (.slice lV kL.length lw : Value).ownBlock ∧ (some k_ ≠ (.slice tJ oH.length tC : Value).ownBlock ∧ k_ ≠ g1135)) ∧ k_ ≠ fC) ∧ k_ ≠ il)) (n := kM.length) (c := nH) ?_).2.2; exact (nU ((Kd.aQ (Kd.aQ (Kd.dA (p := ⟨il, 2, none⟩) (Kd.dA (p := ⟨il, 1, none⟩) (Kd.dA (p := ⟨il, 0, none⟩) (Kd.dA (p := ⟨fC, 4, none⟩) (Kd.dA (p := ⟨fC, 3, none⟩) (Kd.dA (p := ⟨fC, 2, none⟩) (Kd.dA (p := ⟨fC, 1, none⟩) (Kd.dA (p := ⟨fC, 0, none⟩) (Kd.aQ (Kd.aQ sQ.out (fun k_ hk => (⟨hk, hk.1.2⟩ : _ ∧ k_ ≠ fC))) (fun k_ hk => (⟨hk, hk.1.2⟩ : _ ∧ k_ ≠ il))) (fun _ hk => hk.1.2) (.slice lV kL.length lw)) (fun _ hk => hk.1.2) (.int .i64 pV)) (fun _ hk => hk.1.2) (.int .i64 qg)) (fun _ hk => hk.1.2) (.int .i64 qI)) (fun _ hk => hk.1.2) (.slice nW kM.length nH)) (fun _ hk => hk.2) (.int .i64 xK)) (fun _ hk => hk.2) (.string yx)) (fun _ hk => hk.2) (.slice tJ oH.length tC)) (fun _ h_ => h_.1)) (fun _ h_ => h_.1))))); (case side4 => exact (Kd.fw sQ.out).2.1); rintro e w19 ⟨rfl, hb⟩; refine ⟨_, rfl, ?_⟩; replace tQ := aa.mk (Kd.gz (nU ((Kd.aQ (Kd.aQ (Kd.dA (p := ⟨il, 2, none⟩) (Kd.dA (p := ⟨il, 1, none⟩) (Kd.dA (p := ⟨il, 0, none⟩) (Kd.dA (p := ⟨fC, 4, none⟩) (Kd.dA (p := ⟨fC, 3, none⟩) (Kd.dA (p := ⟨fC, 2, none⟩) (Kd.dA (p := ⟨fC, 1, none⟩) (Kd.dA (p := ⟨fC, 0, none⟩) (Kd.aQ (Kd.aQ tQ.out (fun k_ hk => (⟨hk, hk.1.2⟩ : _ ∧ k_ ≠ fC))) (fun k_ hk => (⟨hk, hk.1.2⟩ : _ ∧ k_ ≠ il))) (fun _ hk => hk.1.2) (.slice lV kL.length lw)) (fun _ hk => hk.1.2) (.int .i64 pV)) (fun _ hk => hk.1.2) (.int .i64 qg)) (fun _ hk => hk.1.2) (.int .i64 qI)) (fun _ hk => hk.1.2) (.slice nW kM.length nH)) (fun _ hk => hk.2) (.int .i64 xK)) (fun _ hk => hk.2) (.string yx)) (fun _ hk => hk.2) (.slice tJ oH.length tC)) (fun _ h_ => h_.1)) (fun _ h_ => h_.1)))) hb); replace sQ := aa.mk (Kd.gz (nU ((Kd.aQ (Kd.aQ (Kd.dA (p := ⟨il, 2, none⟩) (Kd.dA (p := ⟨il, 1, none⟩) (Kd.dA (p := ⟨il, 0, none⟩) (Kd.dA (p := ⟨fC, 4, none⟩) (Kd.dA (p := ⟨fC, 3, none⟩) (Kd.dA (p := ⟨fC, 2, none⟩) (Kd.dA (p := ⟨fC, 1, none⟩) (Kd.dA (p := ⟨fC, 0, none⟩) (Kd.aQ (Kd.aQ sQ.out (fun k_ hk => (⟨hk, hk.1.2⟩ : _ ∧ k_ ≠ fC))) (fun k_ hk => (⟨hk, hk.1.2⟩ : _ ∧ k_ ≠ il))) (fun _ hk => hk.1.2) (.slice lV kL.length lw)) (fun _ hk => hk.1.2) (.int .i64 pV)) (fun _ hk => hk.1.2) (.int .i64 qg)) (fun _ hk => hk.1.2) (.int .i64 qI)) (fun _ hk => hk.1.2) (.slice nW kM.length nH)) (fun _ hk => hk.2) (.int .i64 xK)) (fun _ hk => hk.2) (.string yx)) (fun _ hk => hk.2) (.slice tJ oH.length tC)) (fun _ h_ => h_.1)) (fun _ h_ => h_.1)))) hb); replace xu := aa.mk (Kd.fE (rU ((Kd.dC (Kd.dC (Kd.lJ (p := ⟨il, 2, none⟩) (Kd.lJ (p := ⟨il, 1, none⟩) (Kd.lJ (p := ⟨il, 0, none⟩) (Kd.lJ (p := ⟨fC, 4, none⟩) (Kd.lJ (p := ⟨fC, 3, none⟩) (Kd.lJ (p := ⟨fC, 2, none⟩) (Kd.lJ (p := ⟨fC, 1, none⟩) (Kd.lJ (p := ⟨fC, 0, none⟩) (Kd.eH (Kd.eH xu.out ik.out (by decide)) kQ.out (by decide)) (fun _ hk => hk.1.2) (.slice lV kL.length lw)) (fun _ hk => hk.1.2) (.int .i64 pV)) (fun _ hk => hk.1.2) (.int .i64 qg)) (fun _ hk => hk.1.2) (.int .i64 qI)) (fun _ hk => hk.1.2) (.slice nW kM.length nH)) (fun _ hk => hk.2) (.int .i64 xK)) (fun _ hk => hk.2) (.string yx)) (fun _ hk => hk.2) (.slice tJ oH.length tC)) (fun _ h_ => h_.1)) (fun _ h_ => h_.1)))) hb); replace qW := aa.mk (bn.below (show bn w ((((((((w10.setCell ⟨fC, 0, none⟩ (.slice lV kL.length lw)).setCell ⟨fC, 1, none⟩ (.int .i64 pV)).setCell ⟨fC, 2, none⟩ (.int .i64 qg)).setCell ⟨fC, 3, none⟩ (.int .i64 qI)).setCell ⟨fC, 4, none⟩ (.slice nW kM.length nH)).setCell ⟨il, 0, none⟩ (.int .i64 xK)).setCell ⟨il, 1, none⟩ (.string yx)).setCell ⟨il, 2, none⟩ (.slice tJ oH.length tC)) g1135 Hy Hg from by repeat ((with_reducible first | exact qW.out | refine bn.far ?_ yY.out _ | refine bn.far ?_ C9.out _))) hb); replace ik := aa.mk (aG (g := fC) (o := .cells #[.slice lV kL.length lw, .int .i64 pV, .int .i64 qg, .int .i64 qI, .slice nW kM.length nH] 25 (0, 0)) (by (with_reducible skip); refine bI ?_ uJ.out _; (with_reducible skip); refine bI ?_ uJ.out _; (with_reducible skip); refine bI ?_ uJ.out _; (with_reducible skip); refine cu (cs := #[.slice lV kL.length lw, .int .i64 pV, .int .i64 qg, .int .i64 qI, .slice none 0 0]) ?_ 4 _ rfl; (with_reducible skip); refine cu (cs := #[.slice lV kL.length lw, .int .i64 pV, .int .i64 qg, .int .i64 0, .slice none 0 0]) ?_ 3 _ rfl; (with_reducible skip); refine cu (cs := #[.slice lV kL.length lw, .int .i64 pV, .int .i64 0, .int .i64 0, .slice none 0 0]) ?_ 2 _ rfl; (with_reducible skip); refine cu (cs := #[.slice lV kL.length lw, .int .i64 0, .int .i64 0, .int .i64 0, .slice none 0 0]) ?_ 1 _ rfl; (with_reducible skip); refine cu (cs := #[.slice none 0 0, .int .i64 0, .int .i64 0, .int .i64 0, .slice none 0 0]) ?_ 0 _ rfl; (with_reducible skip); exact ik.out) hb); replace kQ := aa.mk (aG (g := il) (o := .cells #[.int .i64 xK, .string yx, .slice tJ oH.length tC] 32 (0, 0)) (by (with_reducible skip); refine cu (cs := #[.int .i64 xK, .string yx, .slice none 0 0]) ?_ 2 _ rfl; (with_reducible skip); refine cu (cs := #[.int .i64 xK, .string (⟨#[]⟩ : ByteArray), .slice none 0 0]) ?_ 1 _ rfl; (with_reducible skip); refine cu (cs := #[.int .i64 0, .string (⟨#[]⟩ : ByteArray), .slice none 0 0]) ?_ 0 _ rfl; (with_reducible skip); refine bI ?_ qm.out _; (with_reducible skip); refine bI ?_ qm.out _; (with_reducible skip); refine bI ?_ qm.out _; (with_reducible skip); refine bI ?_ qm.out _; (with_reducible skip); refine bI ?_ qm.out _; (with_reducible skip); exact kQ.out) hb); replace HB := aa.mk (aM (by repeat ((with_reducible first | exact HB.out | refine dB ?_ acg.out | refine dB ?_ abC.out))) hb); clear hb; obtain ⟨Eb, DR, Eg, II, Js, D7, Ed, En, J6, Jj⟩ := cells5 ik.out) | ((with_reducible refine bR (f := 24) rfl ?_); refine fJ (some 29) rfl rfl Try.func24 (by kernel_rfl) rfl #[.agg #[.slice lV kL.length lw, .int .i64 pV, .int .i64 qg, .int .i64 qI, .slice nW kM.length nH]] rfl (by (simp only [List.map_toArray, List.map_cons, List.map_nil]); rfl) ?_; (with_reducible refine (bV.calls k _ _ kL pV qg qI _ _ kM jm P6 _ ?side1 ?side2 ?side3 ?side4 A5.out).mono ?_); (case side1 => repeat (exact (Kd.fw tQ.out).2.2)); (case side2 => exact (Kd.fw tQ.out).2.1); (case side3 => repeat (exact (Kd.fw sQ.out).2.2)); (case side4 => exact (Kd.fw sQ.out).2.1); rintro e w21 ⟨Ib, rfl, ho0, hb⟩; refine ⟨_, rfl, ?_⟩; replace tQ := aa.mk (Kd.dQ (nU tQ.out) (Kd.dU ho0) hb); replace sQ := aa.mk (Kd.dQ (nU sQ.out) (Kd.dU ho0) hb); replace xu := aa.mk (Kd.fE (rU xu.out) hb); have VF := aa.mk (Kd.gG ho0 (ak (by exact HB.out))); replace qW := aa.mk (bn.below (by exact qW.out) hb); replace ik := aa.mk (aG (bU ik.out) hb); replace kQ := aa.mk (aG (bU kQ.out) hb); replace HB := aa.mk (aM (by exact HB.out) hb); clear hb; (clear ho0)))); (skip); go_cut [55] (fun v55 wc => ∃ (kq : Nat) (Pf : Bool), v55 = .bool Pf ∧ aa (ai.j0 kq ma nC jm Pf kL pV qg qI kM = some r) ∧ aa (kq ≤ k) ∧ aa (Kd.R Kd.string 9 wc w.heap.size (fun _ => True) Ib jm) ∧ aa (Kd.N k66 66 wc w.heap.size (fun k_ => some k_ ≠ (Ib : Value).ownBlock ∧ some k_ ≠ ((.slice nW kM.length nH) : Value).ownBlock ∧ some k_ ≠ ((.slice tJ oH.length tC) : Value).ownBlock ∧ k_ ≠ fC ∧ k_ ≠ il) (.slice lV kL.length lw) kL) ∧ aa (Kd.N (Kd.slice 27 k27) 39 wc w.heap.size (fun k_ => some k_ ≠ (Ib : Value).ownBlock ∧ some k_ ≠ ((.slice lV kL.length lw) : Value).ownBlock ∧ some k_ ≠ ((.slice tJ oH.length tC) : Value).ownBlock ∧ k_ ≠ fC ∧ k_ ≠ il) (.slice nW kM.length nH) kM) ∧ aa (Kd.R (Kd.int .i64) 3 wc w.heap.size (fun _ => True) (.slice tJ oH.length tC) oH) ∧ aa (wc.heap[fC]? = some (.cells #[(.slice lV kL.length lw), .int .i64 pV, .int .i64 qg, .int .i64 qI, (.slice nW kM.length nH)] 25 (0, 0))) ∧ aa (wc.heap[il]? = some (.cells #[.int .i64 xK, .string yx, (.slice tJ oH.length tC)] 32 (0, 0))) ∧ aa (Below w.heap.size w wc))
 case first =>
  have H := HC6.out; clear HC6; by_cases c22 : Qf = 0
  ·rw [if_pos c22] at H; have PV : (Qf == 0) = true := beq_iff_eq.mpr c22; have anj : (Qf != 0) = false := bne_eq_false_iff_eq.mpr c22; clear c22; (skip); by_cases c23 : P6 = 0
   ·rw [if_pos c23] at H; have Z4 : (P6 == 0) = true := beq_iff_eq.mpr c23; have am8 : (P6 != 0) = false := bne_eq_false_iff_eq.mpr c23; clear c23; by_cases c24 : (jm.length : Int) = (kM.length : Int)
    ·rw [if_pos c24] at H; have Dq : ((jm.length : Int) == (kM.length : Int)) = true := beq_iff_eq.mpr c24; have PU : ((jm.length : Int) != (kM.length : Int)) = false := bne_eq_false_iff_eq.mpr c24; (have amH : (jm.length == kM.length) = true := by (simp at c24 ⊢; omega)); clear c24; by_cases c25 : ma < 0
     ·rw [if_pos c25] at H; exact (I7 HRT.out H).elim
     ·rw [if_neg c25] at H; have anh : decide (ma < 0) = false := decide_eq_false c25; clear c25; have H' := aa.mk H; clear H; obtain ⟨akG, alJ, acr⟩ := Kd.fZ VF.out; subst acr; have an4 := uJ.out; have anB := qm.out; have am2 := Da.out; have amM := yY.out; obtain ⟨aiR, ahM, aiL, ahE, ahn, aj0, aiy, ah4, ahi, ah7⟩ := cells5 ik.out; go_wp2; go_meet; case rel => exact ⟨_, (decide (ma ≥ (jm.length : Int))), (by rfl), H', ⟨by omega⟩, ⟨by (with_reducible skip); exact VF.out⟩, ⟨by (with_reducible skip); exact Kd.aQ tQ.out (fun _ hk => ⟨hk.2, ⟨hk.1.1.1.1, ⟨hk.1.1.1.2.1, ⟨hk.1.1.2, hk.1.2⟩⟩⟩⟩)⟩, ⟨by (with_reducible skip); exact Kd.aQ sQ.out (fun _ hk => ⟨hk.2, ⟨hk.1.1.1.1, ⟨hk.1.1.1.2.1, ⟨hk.1.1.2, hk.1.2⟩⟩⟩⟩)⟩, ⟨by (with_reducible skip); exact xu.out⟩, ⟨by (with_reducible skip); exact ik.out⟩, ⟨by (with_reducible skip); exact kQ.out⟩, ⟨by exact HB.out⟩⟩
    ·rw [if_neg c24] at H; exact (I7 HRT.out H).elim
   ·rw [if_neg c23] at H; exact (I7 HRT.out H).elim
  ·rw [if_neg c22] at H; exact (I7 HRT.out H).elim
 case rest =>
  clear HC6 Ja JC Oi WL YN Ej DZ Ea Eb DR Eg II Js JI J9 Pk X8 Yl D5 Eh Ec D7 Ed En J6 Jj; obtain ⟨kq, Pf, rfl, HA, HJ5, pQ, iw, iq, iE, ik, kQ, HB⟩ := hcut
  cases kq with
  | zero => exact absurd HA.out (by simp [ai.j0])
  | succ kj5 =>
   have H := HA.out; clear HA; simp only [ai.j0] at H; by_cases c38 : Pf = true
   ·subst c38; rw [if_pos rfl] at H; exact (KN HRT.out H).elim
   ·replace c38 := Bool.eq_false_iff.mpr c38; subst c38; rw [if_neg (show ¬ (false = true) by decide)] at H; have H' := aa.mk H; clear H; go_wp2; (go_loopg [10] kj5 (fun kq v10 w' => ∃ (dX : Int), v10 = .int .i64 dX ∧ aa (ai.l0 kq ma nC jm dX kL pV qg qI kM = some r) ∧ aa (kq ≤ kj5) ∧ aa (Kd.R Kd.string 9 w' w.heap.size (fun _ => True) Ib jm) ∧ aa (Kd.N k66 66 w' w.heap.size (fun k_ => some k_ ≠ (Ib : Value).ownBlock ∧ some k_ ≠ ((.slice nW kM.length nH) : Value).ownBlock ∧ some k_ ≠ ((.slice tJ oH.length tC) : Value).ownBlock ∧ k_ ≠ fC ∧ k_ ≠ il) (.slice lV kL.length lw) kL) ∧ aa (Kd.N (Kd.slice 27 k27) 39 w' w.heap.size (fun k_ => some k_ ≠ (Ib : Value).ownBlock ∧ some k_ ≠ ((.slice lV kL.length lw) : Value).ownBlock ∧ some k_ ≠ ((.slice tJ oH.length tC) : Value).ownBlock ∧ k_ ≠ fC ∧ k_ ≠ il) (.slice nW kM.length nH) kM) ∧ aa (Kd.R (Kd.int .i64) 3 w' w.heap.size (fun _ => True) (.slice tJ oH.length tC) oH) ∧ aa (w'.heap[fC]? = some (.cells #[(.slice lV kL.length lw), .int .i64 pV, .int .i64 qg, .int .i64 qI, (.slice nW kM.length nH)] 25 (0, 0))) ∧ aa (w'.heap[il]? = some (.cells #[.int .i64 xK, .string yx, (.slice tJ oH.length tC)] 32 (0, 0))) ∧ aa (Below w.heap.size w w'))); case atStart => exact ⟨(0), (by rfl), H', ⟨Nat.le_refl _⟩, ⟨by (with_reducible skip); exact pQ.out⟩, ⟨by (with_reducible skip); exact iw.out⟩, ⟨by (with_reducible skip); exact iq.out⟩, ⟨by (with_reducible skip); exact iE.out⟩, ⟨by (with_reducible skip); exact ik.out⟩, ⟨by (with_reducible skip); exact kQ.out⟩, ⟨by exact HB.out⟩⟩
    case round =>
     clear H'; obtain ⟨dX, rfl, HA, HK2, pQ, iw, iq, iE, ik, kQ, HB⟩ := hrel
     cases gk with
     | zero => exact absurd HA.out (by simp [ai.l0])
     | succ k2 =>
      have H := HA.out; clear HA; simp only [ai.l0] at H; by_cases c39 : dX < (jm.length : Int)
      ·rw [if_pos c39] at H; have OD : decide (dX < (jm.length : Int)) = true := decide_eq_true c39; clear c39; have H' := aa.mk H; clear H; obtain ⟨abv, SF, akC⟩ := Kd.fZ pQ.out; subst akC; go_wp2; (go_loopg [11, 12] k2 (fun kq v11 v12 w' => ∃ (ni : Int) (qi : Int), v11 = .int .i64 ni ∧ v12 = .int .i64 qi ∧ aa (ai.l1 kq ma nC jm dX ni qi kL pV qg qI kM = some r) ∧ aa (kq ≤ k2) ∧ aa (Kd.R Kd.string 9 w' w.heap.size (fun _ => True) (.slice abv jm.length SF) jm) ∧ aa (Kd.N k66 66 w' w.heap.size (fun k_ => some k_ ≠ ((.slice abv jm.length SF) : Value).ownBlock ∧ some k_ ≠ ((.slice nW kM.length nH) : Value).ownBlock ∧ some k_ ≠ ((.slice tJ oH.length tC) : Value).ownBlock ∧ k_ ≠ fC ∧ k_ ≠ il) (.slice lV kL.length lw) kL) ∧ aa (Kd.N (Kd.slice 27 k27) 39 w' w.heap.size (fun k_ => some k_ ≠ ((.slice abv jm.length SF) : Value).ownBlock ∧ some k_ ≠ ((.slice lV kL.length lw) : Value).ownBlock ∧ some k_ ≠ ((.slice tJ oH.length tC) : Value).ownBlock ∧ k_ ≠ fC ∧ k_ ≠ il) (.slice nW kM.length nH) kM) ∧ aa (Kd.R (Kd.int .i64) 3 w' w.heap.size (fun _ => True) (.slice tJ oH.length tC) oH) ∧ aa (w'.heap[fC]? = some (.cells #[(.slice lV kL.length lw), .int .i64 pV, .int .i64 qg, .int .i64 qI, (.slice nW kM.length nH)] 25 (0, 0))) ∧ aa (w'.heap[il]? = some (.cells #[.int .i64 xK, .string yx, (.slice tJ oH.length tC)] 32 (0, 0))) ∧ aa (Below w.heap.size w w'))); case atStart => exact ⟨(0), (0), (by rfl), (by rfl), H', ⟨Nat.le_refl _⟩, ⟨by (with_reducible skip); exact pQ.out⟩, ⟨by (with_reducible skip); exact iw.out⟩, ⟨by (with_reducible skip); exact iq.out⟩, ⟨by (with_reducible skip); exact iE.out⟩, ⟨by (with_reducible skip); exact ik.out⟩, ⟨by (with_reducible skip); exact kQ.out⟩, ⟨by exact HB.out⟩⟩
       case round =>
        clear H' OD; obtain ⟨ni, qi, rfl, rfl, HA, HK3, pQ, iw, iq, iE, ik, kQ, HB⟩ := hrel
        cases gk with
        | zero => exact absurd HA.out (by simp [ai.l1])
        | succ k3 =>
         have H := HA.out; clear HA; simp only [ai.l1] at H; by_cases c41 : 0 ≤ dX
         ·rw [if_pos c41] at H; have Tn : decide (0 ≤ dX) = true := decide_eq_true c41; clear c41; by_cases c42 : dX < (jm.length : Int)
          ·rw [if_pos c42] at H; have U6 : decide (dX < (jm.length : Int)) = true := decide_eq_true c42; clear c42; by_cases c43 : qi < ((jF ByteArray.empty jm dX).size : Int)
           ·rw [if_pos c43] at H; have VD : decide (qi < ((jF ByteArray.empty jm dX).size : Int)) = true := decide_eq_true c43; clear c43; by_cases c44 : 0 ≤ qi
            ·rw [if_pos c44] at H; have Zu : decide (0 ≤ qi) = true := decide_eq_true c44; clear c44; replace H := Option.bind_eq_some_iff.mp H; obtain ⟨⟨OC, afk⟩, afu, H⟩ := H; dsimp only at H; have A46 := aa.mk afu; clear afu; by_cases c47 : afk = true
             ·subst c47; rw [if_pos rfl] at H; obtain ⟨aaQ, aap⟩ : ∃ j_ : Int, (mx ni OC) = j_ := ⟨_, rfl⟩; (replace H : (ai.l1 k3 ma nC jm dX aaQ (wrap64 (qi + 1)) kL pV qg qI kM) = some r := by (rw [aap] at H; exact H)); (skip); have akK : (if ni < OC then OC else ni) = aaQ := aap; have H' := aa.mk H; clear H; have gL : 0 ≤ (dX : Int) := of_decide_eq_true (by with_reducible assumption); have gK : dX < (jm.length : Int) := of_decide_eq_true (by with_reducible assumption); obtain ⟨pI, e1162, mW⟩ := Kd.jc (Kd.dV pQ.out).2.2 dX gL gK; cases e1162; replace gL := eq_true gL; replace gK := eq_true gK; go_wp2; replace pQ := aa.mk (Kd.wZ pQ.out); replace iw := aa.mk (Kd.uQ iw.out); replace iq := aa.mk (Kd.uQ iq.out); replace iE := aa.mk (Kd.wZ iE.out); replace ik := aa.mk (gU ik.out); replace kQ := aa.mk (gU kQ.out); replace HB := aa.mk (iO HB.out); have VA : 0 ≤ (dX : Int) := of_decide_eq_true (by with_reducible assumption); have U8 : dX < (jm.length : Int) := of_decide_eq_true (by with_reducible assumption); obtain ⟨aaS, e1163, Kk⟩ := Kd.jc (Kd.dV pQ.out).2.2 dX VA U8; obtain rfl : pI = aaS := (by injection e1163); replace VA := eq_true VA; replace U8 := eq_true U8; have p45 : 0 ≤ (qi : Int) := of_decide_eq_true (by with_reducible assumption); have q45 : qi < ((jF ByteArray.empty jm dX).size : Int) := of_decide_eq_true (by with_reducible assumption); have hx45 := ae7 (jF ByteArray.empty jm dX) qi; replace p45 := eq_true p45; replace q45 := eq_true q45; refine xe (n := 14) (S := fun w' => w'.cell? ⟨fC, 0, none⟩ = some (.slice lV kL.length lw) ∧ w'.cell? ⟨fC, 1, none⟩ = some (.int .i64 pV) ∧ w'.cell? ⟨fC, 2, none⟩ = some (.int .i64 qg) ∧ w'.cell? ⟨fC, 3, none⟩ = some (.int .i64 qI) ∧ w'.cell? ⟨fC, 4, none⟩ = some (.slice nW kM.length nH) ∧ w'.cell? (pI.add (dX).toNat) = some (.string (jF ByteArray.empty jm dX))) (ds := []) #[false, false, false, false, false, false, false, false, false, false, false, false, false, false] (by kernel_rfl) rfl rfl ⟨(ag ik.out 0).trans rfl, (ag ik.out 1).trans rfl, (ag ik.out 2).trans rfl, (ag ik.out 3).trans rfl, (ag ik.out 4).trans rfl, Kk⟩ (fun bH => ?_); refine rR ai.UH ai.M7 (fun HT_ HW_ => ?_); generalize wr.drew = w49 at pQ iw iq iE ik kQ HB Kk bH ⊢; refine fT (i := 1) (N := some 73) (v := ?_) (a' := ?_) #[false, true, false, false, false, false, false, false, false, false, false, false, false, false] rfl rfl (eG HT_.out (by kernel_rfl)) (fun _ _ _ h => h) (Or.inl ⟨by rfl, ?_⟩) ?_ ?_; rotate_left
              ·intro w'; go_simp; with_reducible rfl
              rotate_left
              ·simp only [Act.put, List.setIfInBounds_toArray, List.set_cons_zero, List.set_cons_succ, cZ, dm]; rfl
              refine fT (i := 2) (N := some 74) (v := ?_) (a' := ?_) #[false, true, true, false, false, false, false, false, false, false, false, false, false, false] rfl rfl (eG HT_.out (by kernel_rfl)) (fun _ _ _ h => h) (Or.inl ⟨by rfl, ?_⟩) ?_ ?_; rotate_left
              ·intro w'; go_simp; with_reducible rfl
              rotate_left
              ·simp only [Act.put, List.setIfInBounds_toArray, List.set_cons_zero, List.set_cons_succ, cZ, dm]; rfl
              refine fT (i := 3) (N := some 75) (v := ?_) (a' := ?_) #[false, true, true, true, false, false, false, false, false, false, false, false, false, false] rfl rfl (eG HT_.out (by kernel_rfl)) (fun _ _ _ h => h) (Or.inl ⟨by rfl, ?_⟩) ?_ ?_; rotate_left
              ·intro w'; go_simp; with_reducible rfl
              rotate_left
              ·simp only [Act.put, List.setIfInBounds_toArray, List.set_cons_zero, List.set_cons_succ, cZ, dm]; rfl
              refine fT (i := 4) (N := some 76) (v := ?_) (a' := ?_) #[false, true, true, true, true, false, false, false, false, false, false, false, false, false] rfl rfl (eG HT_.out (by kernel_rfl)) (fun _ _ _ h => h) (Or.inl ⟨by rfl, ?_⟩) ?_ ?_; rotate_left
              ·intro w'; go_simp; with_reducible rfl
              rotate_left
              ·simp only [Act.put, List.setIfInBounds_toArray, List.set_cons_zero, List.set_cons_succ, cZ, dm]; rfl
              refine fT (i := 6) (N := some 78) (v := ?_) (a' := ?_) #[false, true, true, true, true, false, true, false, false, false, false, false, false, false] rfl rfl (eG HT_.out (by kernel_rfl)) (fun _ _ _ h => h) (Or.inl ⟨by rfl, ?_⟩) ?_ ?_; rotate_left
              ·intro w'; go_simp; with_reducible rfl
              rotate_left
              ·simp only [Act.put, List.setIfInBounds_toArray, List.set_cons_zero, List.set_cons_succ, cZ, dm]; rfl
              refine oW (i := 0) (N := some 72) (v := ?_) (a' := ?_) #[true, true, true, true, true, false, true, false, false, false, false, false, false, false] rfl rfl (ko HT_.out HW_.out (by kernel_rfl)) (fun _ _ _ h => h) (Or.inl ⟨by rfl, ?_⟩) bH ?_ ?_; rotate_left
              ·rintro w' ⟨s0, s1, s2, s3, s4, s5⟩; go_simp; with_reducible rfl
              rotate_left
              ·simp only [Act.put, List.setIfInBounds_toArray, List.set_cons_zero, List.set_cons_succ, cZ, dm]; rfl
              refine oW (i := 5) (N := some 77) (v := ?_) (a' := ?_) #[true, true, true, true, true, true, true, false, false, false, false, false, false, false] rfl rfl (ko HT_.out HW_.out (by kernel_rfl)) (fun _ _ _ h => h) (Or.inl ⟨by rfl, ?_⟩) bH ?_ ?_; rotate_left
              ·rintro w' ⟨s0, s1, s2, s3, s4, s5⟩; go_simp; with_reducible rfl
              rotate_left
              ·simp only [Act.put, List.setIfInBounds_toArray, List.set_cons_zero, List.set_cons_succ, cZ, dm]; rfl
              refine oW (i := 7) (N := some 79) (v := ?_) (a' := ?_) #[true, true, true, true, true, true, true, true, false, false, false, false, false, false] rfl rfl (ko HT_.out HW_.out (by kernel_rfl)) (fun _ _ _ h => h) (Or.inl ⟨by rfl, ?_⟩) bH ?_ ?_; rotate_left
              ·rintro w' ⟨s0, s1, s2, s3, s4, s5⟩; go_simp; with_reducible rfl
              rotate_left
              ·simp only [Act.put, List.setIfInBounds_toArray, List.set_cons_zero, List.set_cons_succ, cZ, dm]; rfl
              refine tY (i := 8) (N := some 80) #[true, true, true, true, true, true, true, true, true, false, false, false, false, false] rfl rfl (jS HT_.out (by kernel_rfl)) (by decide) (fun K hK => ?_); refine L9 Try.func47 (by kernel_rfl) rfl #[.agg #[.slice lV kL.length lw, .int .i64 pV, .int .i64 qg, .int .i64 qI, .slice nW kM.length nH], .int .i64 dX, .int .u8 (bt (jF ByteArray.empty jm dX) qi)] (by rfl) rfl rfl (by (simp only [List.map_toArray, List.map_cons, List.map_nil]); rfl) ?_; (with_reducible refine (au.calls k3 (fun k_ => (some k_ ≠ (.slice (some pI) jm.length SF : Value).ownBlock ∧ (some k_ ≠ (.slice nW kM.length nH : Value).ownBlock ∧ (some k_ ≠ (.slice tJ oH.length tC : Value).ownBlock ∧ (k_ ≠ fC ∧ k_ ≠ il))))) _ _ kL pV qg qI (fun k_ => (some k_ ≠ (.slice (some pI) jm.length SF : Value).ownBlock ∧ (some k_ ≠ (.slice lV kL.length lw : Value).ownBlock ∧ (some k_ ≠ (.slice tJ oH.length tC : Value).ownBlock ∧ (k_ ≠ fC ∧ k_ ≠ il))))) _ _ kM dX (bt (jF ByteArray.empty jm dX) qi) OC true _ ?side1 ?side2 A46.out).mono ?_); (case side1 => exact Kd.N_V (iw.out)); (case side2 => exact Kd.N_V (iq.out)); rintro e w50 ⟨rfl, hb⟩; have HS5_ := (hb.cell (World.block_lt_of_cell? _ _ (bH.2.2.2.2.2))).trans (bH.2.2.2.2.2); refine ⟨_, rfl, ?_⟩; replace pQ := aa.mk (Kd.fE (rU pQ.out) hb); replace iw := aa.mk (Kd.gz (nU iw.out) hb); replace iq := aa.mk (Kd.gz (nU iq.out) hb); replace iE := aa.mk (Kd.fE (rU iE.out) hb); replace ik := aa.mk (aG (bU ik.out) hb); replace kQ := aa.mk (aG (bU kQ.out) hb); replace HB := aa.mk (aM (by exact HB.out) hb); (clear hb); (skip); (skip); (skip); refine hK.out _ _ ⟨(ag ik.out 0).trans rfl, (ag ik.out 1).trans rfl, (ag ik.out 2).trans rfl, (ag ik.out 3).trans rfl, (ag ik.out 4).trans rfl, HS5_⟩ (fun bH => ?_); clear hK K; refine ek (a' := ?_) ?_ ?_; rotate_left
              ·show Act.put _ (some 80) _ = _; simp only [Act.put, List.setIfInBounds_toArray, List.set_cons_zero, List.set_cons_succ, cZ, dm]; rfl
              refine fT (i := 9) (N := some 71) (v := ?_) (a' := ?_) #[true, true, true, true, true, true, true, true, true, true, false, false, false, false] rfl rfl (eG HT_.out (by kernel_rfl)) (fun _ _ _ h => h) (Or.inl ⟨by rfl, ?_⟩) ?_ ?_; rotate_left
              ·intro w'; go_simp; with_reducible rfl
              rotate_left
              ·simp only [Act.put, List.setIfInBounds_toArray, List.set_cons_zero, List.set_cons_succ, cZ, dm]; rfl
              refine fT (i := 10) (N := some 81) (v := ?_) (a' := ?_) #[true, true, true, true, true, true, true, true, true, true, true, false, false, false] rfl rfl (eG HT_.out (by kernel_rfl)) (fun _ _ _ h => h) (Or.inl ⟨by rfl, ?_⟩) ?_ ?_; rotate_left
              ·intro w'; go_simp; with_reducible rfl
              rotate_left
              ·simp only [Act.put, List.setIfInBounds_toArray, List.set_cons_zero, List.set_cons_succ, cZ, dm]; rfl
              refine fT (i := 11) (N := some 82) (v := ?_) (a' := ?_) #[true, true, true, true, true, true, true, true, true, true, true, true, false, false] rfl rfl (eG HT_.out (by kernel_rfl)) (fun _ _ _ h => h) (Or.inl ⟨by rfl, ?_⟩) ?_ ?_; rotate_left
              ·intro w'; go_simp; with_reducible rfl
              rotate_left
              ·simp only [Act.put, List.setIfInBounds_toArray, List.set_cons_zero, List.set_cons_succ, cZ, dm]; rfl
              refine fT (i := 12) (N := some 13) (v := ?_) (a' := ?_) #[true, true, true, true, true, true, true, true, true, true, true, true, true, false] rfl rfl (eG HT_.out (by kernel_rfl)) (fun _ _ _ h => h) (Or.inl ⟨by rfl, ?_⟩) ?_ ?_; rotate_left
              ·intro w'; go_simp; with_reducible rfl
              rotate_left
              ·simp only [Act.put, List.setIfInBounds_toArray, List.set_cons_zero, List.set_cons_succ, cZ, dm]; rfl
              refine fT (i := 13) (N := some 14) (v := ?_) (a' := ?_) #[true, true, true, true, true, true, true, true, true, true, true, true, true, true] rfl rfl (eG HT_.out (by kernel_rfl)) (fun _ _ _ h => h) (Or.inl ⟨by rfl, ?_⟩) ?_ ?_; rotate_left
              ·intro w'; go_simp; with_reducible rfl
              rotate_left
              ·simp only [Act.put, List.setIfInBounds_toArray, List.set_cons_zero, List.set_cons_succ, cZ, dm]; rfl
              refine Ak (wB HT_.out (by kernel_rfl)) ?_; go_wp2; go_roundg k3; (case measure => have := HJ5.out; have := HK2.out; have := HK3.out; omega); case rel => exact ⟨(aaQ), (wrap64 (qi + 1)), (by rfl), (by rfl), H', ⟨by have := HJ5.out; have := HK2.out; have := HK3.out; omega⟩, ⟨by (with_reducible skip); exact pQ.out⟩, ⟨by (with_reducible skip); exact iw.out⟩, ⟨by (with_reducible skip); exact iq.out⟩, ⟨by (with_reducible skip); exact iE.out⟩, ⟨by (with_reducible skip); exact ik.out⟩, ⟨by (with_reducible skip); exact kQ.out⟩, ⟨by exact HB.out⟩⟩
             ·replace c47 := Bool.eq_false_iff.mpr c47; subst c47; rw [if_neg (show ¬ (false = true) by decide)] at H; exact (KN HRT.out H).elim
            ·rw [if_neg c44] at H; exact absurd H (by simp)
           ·rw [if_neg c43] at H; have VD : decide (qi < ((jF ByteArray.empty jm dX).size : Int)) = false := decide_eq_false c43; clear c43; by_cases c53 : dX < ma
            ·rw [if_pos c53] at H; have Ua : decide (dX < ma) = true := decide_eq_true c53; clear c53; by_cases c54 : ni ≤ nC
             ·rw [if_pos c54] at H; have afF : decide (ni ≤ nC) = true := decide_eq_true c54; clear c54; obtain rfl := Option.some.inj H; have gL : 0 ≤ (dX : Int) := of_decide_eq_true (by with_reducible assumption); have gK : dX < (jm.length : Int) := of_decide_eq_true (by with_reducible assumption); obtain ⟨pI, e1162, mW⟩ := Kd.jc (Kd.dV pQ.out).2.2 dX gL gK; cases e1162; replace gL := eq_true gL; replace gK := eq_true gK; go_wp2
              go_ret
              exact ⟨by rfl, by exact HB.out⟩
             ·rw [if_neg c54] at H; have afF : decide (ni ≤ nC) = false := decide_eq_false c54; clear c54; by_cases c55 : dX = ma
              ·rw [if_pos c55] at H; have Tj : (dX == ma) = true := beq_iff_eq.mpr c55; have ac5 : (dX != ma) = false := bne_eq_false_iff_eq.mpr c55; clear c55; by_cases c56 : ni = nC
               ·rw [if_pos c56] at H; have Ra : (ni == nC) = true := beq_iff_eq.mpr c56; have Vu : (ni != nC) = false := bne_eq_false_iff_eq.mpr c56; clear c56; by_cases c57 : dX > ma
                ·rw [if_pos c57] at H; have aeC : decide (ma < dX) = true := decide_eq_true c57; clear c57; by_cases c58 : ni < nC
                 ·rw [if_pos c58] at H; have acQ : decide (ni < nC) = true := decide_eq_true c58; clear c58; obtain rfl := Option.some.inj H; have gL : 0 ≤ (dX : Int) := of_decide_eq_true (by with_reducible assumption); have gK : dX < (jm.length : Int) := of_decide_eq_true (by with_reducible assumption); obtain ⟨pI, e1162, mW⟩ := Kd.jc (Kd.dV pQ.out).2.2 dX gL gK; cases e1162; replace gL := eq_true gL; replace gK := eq_true gK; go_wp2
                  go_ret
                  exact ⟨by rfl, by exact HB.out⟩
                 ·rw [if_neg c58] at H; have acQ : decide (ni < nC) = false := decide_eq_false c58; clear c58; have H' := aa.mk H; clear H; have gL : 0 ≤ (dX : Int) := of_decide_eq_true (by with_reducible assumption); have gK : dX < (jm.length : Int) := of_decide_eq_true (by with_reducible assumption); obtain ⟨pI, e1162, mW⟩ := Kd.jc (Kd.dV pQ.out).2.2 dX gL gK; cases e1162; replace gL := eq_true gL; replace gK := eq_true gK; go_wp2; go_roundg k3; (case measure => have := HJ5.out; have := HK2.out; have := HK3.out; omega); case rel => exact ⟨(wrap64 (dX + 1)), (by rfl), H', ⟨by have := HJ5.out; have := HK2.out; have := HK3.out; omega⟩, ⟨by (with_reducible skip); exact pQ.out⟩, ⟨by (with_reducible skip); exact iw.out⟩, ⟨by (with_reducible skip); exact iq.out⟩, ⟨by (with_reducible skip); exact iE.out⟩, ⟨by (with_reducible skip); exact ik.out⟩, ⟨by (with_reducible skip); exact kQ.out⟩, ⟨by exact HB.out⟩⟩
                ·rw [if_neg c57] at H; have aeC : decide (ma < dX) = false := decide_eq_false c57; clear c57; have H' := aa.mk H; clear H; have gL : 0 ≤ (dX : Int) := of_decide_eq_true (by with_reducible assumption); have gK : dX < (jm.length : Int) := of_decide_eq_true (by with_reducible assumption); obtain ⟨pI, e1162, mW⟩ := Kd.jc (Kd.dV pQ.out).2.2 dX gL gK; cases e1162; replace gL := eq_true gL; replace gK := eq_true gK; go_wp2; go_roundg k3; (case measure => have := HJ5.out; have := HK2.out; have := HK3.out; omega); case rel => exact ⟨(wrap64 (dX + 1)), (by rfl), H', ⟨by have := HJ5.out; have := HK2.out; have := HK3.out; omega⟩, ⟨by (with_reducible skip); exact pQ.out⟩, ⟨by (with_reducible skip); exact iw.out⟩, ⟨by (with_reducible skip); exact iq.out⟩, ⟨by (with_reducible skip); exact iE.out⟩, ⟨by (with_reducible skip); exact ik.out⟩, ⟨by (with_reducible skip); exact kQ.out⟩, ⟨by exact HB.out⟩⟩
               ·rw [if_neg c56] at H; have Ra : (ni == nC) = false := beq_eq_false_iff_ne.mpr c56; have Vu : (ni != nC) = true := bne_iff_ne.mpr c56; obtain rfl := Option.some.inj H; have gL : 0 ≤ (dX : Int) := of_decide_eq_true (by with_reducible assumption); have gK : dX < (jm.length : Int) := of_decide_eq_true (by with_reducible assumption); obtain ⟨pI, e1162, mW⟩ := Kd.jc (Kd.dV pQ.out).2.2 dX gL gK; cases e1162; replace gL := eq_true gL; replace gK := eq_true gK; go_wp2
                go_ret
                exact ⟨by rfl, by exact HB.out⟩
              ·rw [if_neg c55] at H; have Tj : (dX == ma) = false := beq_eq_false_iff_ne.mpr c55; have ac5 : (dX != ma) = true := bne_iff_ne.mpr c55; by_cases c59 : dX > ma
               ·rw [if_pos c59] at H; have Ru : decide (ma < dX) = true := decide_eq_true c59; clear c59; by_cases c60 : ni < nC
                ·rw [if_pos c60] at H; have agQ : decide (ni < nC) = true := decide_eq_true c60; clear c60; obtain rfl := Option.some.inj H; have gL : 0 ≤ (dX : Int) := of_decide_eq_true (by with_reducible assumption); have gK : dX < (jm.length : Int) := of_decide_eq_true (by with_reducible assumption); obtain ⟨pI, e1162, mW⟩ := Kd.jc (Kd.dV pQ.out).2.2 dX gL gK; cases e1162; replace gL := eq_true gL; replace gK := eq_true gK; go_wp2
                 go_ret
                 exact ⟨by rfl, by exact HB.out⟩
                ·rw [if_neg c60] at H; have agQ : decide (ni < nC) = false := decide_eq_false c60; clear c60; have H' := aa.mk H; clear H; have gL : 0 ≤ (dX : Int) := of_decide_eq_true (by with_reducible assumption); have gK : dX < (jm.length : Int) := of_decide_eq_true (by with_reducible assumption); obtain ⟨pI, e1162, mW⟩ := Kd.jc (Kd.dV pQ.out).2.2 dX gL gK; cases e1162; replace gL := eq_true gL; replace gK := eq_true gK; go_wp2; go_roundg k3; (case measure => have := HJ5.out; have := HK2.out; have := HK3.out; omega); case rel => exact ⟨(wrap64 (dX + 1)), (by rfl), H', ⟨by have := HJ5.out; have := HK2.out; have := HK3.out; omega⟩, ⟨by (with_reducible skip); exact pQ.out⟩, ⟨by (with_reducible skip); exact iw.out⟩, ⟨by (with_reducible skip); exact iq.out⟩, ⟨by (with_reducible skip); exact iE.out⟩, ⟨by (with_reducible skip); exact ik.out⟩, ⟨by (with_reducible skip); exact kQ.out⟩, ⟨by exact HB.out⟩⟩
               ·rw [if_neg c59] at H; have Ru : decide (ma < dX) = false := decide_eq_false c59; clear c59; have H' := aa.mk H; clear H; have gL : 0 ≤ (dX : Int) := of_decide_eq_true (by with_reducible assumption); have gK : dX < (jm.length : Int) := of_decide_eq_true (by with_reducible assumption); obtain ⟨pI, e1162, mW⟩ := Kd.jc (Kd.dV pQ.out).2.2 dX gL gK; cases e1162; replace gL := eq_true gL; replace gK := eq_true gK; go_wp2; go_roundg k3; (case measure => have := HJ5.out; have := HK2.out; have := HK3.out; omega); case rel => exact ⟨(wrap64 (dX + 1)), (by rfl), H', ⟨by have := HJ5.out; have := HK2.out; have := HK3.out; omega⟩, ⟨by (with_reducible skip); exact pQ.out⟩, ⟨by (with_reducible skip); exact iw.out⟩, ⟨by (with_reducible skip); exact iq.out⟩, ⟨by (with_reducible skip); exact iE.out⟩, ⟨by (with_reducible skip); exact ik.out⟩, ⟨by (with_reducible skip); exact kQ.out⟩, ⟨by exact HB.out⟩⟩
            ·rw [if_neg c53] at H; have Ua : decide (dX < ma) = false := decide_eq_false c53; clear c53; by_cases c61 : dX = ma
             ·rw [if_pos c61] at H; have aeN : (dX == ma) = true := beq_iff_eq.mpr c61; have af5 : (dX != ma) = false := bne_eq_false_iff_eq.mpr c61; clear c61; by_cases c62 : ni = nC
              ·rw [if_pos c62] at H; have agE : (ni == nC) = true := beq_iff_eq.mpr c62; have agy : (ni != nC) = false := bne_eq_false_iff_eq.mpr c62; clear c62; by_cases c63 : dX > ma
               ·rw [if_pos c63] at H; have UY : decide (ma < dX) = true := decide_eq_true c63; clear c63; by_cases c64 : ni < nC
                ·rw [if_pos c64] at H; have aeW : decide (ni < nC) = true := decide_eq_true c64; clear c64; obtain rfl := Option.some.inj H; have gL : 0 ≤ (dX : Int) := of_decide_eq_true (by with_reducible assumption); have gK : dX < (jm.length : Int) := of_decide_eq_true (by with_reducible assumption); obtain ⟨pI, e1162, mW⟩ := Kd.jc (Kd.dV pQ.out).2.2 dX gL gK; cases e1162; replace gL := eq_true gL; replace gK := eq_true gK; go_wp2
                 go_ret
                 exact ⟨by rfl, by exact HB.out⟩
                ·rw [if_neg c64] at H; have aeW : decide (ni < nC) = false := decide_eq_false c64; clear c64; have H' := aa.mk H; clear H; have gL : 0 ≤ (dX : Int) := of_decide_eq_true (by with_reducible assumption); have gK : dX < (jm.length : Int) := of_decide_eq_true (by with_reducible assumption); obtain ⟨pI, e1162, mW⟩ := Kd.jc (Kd.dV pQ.out).2.2 dX gL gK; cases e1162; replace gL := eq_true gL; replace gK := eq_true gK; go_wp2; go_roundg k3; (case measure => have := HJ5.out; have := HK2.out; have := HK3.out; omega); case rel => exact ⟨(wrap64 (dX + 1)), (by rfl), H', ⟨by have := HJ5.out; have := HK2.out; have := HK3.out; omega⟩, ⟨by (with_reducible skip); exact pQ.out⟩, ⟨by (with_reducible skip); exact iw.out⟩, ⟨by (with_reducible skip); exact iq.out⟩, ⟨by (with_reducible skip); exact iE.out⟩, ⟨by (with_reducible skip); exact ik.out⟩, ⟨by (with_reducible skip); exact kQ.out⟩, ⟨by exact HB.out⟩⟩
               ·rw [if_neg c63] at H; have UY : decide (ma < dX) = false := decide_eq_false c63; clear c63; have H' := aa.mk H; clear H; have gL : 0 ≤ (dX : Int) := of_decide_eq_true (by with_reducible assumption); have gK : dX < (jm.length : Int) := of_decide_eq_true (by with_reducible assumption); obtain ⟨pI, e1162, mW⟩ := Kd.jc (Kd.dV pQ.out).2.2 dX gL gK; cases e1162; replace gL := eq_true gL; replace gK := eq_true gK; go_wp2; go_roundg k3; (case measure => have := HJ5.out; have := HK2.out; have := HK3.out; omega); case rel => exact ⟨(wrap64 (dX + 1)), (by rfl), H', ⟨by have := HJ5.out; have := HK2.out; have := HK3.out; omega⟩, ⟨by (with_reducible skip); exact pQ.out⟩, ⟨by (with_reducible skip); exact iw.out⟩, ⟨by (with_reducible skip); exact iq.out⟩, ⟨by (with_reducible skip); exact iE.out⟩, ⟨by (with_reducible skip); exact ik.out⟩, ⟨by (with_reducible skip); exact kQ.out⟩, ⟨by exact HB.out⟩⟩
              ·rw [if_neg c62] at H; have agE : (ni == nC) = false := beq_eq_false_iff_ne.mpr c62; have agy : (ni != nC) = true := bne_iff_ne.mpr c62; obtain rfl := Option.some.inj H; have gL : 0 ≤ (dX : Int) := of_decide_eq_true (by with_reducible assumption); have gK : dX < (jm.length : Int) := of_decide_eq_true (by with_reducible assumption); obtain ⟨pI, e1162, mW⟩ := Kd.jc (Kd.dV pQ.out).2.2 dX gL gK; cases e1162; replace gL := eq_true gL; replace gK := eq_true gK; go_wp2
               go_ret
               exact ⟨by rfl, by exact HB.out⟩
             ·rw [if_neg c61] at H; have aeN : (dX == ma) = false := beq_eq_false_iff_ne.mpr c61; have af5 : (dX != ma) = true := bne_iff_ne.mpr c61; by_cases c65 : dX > ma
              ·rw [if_pos c65] at H; have agI : decide (ma < dX) = true := decide_eq_true c65; clear c65; by_cases c66 : ni < nC
               ·rw [if_pos c66] at H; have ae2 : decide (ni < nC) = true := decide_eq_true c66; clear c66; obtain rfl := Option.some.inj H; have gL : 0 ≤ (dX : Int) := of_decide_eq_true (by with_reducible assumption); have gK : dX < (jm.length : Int) := of_decide_eq_true (by with_reducible assumption); obtain ⟨pI, e1162, mW⟩ := Kd.jc (Kd.dV pQ.out).2.2 dX gL gK; cases e1162; replace gL := eq_true gL; replace gK := eq_true gK; go_wp2
                go_ret
                exact ⟨by rfl, by exact HB.out⟩
               ·rw [if_neg c66] at H; have ae2 : decide (ni < nC) = false := decide_eq_false c66; clear c66; have H' := aa.mk H; clear H; have gL : 0 ≤ (dX : Int) := of_decide_eq_true (by with_reducible assumption); have gK : dX < (jm.length : Int) := of_decide_eq_true (by with_reducible assumption); obtain ⟨pI, e1162, mW⟩ := Kd.jc (Kd.dV pQ.out).2.2 dX gL gK; cases e1162; replace gL := eq_true gL; replace gK := eq_true gK; go_wp2; go_roundg k3; (case measure => have := HJ5.out; have := HK2.out; have := HK3.out; omega); case rel => exact ⟨(wrap64 (dX + 1)), (by rfl), H', ⟨by have := HJ5.out; have := HK2.out; have := HK3.out; omega⟩, ⟨by (with_reducible skip); exact pQ.out⟩, ⟨by (with_reducible skip); exact iw.out⟩, ⟨by (with_reducible skip); exact iq.out⟩, ⟨by (with_reducible skip); exact iE.out⟩, ⟨by (with_reducible skip); exact ik.out⟩, ⟨by (with_reducible skip); exact kQ.out⟩, ⟨by exact HB.out⟩⟩
              ·rw [if_neg c65] at H; have agI : decide (ma < dX) = false := decide_eq_false c65; clear c65; have H' := aa.mk H; clear H; have gL : 0 ≤ (dX : Int) := of_decide_eq_true (by with_reducible assumption); have gK : dX < (jm.length : Int) := of_decide_eq_true (by with_reducible assumption); obtain ⟨pI, e1162, mW⟩ := Kd.jc (Kd.dV pQ.out).2.2 dX gL gK; cases e1162; replace gL := eq_true gL; replace gK := eq_true gK; go_wp2; go_roundg k3; (case measure => have := HJ5.out; have := HK2.out; have := HK3.out; omega); case rel => exact ⟨(wrap64 (dX + 1)), (by rfl), H', ⟨by have := HJ5.out; have := HK2.out; have := HK3.out; omega⟩, ⟨by (with_reducible skip); exact pQ.out⟩, ⟨by (with_reducible skip); exact iw.out⟩, ⟨by (with_reducible skip); exact iq.out⟩, ⟨by (with_reducible skip); exact iE.out⟩, ⟨by (with_reducible skip); exact ik.out⟩, ⟨by (with_reducible skip); exact kQ.out⟩, ⟨by exact HB.out⟩⟩
          ·rw [if_neg c42] at H; exact absurd H (by simp)
         ·rw [if_neg c41] at H; exact absurd H (by simp)
      ·rw [if_neg c39] at H; have OD : decide (dX < (jm.length : Int)) = false := decide_eq_false c39; clear c39; replace H := Option.bind_eq_some_iff.mp H; obtain ⟨SY, adf, H⟩ := H; have A67 := aa.mk adf; clear adf; obtain rfl := Option.some.inj H; obtain ⟨aoS, aoi, akp⟩ := Kd.fZ pQ.out; subst akp; go_wp2_with (((with_reducible refine bR (f := 14) rfl ?_); refine fJ (some 116) rfl rfl Try.func14 (by kernel_rfl) rfl #[] rfl (by (simp only [List.map_toArray, List.map_cons, List.map_nil]); done) ?_; (with_reducible refine (fG.calls k2  SY _ A67.out).mono ?_); rintro e w69 ⟨rfl, hb⟩; refine ⟨_, rfl, ?_⟩; replace pQ := aa.mk (Kd.fE (rU pQ.out) hb); replace iw := aa.mk (Kd.gz (nU iw.out) hb); replace iq := aa.mk (Kd.gz (nU iq.out) hb); replace iE := aa.mk (Kd.fE (rU iE.out) hb); replace ik := aa.mk (aG (bU ik.out) hb); replace kQ := aa.mk (aG (bU kQ.out) hb); replace HB := aa.mk (aM (by exact HB.out) hb); (clear hb)))
       go_ret
       exact ⟨by rfl, by exact HB.out⟩
def ai.Pure : Prop := ∀ (l0 : List Int), l0.length ≤ maxLen → l0.length * 8 ≤ 140737488351232 → (∀ x ∈ l0, (Lit.int .i64 x).wf = true) → ∃ k, ai.f k l0 = some true
theorem ai.walk (P : ai.Pure) (a0 : Option Addr) (len0 cap0 : Nat) (z0 : List Int) (w : World) (w0 : (a0 = none ∧ len0 = 0 ∧ cap0 = 0 ∧ z0 = []) ∨ ∃ x, a0 = some x ∧ len0 ≤ cap0 ∧ cap0 ≤ maxLen ∧ z0.length = cap0 ∧ (∀ i, i < z0.length → w.cell? (x.add i) = some (.int .i64 (z0.getD i 0))) ∧ ∀ n ∈ z0, (Lit.int .i64 n).wf = true) (y0 : len0 * 8 ≤ 140737488351232) :
 Calls Try.prog 12 #[.slice a0 len0 cap0] w fun e w' => e = .returned (.bool true) ∧ Below w.heap.size w w' := by
 obtain ⟨l0, rfl, hr0, hm0, hw0, hc0⟩ := jC.abn w0; obtain ⟨k, h⟩ := P l0 hm0 y0 hw0; refine (ai.calls k _ _ l0 true rfl w (Kd.Nc (d := (0 : Int)) (h1 := fun _ => rfl) hr0) hc0 h).mono ?_; rintro e w' ⟨rfl, hd⟩; exact ⟨rfl, hd⟩
end Go.Proofs.Ytihedeofkhapiaa.Pr
end
section
namespace Go.Proofs.Ytihedeofkhapiaa.Pr
open Go.RowKit Go.Proofs.YtihedeofkhapiaaW.PrintWords Go.Proofs.YtihedeofkhapiaaW.PrintLast Go.Proofs.YtihedeofkhapiaaW.PrintMore
theorem Qj {gs gl a1 a2 a3 : Int} {l0 : List S66} {l4 : List (List S27)} {i x : Nat} {k : Nat} (hh : BN gs gl a1 a2 a3 l0 l4 i x k = true) : ∀ K, k < K → qH gs gl a1 a2 a3 l0 l4 i x K (av (ah l0 (x : Int)).f1 (k : Int)).f0 = true := by
 intro K
 induction K with
 | zero => intro h; omega
 | succ K ih =>
  intro h; rw [qH]; by_cases he : k = K
  ·subst he; rw [hh]; simp
  ·rw [ih (by omega)]; simp
theorem Ik {a1 a2 a3 : Int} {r : xD} (hg : lu a1 a2 a3 r) (ht : Dc r) (h2 : a2 ≤ 8) (h3 : a3 ≤ 8) : ∃ x : Nat, (x : Int) = r.2.2.2.2.2.1 ∧ x < r.1.length ∧ tL r.1 r.2.1 r.2.2.1 r.2.2.2.2.1 x ≤ r.2.2.2.1 ∧
 ∀ i, i < r.2.2.2.2.1.length → ∃ k, k < (ah r.1 (x : Int)).f1.length ∧ BN (-1) 0 r.2.1 r.2.2.1 r.2.2.2.1 r.1 r.2.2.2.2.1 i x k = true ∧ ∃ cs : List Int, cs.length = r.2.2.2.2.1.length ∧ r.2.2.2.2.2.2.1 = strOfNums cs ∧ (av (ah r.1 (x : Int)).f1 (k : Int)).f0 = cs.getD i 0 := by
 obtain ⟨hs, w, c, t, sq, cut, txt, vis, a, b⟩ := r; obtain ⟨⟨g1, g2, g3⟩, g4, g5, g6, g7, g8, g9⟩ := hg; obtain ⟨t1, t2, ms, cs, ⟨t3, t3c, t4⟩, t5, t6, t7⟩ := ht; simp only [] at g1 g2 g3 g4 g5 g6 g7 g8 g9 t1 t2 t3 t3c t4 t5 t6 ⊢; obtain ⟨x, rfl⟩ := Int.eq_ofNat_of_zero_le t1; have hxl : x < hs.length := by omega
 have hgood := g3 (ah hs (x : Int)) (by
  rw [K6, List.getD_eq_getElem?_getD, List.getElem?_eq_getElem hxl]
  exact List.getElem_mem _)
 obtain ⟨_, _, _, hasc, hs0, hs8⟩ := hgood; (have hs8' : (ah hs (x : Int)).f1.length ≤ 8 := by omega); have hn8 : sq.length ≤ 8 := by omega
 have hrd : ∀ i (hi : i < sq.length), cO sq (i : Int) = sq[i] := fun i hi => by
  rw [XQ, List.getD_eq_getElem?_getD, List.getElem?_eq_getElem hi]; rfl
 have hget := qO w c sq (ah hs (x : Int)).f1 hs8' sq.length hn8
 have hnn : ∀ i k, i < sq.length → k < (ah hs (x : Int)).f1.length → 0 ≤ (eQ w c sq (ah hs (x : Int)).f1 sq.length).getD (i * 8 + k) 0 := fun i k hi hk => by
  rw [hget i k hi hk, hrd i hi]; obtain ⟨k', v, _, hv, hx, _⟩ := t4 i hi; exact (UW w c hasc hk hv hx).1
 obtain ⟨e1, e2⟩ := PD (eQ w c sq (ah hs (x : Int)).f1 sq.length) (ah hs (x : Int)).f1 sq.length hn8 hnn
 have hcell : ∀ i (hi : i < sq.length), ∃ k, k < (ah hs (x : Int)).f1.length ∧ 0 ≤ (eQ w c sq (ah hs (x : Int)).f1 sq.length).getD (i * 8 + k) 0 ∧ (eQ w c sq (ah hs (x : Int)).f1 sq.length).getD (i * 8 + k) 0 ≤ ms.getD i 0 ∧ (eQ w c sq (ah hs (x : Int)).f1 sq.length).getD (i * 8 + k) 0 < 1048576 ∧ (av (ah hs (x : Int)).f1 (k : Int)).f0 = cs.getD i 0 := fun i hi => by
  obtain ⟨k, v, hk, hv, hx, hl, hm, hlm, hlc⟩ := t4 i hi; have hc := Qx hasc hk hv hx hl hm; refine ⟨k, hk, ?_⟩; rw [hget i k hi hk, hrd i hi]; exact ⟨hc.1, by omega, hc.2.2, by rw [Gg]; exact hlc⟩
 have hE : ∀ i, i < sq.length → gV (-1) 0 (eQ w c sq (ah hs (x : Int)).f1 sq.length) i (ah hs (x : Int)).f1 (ah hs (x : Int)).f1.length ≤ ms.getD i 0 := fun i hi => by
  obtain ⟨k, hk, _, h, _, _⟩ := hcell i hi; exact Int.le_trans (Zm _ i _ _ k hk) h
 (have hms : sO (fun j => ms.getD j 0) sq.length = ms.sum := by rw [← t3]; exact GA ms); (have hEb := fun i (hi : i < sq.length) => zb (eQ w c sq (ah hs (x : Int)).f1 sq.length) i (ah hs (x : Int)).f1 (ah hs (x : Int)).f1.length (fun k hk => hnn i k hi hk)); have hSb := wG (f := fun i => gV (-1) 0 (eQ w c sq (ah hs (x : Int)).f1 sq.length) i (ah hs (x : Int)).f1 (ah hs (x : Int)).f1.length) sq.length hn8 hEb; refine ⟨x, rfl, hxl, ?_, fun i hi => ?_⟩
 ·rw [tL, fu, e1]; have := Ju (g := fun j => ms.getD j 0) sq.length hE; omega
 ·obtain ⟨k, hk, h0, h1, h4, hlc⟩ := hcell i hi; refine ⟨k, hk, ?_, cs, t3c, t6, hlc⟩; have hd := Il (g := fun j => ms.getD j 0) sq.length hE i hi; have hEi := hEb i hi; (have hm : wh (-1) 0 (i : Int) (av (ah hs (x : Int)).f1 (k : Int)) = true := by rw [wh, if_neg (by omega)]); (try simp only [] at hd hSb); have hu : BN (-1) 0 w c t hs sq i x k = (wh (-1) 0 (i : Int) (av (ah hs (x : Int)).f1 (k : Int)) && decide ((eQ w c sq (ah hs (x : Int)).f1 sq.length).getD (i * 8 + k) 0 < 1048576) && decide (wrap64 (wrap64 ((gN (-1) 0 (eQ w c sq (ah hs (x : Int)).f1 sq.length) (ah hs (x : Int)).f1 sq.length).2 - (gN (-1) 0 (eQ w c sq (ah hs (x : Int)).f1 sq.length) (ah hs (x : Int)).f1 sq.length).1.getD i 0) + (eQ w c sq (ah hs (x : Int)).f1 sq.length).getD (i * 8 + k) 0) ≤ t)) := rfl
  have hle : wrap64 (wrap64 ((gN (-1) 0 (eQ w c sq (ah hs (x : Int)).f1 sq.length) (ah hs (x : Int)).f1 sq.length).2 - (gN (-1) 0 (eQ w c sq (ah hs (x : Int)).f1 sq.length) (ah hs (x : Int)).f1 sq.length).1.getD i 0) + (eQ w c sq (ah hs (x : Int)).f1 sq.length).getD (i * 8 + k) 0) ≤ t := by
   rw [e1, e2 i hi, fB (x := _ - _) (by omega) (by omega), fB (by omega) (by omega)]; omega
  rw [hu, hm, decide_eq_true h4, decide_eq_true hle]; rfl
theorem Gy {a1 a2 a3 : Int} {r : xD} (hg : lu a1 a2 a3 r) (ht : Dc r) (h2 : a2 ≤ 8) (h3 : a3 ≤ 8) : ∀ i, i < r.2.2.2.2.1.length → ∃ cs : List Int, cs.length = r.2.2.2.2.1.length ∧ r.2.2.2.2.2.2.1 = strOfNums cs ∧ cs.getD i 0 ∈ fI (-1) 0 r.2.1 r.2.2.1 r.2.2.2.1 r.1 r.2.2.2.2.1 i := by
 intro i hi; obtain ⟨x, _, hx, _, hf⟩ := Ik hg ht h2 h3; obtain ⟨k, hk, hh, cs, hcs, htx, hkc⟩ := hf i hi
 have hgood := hg.1.2.2 (ah r.1 (x : Int)) (by
  rw [K6, List.getD_eq_getElem?_getD, List.getElem?_eq_getElem hx]
  exact List.getElem_mem _)
 have hmem : av (ah r.1 (x : Int)).f1 (k : Int) ∈ (ah r.1 (x : Int)).f1 := by
  rw [Gg, List.getD_eq_getElem?_getD, List.getElem?_eq_getElem hk]; exact List.getElem_mem _
 have hb := hgood.2.2.2.1.1 _ hmem
 have hin : (av (ah r.1 (x : Int)).f1 (k : Int)).f0 ∈ fI (-1) 0 r.2.1 r.2.2.1 r.2.2.2.1 r.1 r.2.2.2.2.1 i := by
  rw [fI, List.mem_filter]; refine ⟨List.mem_map.2 ⟨(av (ah r.1 (x : Int)).f1 (k : Int)).f0.toNat, List.mem_range.2 (by omega), by simp only [Int.ofNat_eq_natCast]; omega⟩, ?_⟩; rw [ou, List.any_eq_true]; exact ⟨⟨x, hx⟩, List.mem_finRange _, Qj hh _ hk⟩
 rw [hkc] at hin; exact ⟨cs, hcs, htx, hin⟩
theorem VP {a1 a2 a3 : Int} {r : xD} (hg : lu a1 a2 a3 r) (ht : Dc r) (h2 : a2 ≤ 8) (h3 : a3 ≤ 8) : ∀ i, i < r.2.2.2.2.1.length → fI (-1) 0 r.2.1 r.2.2.1 r.2.2.2.1 r.1 r.2.2.2.2.1 i ≠ [] := by
 intro i hi he; obtain ⟨cs, _, _, h⟩ := Gy hg ht h2 h3 i hi; rw [he] at h; exact absurd h List.not_mem_nil
def Sm5 (q : List S27) : Prop := ∀ x ∈ q, ∃ a b : Nat, a < 32 ∧ b < 32 ∧ x = ⟨(a : Int), (b : Int)⟩
theorem DI.sm {v : Nat} {q : List S27} (h : ∀ x ∈ q, DI v x) : Sm5 q := fun x hx => by
 obtain ⟨a, ha, rfl⟩ := h x hx; exact ⟨a, v &&& a, ha, Nat.lt_of_le_of_lt Nat.and_le_right ha, rfl⟩
theorem Na {q : List S27} (h : Sm5 q) : ∃ g v : Nat, g < 32 ∧ v < 32 ∧ EU q = ((g : Int), (v : Int)) := by
 have key : ∀ (r : List S27) (a b : Nat), a < 32 → b < 32 → Sm5 r → ∃ g v : Nat, g < 32 ∧ v < 32 ∧ r.foldl seenStep ((a : Int), (b : Int)) = ((g : Int), (v : Int)) := by
  intro r
  induction r with
  | nil => exact fun a b ha hb _ => ⟨a, b, ha, hb, rfl⟩
  | cons x r ih =>
   intro a b ha hb hx; obtain ⟨c, d, hc, hd, rfl⟩ := hx x List.mem_cons_self
   have e : seenStep ((a : Int), (b : Int)) ⟨(c : Int), (d : Int)⟩ = (((a ||| c : Nat) : Int), ((b ||| d : Nat) : Int)) := by
    simp only [seenStep]; rw [Wo ⟨a, ha⟩ ⟨c, hc⟩, Wo ⟨b, hb⟩ ⟨d, hd⟩]
   rw [List.foldl_cons, e]; exact ih _ _ (RO ⟨a, ha⟩ ⟨c, hc⟩) (RO ⟨b, hb⟩ ⟨d, hd⟩) (fun y hy => hx y (List.mem_cons_of_mem _ hy))
 exact key q 0 0 (by omega) (by omega) h
theorem QB (c : Prop) [Decidable c] (m n : Nat) (hm : m ≤ 5) (hn : n ≤ 5) : 0 ≤ (if c then wrap64 ((m : Int) + (n : Int)) else lT) ∧ (if c then wrap64 ((m : Int) + (n : Int)) else lT) ≤ 1048576 := by
 split
 ·rw [fB (by omega) (by omega)]; omega
 ·exact ⟨by decide, by decide⟩
theorem Fz (W S : Int) {q : List S27} (hq : Sm5 q) {s : S86} (h0 : 0 ≤ s.f1) (h1 : s.f1 ≤ 31) : 0 ≤ cellP W S (ky q) s ∧ cellP W S (ky q) s ≤ 1048576 := by
 obtain ⟨g, v, hg, hv, hA⟩ := Na hq; obtain ⟨z, hz⟩ := Int.eq_ofNat_of_zero_le h0; (have hz32 : z < 32 := by omega); have b1 : z &&& g < 32 := Nat.lt_of_le_of_lt Nat.and_le_left hz32; have b3 : (z &&& g) &&& (31 ^^^ v) < 32 := Nat.lt_of_le_of_lt Nat.and_le_left b1; have b4 : v &&& (31 ^^^ z) < 32 := Nat.lt_of_le_of_lt Nat.and_le_left hv; have p1 : pop ((z &&& g) &&& (31 ^^^ v)) ≤ 5 := CB ⟨_, b3⟩; have p2 : pop (v &&& (31 ^^^ z)) ≤ 5 := CB ⟨_, b4⟩
 have e1 : rV (jE (Go.bits .and .i64 s.f1 (g : Int)) (v : Int)) = (pop ((z &&& g) &&& (31 ^^^ v)) : Int) := by
  rw [hz, He ⟨z, hz32⟩ ⟨g, hg⟩, Hm ⟨z &&& g, b1⟩ ⟨v, hv⟩, Cy ⟨_, b3⟩]
 have e2 : rV (jE (v : Int) s.f1) = (pop (v &&& (31 ^^^ z)) : Int) := by
  rw [hz, Hm ⟨v, hv⟩ ⟨z, hz32⟩, Cy ⟨_, b4⟩]
 have hc : cellP W S (ky q) s = if (ky q).2.2 = true ∧ rV (jE (Go.bits .and .i64 s.f1 (g : Int)) (v : Int)) ≤ W ∧ rV (jE (v : Int) s.f1) ≤ S then wrap64 (rV (jE (Go.bits .and .i64 s.f1 (g : Int)) (v : Int)) + rV (jE (v : Int) s.f1)) else lT := by
  (have h1 : (ky q).1 = (g : Int) := by rw [ky, hA]); (have h2 : (ky q).2.1 = (v : Int) := by rw [ky, hA]); rw [cellP, h1, h2]
 rw [hc, e1, e2]; exact QB _ _ _ p1 p2
def wS (W S : Int) (q : Int × Int × Bool) (sh : List S86) : Nat → Int
 | 0 => lT
 | k + 1 => mn (wS W S q sh k) (cellP W S q (av sh (k : Int)))
def vB (W S : Int) (sh : List S86) (q : List S27) : Int := wS W S (ky q) sh sh.length
def ng (sh : List S86) : Prop := Asc sh ∧ sh.length ≤ 8
def oh (sq : List (List S27)) : Prop := sq.length ≤ 8 ∧ ∀ q ∈ sq, Sm5 q
theorem JD (i : Nat) (s : S86) : wh (-1) 0 (i : Int) s = true := by rw [wh, if_neg (by omega)]
theorem rZ (W S : Int) {sh : List S86} (hsh : ng sh) {q : List S27} (hq : Sm5 q) {k : Nat} (hk : k < sh.length) : 0 ≤ cellP W S (ky q) (av sh (k : Int)) ∧ cellP W S (ky q) (av sh (k : Int)) ≤ 1048576 := by
 have hmem : av sh (k : Int) ∈ sh := by
  rw [Gg, List.getD_eq_getElem?_getD, List.getElem?_eq_getElem hk]; exact List.getElem_mem _
 have := hsh.1.1 _ hmem; exact Fz W S hq (by omega) (by omega)
theorem Dn (W S : Int) {sh : List S86} (hsh : ng sh) {q : List S27} (hq : Sm5 q) : ∀ K, K ≤ sh.length → 0 ≤ wS W S (ky q) sh K ∧ wS W S (ky q) sh K ≤ 1048576
 | 0, _ => ⟨by simp [wS, lT], by simp [wS, lT]⟩
 | K + 1, h => by
  have h1 := Dn W S hsh hq K (by omega); have h2 := rZ W S hsh hq (k := K) (by omega); rw [wS]; unfold mn; split <;> omega
theorem wD (W S : Int) {sh : List S86} (hsh : ng sh) {q : List S27} (hq : Sm5 q) : 0 ≤ vB W S sh q ∧ vB W S sh q ≤ 1048576 := Dn W S hsh hq _ (Nat.le_refl _)
theorem WE (W S : Int) (q : Int × Int × Bool) (sh : List S86) : ∀ K k, k < K → wS W S q sh K ≤ cellP W S q (av sh (k : Int))
 | 0, _, h => by omega
 | K + 1, k, h => by
  rw [wS]; unfold mn; by_cases he : k = K
  ·subst he; split <;> omega
  ·have := WE W S q sh K k (by omega); split <;> omega
theorem Rq (W S : Int) (q : Int × Int × Bool) (sh : List S86) : ∀ K, wS W S q sh K = 1048576 ∨ ∃ k, k < K ∧ wS W S q sh K = cellP W S q (av sh (k : Int))
 | 0 => .inl rfl
 | K + 1 => by
  rw [wS]; unfold mn; split
  ·exact .inr ⟨K, by omega, rfl⟩
  ·rcases Rq W S q sh K with h | ⟨k, hk, h⟩
   ·exact .inl h
   ·exact .inr ⟨k, by omega, h⟩
theorem Du (W S : Int) (sq : List (List S27)) (hn : sq.length ≤ 8) (sh : List S86) (hsh : sh.length ≤ 8) (i : Nat) (hi : i < sq.length) : ∀ K, K ≤ sh.length → gV (-1) 0 (eQ W S sq sh sq.length) i sh K = wS W S (ky (cO sq (i : Int))) sh K := by
 intro K
 induction K with
 | zero => intro _; rfl
 | succ K ih =>
  intro h; rw [gV, if_pos (JD _ _), ih (by omega), wS, qO W S sq sh hsh sq.length hn i K hi (by omega)]
theorem wI (sq : List (List S27)) (i : Nat) (hi : i < sq.length) : cO sq (i : Int) = sq[i] := by
 rw [XQ, List.getD_eq_getElem?_getD, List.getElem?_eq_getElem hi]; rfl
theorem Ar {f g : Nat → Int} : ∀ n, (∀ i, i < n → f i = g i) → sO f n = sO g n
 | 0, _ => rfl
 | n + 1, h => by simp only [sO]; rw [Ar n (fun i hi => h i (by omega)), h n (by omega)]
theorem za (W S : Int) {sq : List (List S27)} (hq : oh sq) {sh : List S86} (hsh : ng sh) :
 (gN (-1) 0 (eQ W S sq sh sq.length) sh sq.length).2 = (sq.map (vB W S sh)).sum ∧ ∀ i (h : i < sq.length), (gN (-1) 0 (eQ W S sq sh sq.length) sh sq.length).1.getD i 0 = vB W S sh sq[i] := by
 have hnn : ∀ i k, i < sq.length → k < sh.length → 0 ≤ (eQ W S sq sh sq.length).getD (i * 8 + k) 0 := fun i k hi hk => by
  rw [qO W S sq sh hsh.2 sq.length hq.1 i k hi hk, wI sq i hi]; exact (rZ W S hsh (hq.2 _ (List.getElem_mem _)) hk).1
 obtain ⟨e1, e2⟩ := PD (eQ W S sq sh sq.length) sh sq.length hq.1 hnn
 have hE : ∀ i (h : i < sq.length), gV (-1) 0 (eQ W S sq sh sq.length) i sh sh.length = vB W S sh sq[i] := fun i h => by
  rw [Du W S sq hq.1 sh hsh.2 i h _ (Nat.le_refl _), wI sq i h]; rfl
 refine ⟨?_, fun i h => by rw [e2 i h, hE i h]⟩; rw [e1, ← GA, List.length_map]; refine Ar _ (fun i h => ?_); rw [hE i h, List.getD_eq_getElem?_getD, List.getElem?_map, List.getElem?_eq_getElem h]; rfl
def yJ (W S : Int) (sq : List (List S27)) (sh : List S86) : Int := (sq.map (vB W S sh)).sum
theorem xZ (W S : Int) (hs : List S66) {sq : List (List S27)} (hq : oh sq) (x : Nat) (hsh : ng (ah hs (x : Int)).f1) : tL hs W S sq x = yJ W S sq (ah hs (x : Int)).f1 := (za W S hq hsh).1
theorem Fj (f : List S27 → Int) : ∀ l : List (List S27), (∀ q ∈ l, 0 ≤ f q ∧ f q ≤ 1048576) → 0 ≤ (l.map f).sum ∧ (l.map f).sum ≤ 1048576 * l.length
 | [], _ => by simp
 | q :: r, h => by
  have h1 := Fj f r (fun y hy => h y (List.mem_cons_of_mem _ hy)); have h2 := h q List.mem_cons_self; rw [List.map_cons, List.sum_cons, List.length_cons]; push_cast; omega
theorem AA (W S : Int) {sq : List (List S27)} (hq : oh sq) {sh : List S86} (hsh : ng sh) : 0 ≤ yJ W S sq sh ∧ yJ W S sq sh ≤ 8388608 := by
 have h := Fj (vB W S sh) sq (fun q hm => wD W S hsh (hq.2 q hm)); have := hq.1; unfold yJ; omega
def adv (W S t : Int) (sq : List (List S27)) (q : List S27) (sh : List S86) (s : S86) : Prop := cellP W S (ky q) s < 1048576 ∧ yJ W S sq sh - vB W S sh q + cellP W S (ky q) s ≤ t
theorem FP (W S t : Int) (hs : List S66) {sq : List (List S27)} (hq : oh sq) (x : Nat) (hsh : ng (ah hs (x : Int)).f1) (i : Nat) (hi : i < sq.length) (k : Nat) (hk : k < (ah hs (x : Int)).f1.length) :
 BN (-1) 0 W S t hs sq i x k = true ↔ adv W S t sq sq[i] (ah hs (x : Int)).f1 (av (ah hs (x : Int)).f1 (k : Int)) := by
 obtain ⟨e1, e2⟩ := za W S hq hsh; have h1 := AA W S hq hsh; have h2 := wD W S hsh (hq.2 _ (List.getElem_mem hi)); have h3 := rZ W S hsh (hq.2 _ (List.getElem_mem hi)) hk; have e3 := qO W S sq (ah hs (x : Int)).f1 hsh.2 sq.length hq.1 i k hi hk; rw [wI sq i hi] at e3; unfold yJ at h1; have hu : BN (-1) 0 W S t hs sq i x k = (wh (-1) 0 (i : Int) (av (ah hs (x : Int)).f1 (k : Int)) && decide ((eQ W S sq (ah hs (x : Int)).f1 sq.length).getD (i * 8 + k) 0 < 1048576) && decide (wrap64 (wrap64 ((gN (-1) 0 (eQ W S sq (ah hs (x : Int)).f1 sq.length) (ah hs (x : Int)).f1 sq.length).2 - (gN (-1) 0 (eQ W S sq (ah hs (x : Int)).f1 sq.length) (ah hs (x : Int)).f1 sq.length).1.getD i 0) + (eQ W S sq (ah hs (x : Int)).f1 sq.length).getD (i * 8 + k) 0) ≤ t)) := rfl; rw [hu, JD, e1, e2 i hi, e3, fB (x := _ - _) (by omega) (by omega), fB (by omega) (by omega)]; simp only [Bool.true_and, Bool.and_eq_true, decide_eq_true_eq]; exact Iff.rfl
theorem vD {gs gl a1 a2 a3 : Int} {l0 : List S66} {l4 : List (List S27)} {i x : Nat} (c : Int) : ∀ K, qH gs gl a1 a2 a3 l0 l4 i x K c = true ↔ ∃ k, k < K ∧ BN gs gl a1 a2 a3 l0 l4 i x k = true ∧ c = (av (ah l0 (x : Int)).f1 (k : Int)).f0
 | 0 => by simp [qH]
 | K + 1 => by
  rw [qH, Bool.or_eq_true, vD c K, Bool.and_eq_true, beq_iff_eq]; constructor
  ·rintro (⟨k, hk, h⟩ | h)
   ·exact ⟨k, by omega, h⟩
   ·exact ⟨K, by omega, h⟩
  ·rintro ⟨k, hk, h⟩; by_cases he : k = K
   ·subst he; exact .inr h
   ·exact .inl ⟨k, by omega, h⟩
def fitsAt (W S t : Int) (hs : List S66) (sq : List (List S27)) (q : List S27) (c : Int) : Prop := ∃ h ∈ hs, ∃ s ∈ h.f1, s.f0 = c ∧ adv W S t sq q h.f1 s
theorem xJ (hs : List S66) (x : Nat) (hx : x < hs.length) : ah hs (x : Int) = hs[x] := by
 rw [K6, List.getD_eq_getElem?_getD, List.getElem?_eq_getElem hx]; rfl
theorem nk (sh : List S86) (k : Nat) (hk : k < sh.length) : av sh (k : Int) = sh[k] := by
 rw [Gg, List.getD_eq_getElem?_getD, List.getElem?_eq_getElem hk]; rfl
theorem uV (W S t : Int) {hs : List S66} (hh : ∀ h ∈ hs, ng h.f1) {sq : List (List S27)} (hq : oh sq) (i : Nat) (hi : i < sq.length) (c : Int) :
 ou (-1) 0 W S t hs sq i (List.finRange hs.length) c = true ↔ fitsAt W S t hs sq sq[i] c := by
 rw [ou, List.any_eq_true]; constructor
 ·rintro ⟨x, _, hx⟩; obtain ⟨k, hk, h1, h2⟩ := (vD c _).1 hx; have e := xJ hs x.1 x.2; have hf := hh _ (List.getElem_mem x.2); rw [← e] at hf; have h3 := (FP W S t hs hq x.1 hf i hi k hk).1 h1; refine ⟨hs[x.1]'x.2, List.getElem_mem _, ?_⟩; rw [← e]; rw [nk _ k hk] at h2 h3; exact ⟨_, List.getElem_mem hk, h2.symm, h3⟩
 ·rintro ⟨h, hm, s, hs', h1, h2⟩; obtain ⟨x, hx, rfl⟩ := List.getElem_of_mem hm; obtain ⟨k, hk, rfl⟩ := List.getElem_of_mem hs'; refine ⟨⟨x, hx⟩, List.mem_finRange _, ?_⟩; have e := xJ hs x hx; have hf := hh _ (List.getElem_mem hx); rw [← e] at hf; (have hk' : k < (ah hs (x : Int)).f1.length := by rw [e]; exact hk); (have e' : av (ah hs (x : Int)).f1 (k : Int) = (hs[x].f1)[k] := by rw [e, nk _ k hk]); refine (vD c _).2 ⟨k, hk', (FP W S t hs hq x hf i hi k hk').2 ?_, ?_⟩
  ·rw [e', e]; exact h2
  ·rw [e']; exact h1.symm
theorem Fu (W S t : Int) {hs : List S66} (hh : ∀ h ∈ hs, ng h.f1) {sq : List (List S27)} (hq : oh sq) (i : Nat) (hi : i < sq.length) (c : Int) :
 c ∈ fI (-1) 0 W S t hs sq i ↔ fitsAt W S t hs sq sq[i] c := by
 rw [fI, List.mem_filter, uV W S t hh hq i hi c]; refine ⟨fun h => h.2, fun h => ⟨?_, h⟩⟩; obtain ⟨h', hm, s, hs', h1, _⟩ := h; have := (hh h' hm).1.1 s hs'; refine List.mem_map.2 ⟨c.toNat, List.mem_range.2 (by omega), ?_⟩; simp only [Int.ofNat_eq_natCast]; omega
theorem acC {W S t W' S' t' : Int} {hs hs' : List S66} (hh : ∀ h ∈ hs, ng h.f1) (hh' : ∀ h ∈ hs', ng h.f1) {sq sq' : List (List S27)} (hq : oh sq) (hq' : oh sq') {i j : Nat} (hi : i < sq.length) (hj : j < sq'.length)
 (h : ∀ c, fitsAt W S t hs sq sq[i] c ↔ fitsAt W' S' t' hs' sq' sq'[j] c) : fI (-1) 0 W S t hs sq i = fI (-1) 0 W' S' t' hs' sq' j := by
 unfold fI; refine List.filter_congr (fun c _ => ?_); rw [Bool.eq_iff_iff, uV W S t hh hq i hi c, uV W' S' t' hh' hq' j hj c]; exact h c
theorem GD (W S t : Int) {hs : List S66} (hh : ∀ h ∈ hs, ng h.f1) {sq : List (List S27)} (hq : oh sq) (n : Int) :
 n ∈ qU hs W S t sq (List.finRange hs.length) ↔ ∃ x, ∃ h : x < hs.length, n = (x : Int) ∧ yJ W S sq hs[x].f1 ≤ t := by
 have key : ∀ x (h : x < hs.length), tL hs W S sq x = yJ W S sq hs[x].f1 := fun x h => by
  have e := xJ hs x h; have hf := hh _ (List.getElem_mem h); rw [← e] at hf; rw [xZ W S hs hq x hf, e]
 rw [qU, List.mem_map]; constructor
 ·rintro ⟨x, hx, rfl⟩; refine ⟨x.1, x.2, rfl, ?_⟩; rw [← key x.1 x.2]; exact of_decide_eq_true (List.mem_filter.1 hx).2
 ·rintro ⟨x, h, rfl, h1⟩; refine ⟨⟨x, h⟩, List.mem_filter.2 ⟨List.mem_finRange _, decide_eq_true ?_⟩, rfl⟩; simp only []; rw [key x h]; exact h1
theorem Dh {α : Type} (t : α → Int) (T : Int) : ∀ (l : List α) (b : Int), l.foldl (fun b x => mn b (t x)) b ≤ T ↔ b ≤ T ∨ ∃ x ∈ l, t x ≤ T
 | [], b => by simp
 | x :: r, b => by
  rw [List.foldl_cons, Dh t T r]; (have hm : mn b (t x) ≤ T ↔ b ≤ T ∨ t x ≤ T := by unfold mn; split <;> omega); rw [hm]; simp only [List.mem_cons, exists_eq_or_imp, or_assoc]
theorem LW (W S : Int) {hs : List S66} (hh : ∀ h ∈ hs, ng h.f1) {sq : List (List S27)} (hq : oh sq) (T : Int) :
 sP hs W S sq (List.finRange hs.length) ≤ T ↔ 1048576 ≤ T ∨ ∃ h ∈ hs, yJ W S sq h.f1 ≤ T := by
 have key : ∀ x (h : x < hs.length), tL hs W S sq x = yJ W S sq hs[x].f1 := fun x h => by
  have e := xJ hs x h; have hf := hh _ (List.getElem_mem h); rw [← e] at hf; rw [xZ W S hs hq x hf, e]
 rw [sP, Dh]; refine or_congr Iff.rfl ⟨?_, ?_⟩
 ·rintro ⟨x, _, h⟩; exact ⟨_, List.getElem_mem x.2, by rw [← key x.1 x.2]; exact h⟩
 ·rintro ⟨h, hm, h1⟩; obtain ⟨x, hx, rfl⟩ := List.getElem_of_mem hm; exact ⟨⟨x, hx⟩, List.mem_finRange _, by rw [key x hx]; exact h1⟩
theorem Ev.call {α β : Type} {o : Option α} {f : Nat → α → Option β} {a : α} {r : β} (h : o = some a) (k : Ev (fun n => f n a) r) : Ev (fun n => o.bind (f n)) r := by
 subst h; exact k
theorem Ev.pos {α : Type} {c : Prop} [Decidable c] {g f : Nat → Option α} {r : α} (h : c) (k : Ev f r) : Ev (fun n => if c then f n else g n) r :=
 Ev.congr (fun n => if_pos h) k
theorem Ev.neg {α : Type} {c : Prop} [Decidable c] {g f : Nat → Option α} {r : α} (h : ¬ c) (k : Ev g r) : Ev (fun n => if c then f n else g n) r :=
 Ev.congr (fun n => if_neg h) k
theorem rdO (T : List ByteArray) (i : Nat) (h : i < T.length) : jF ByteArray.empty T (i : Int) = T[i] := by
 simp [jF, List.getD_eq_getElem?_getD, h]
theorem M3 (L : List (List Int)) (hL : L.length ≤ 100) : ∀ (d i : Nat) (o : List ByteArray), i + d = L.length → o.length = i →
 Ev (fun k => bV.l0 k o L (L.length : Int) (i : Int)) (o ++ (L.drop i).map strOfNums, 0) := by
 intro d
 induction d with
 | zero =>
  intro i o hi ho; refine Ev.step (f := fun _ => some (o, 0)) (fun k => by rw [bV.l0, if_neg (by omega)]) ?_; rw [List.drop_eq_nil_of_le (by omega), List.map_nil, List.append_nil]; exact Ev.now _
 | succ d ih =>
  intro i o hi ho; (have e : kN L (i : Int) = L[i] := by simp [kN, List.getD_eq_getElem?_getD, show i < L.length by omega]); (have hw : wrap64 ((i : Int) + 1) = ((i + 1 : Nat) : Int) := by rw [fB (by omega) (by omega)]; omega); have q := ih (i + 1) (o ++ [strOfNums L[i]]) (by omega) (by simp; omega); rw [List.append_assoc] at q; rw [List.drop_eq_getElem_cons (show i < L.length by omega), List.map_cons]; refine Ev.step (fun k => ?_) q; rw [bV.l0, if_pos (by omega), if_pos (by omega), if_pos (by omega), if_pos (by omega), e, hw]
theorem amR (l : List Int) (n : Int) (hl : l.length ≤ 1000) (h : n ∈ l) : Ev (fun k => fq.f k l n) true := by
 have key : ∀ (d i : Nat), i + d = l.length → n ∈ l.drop i → Ev (fun k => fq.l0 k l n (i : Int)) true := by
  intro d
  induction d with
  | zero =>
   intro i hi hm; rw [List.drop_eq_nil_of_le (by omega)] at hm; exact absurd hm List.not_mem_nil
  | succ d ih =>
   intro i hi hm; (have hil : i < l.length := by omega); (have e : rd l (i : Int) = l[i] := by simp [rd, List.getD_eq_getElem?_getD, hil]); (have hw : wrap64 ((i : Int) + 1) = ((i + 1 : Nat) : Int) := by rw [fB (by omega) (by omega)]; omega); by_cases he : l[i] = n
   ·refine Ev.step (f := fun _ => some true) (fun k => ?_) (Ev.now _); rw [fq.l0, if_pos (by omega), if_pos (by omega), e, if_pos he]
   ·rw [List.drop_eq_getElem_cons hil] at hm; have hm' := (List.mem_cons.1 hm).resolve_left (fun q => he q.symm); refine Ev.step (fun k => ?_) (ih (i + 1) (by omega) hm'); rw [fq.l0, if_pos (by omega), if_pos (by omega), e, if_neg he, hw]
 exact Ev.congr (fun k => by rw [fq.f]; rfl) (key l.length 0 (by omega) (by simpa using h))
theorem BF (l : List Int) : (strOfNums l).size = l.length := by simp [strOfNums, ByteArray.size]
theorem Ox {a1 a2 a3 : Int} {r : xD} (hg : lu a1 a2 a3 r) (ht : Dc r) (h2 : a2 ≤ 8) (h3 : a3 ≤ 8) : (∀ h ∈ r.1, ng h.f1) ∧ oh r.2.2.2.2.1 := by
 refine ⟨fun h hm => ?_, ?_, fun q hq => ?_⟩
 ·have := hg.1.2.2 h hm; exact ⟨this.2.2.2.1, by have := this.2.2.2.2.2; omega⟩
 ·have := hg.2.2.2.2.2.1; omega
 ·obtain ⟨_, _, ms, cs, ⟨_, _, hA⟩, _⟩ := ht; obtain ⟨i, hi, rfl⟩ := List.getElem_of_mem hq; obtain ⟨k, v, _, _, hx, _⟩ := hA i hi; exact DI.sm hx
theorem TF {a1 a2 a3 : Int} {r : xD} (hg : lu a1 a2 a3 r) (ht : Dc r) (h2 : a2 ≤ 8) (h3 : a3 ≤ 8) : ∃ x : Nat, ∃ hx : x < r.1.length, (x : Int) = r.2.2.2.2.2.1 ∧ yJ r.2.1 r.2.2.1 r.2.2.2.2.1 (r.1[x]).f1 ≤ r.2.2.2.1 := by
 obtain ⟨x, hxc, hx, htot, _⟩ := Ik hg ht h2 h3; obtain ⟨f1, f2⟩ := Ox hg ht h2 h3; have e := xJ r.1 x hx; have hf := f1 _ (List.getElem_mem hx); rw [← e] at hf; rw [xZ _ _ _ f2 x hf, e] at htot; exact ⟨x, hx, hxc, htot⟩
theorem Ex {hs : List S66} {w c t : Int} {sq : List (List S27)} (hck : oN hs w c t sq = 0) (hfew : ∀ l ∈ eX (-1) 0 w c t hs sq, l.length ≤ 12) (hl : sq.length ≤ 100) {F : List Int} (hfit : iK.f hs w c t sq = some (F, 0)) :
 Ev (fun k => bV.f k hs w c t sq) ((eX (-1) 0 w c t hs sq).map strOfNums, 0) := by
 (have hLl : (eX (-1) 0 w c t hs sq).length = sq.length := by simp [eX]); refine Ev.congr (f := fun k => bV.l0 k [] (eX (-1) 0 w c t hs sq) ((eX (-1) 0 w c t hs sq).length : Int) ((0 : Nat) : Int)) (fun k => ?_) (by simpa using M3 (eX (-1) 0 w c t hs sq) (by omega) (eX (-1) 0 w c t hs sq).length 0 [] (by omega) rfl); rw [bV.f, hfit, Option.bind_some, if_pos rfl, fD.f, if_pos ⟨hck, hfew⟩, Option.bind_some]; rfl
theorem FV {hs : List S66} {w c t : Int} {sq : List (List S27)} (hck : oN hs w c t sq = 0) (hne : qU hs w c t sq (List.finRange hs.length) ≠ []) :
 iK.f hs w c t sq = some (qU hs w c t sq (List.finRange hs.length), 0) := by
 rw [iK.f, EQ, if_pos hck, if_neg hne]
theorem FT {gs gl : Int} {m : List Int} {i : Nat} {sh : List S86} (h : gs ≠ (i : Int)) : ∀ K, gV gs gl m i sh K = gV (-1) 0 m i sh K
 | 0 => rfl
 | K + 1 => by rw [gV, gV, FT h K, JD, wh, if_neg h]
theorem OU {sh : List S86} (h : Asc sh) {k k' : Nat} (hk : k < sh.length) (hk' : k' < sh.length) (e : (sh[k]).f0 = (sh[k']).f0) : k = k' := by
 have hp := List.pairwise_iff_getElem.1 h.2; rcases Nat.lt_trichotomy k k' with hl | he | hl
 ·have := hp k k' hk hk' hl; omega
 ·exact he
 ·have := hp k' k hk' hk hl; omega
theorem QQ (W S : Int) {sq : List (List S27)} (hq : oh sq) {sh : List S86} (hsh : ng sh) {i : Nat} (hi : i < sq.length) {k0 : Nat} (hk0 : k0 < sh.length) :
 ∀ K, K ≤ sh.length → gV (i : Int) (sh[k0]).f0 (eQ W S sq sh sq.length) i sh K = if k0 < K then cellP W S (ky sq[i]) (sh[k0]) else lT := by
 intro K
 induction K with
 | zero => intro _; rw [if_neg (by omega)]; rfl
 | succ K ih =>
  intro hK; (have hKl : K < sh.length := by omega); rw [gV, ih (by omega), wh, if_pos rfl, nk sh K hKl]; by_cases he : K = k0
  ·subst he; have hc := rZ W S hsh (hq.2 _ (List.getElem_mem hi)) hKl; rw [nk sh K hKl] at hc; rw [if_pos (by simp), if_neg (by omega), if_pos (by omega), qO W S sq sh hsh.2 sq.length hq.1 i K hi hKl, wI sq i hi, nk sh K hKl]; unfold mn lT; split <;> omega
  ·have hne : ¬ ((sh[K]).f0 == (sh[k0]).f0) = true := by
    rw [beq_iff_eq]; exact fun e => he (OU hsh.1 hKl hk0 e)
   rw [if_neg hne]; by_cases hl : k0 < K
   ·rw [if_pos hl, if_pos (by omega)]
   ·rw [if_neg hl, if_neg (by omega)]
theorem Sq {gs gl : Int} {m : List Int} {sh : List S86} : ∀ n, n ≤ 8 → (∀ i, i < n → 0 ≤ gV gs gl m i sh sh.length ∧ gV gs gl m i sh sh.length ≤ 1048576) →
 (gN gs gl m sh n).2 = sO (fun i => gV gs gl m i sh sh.length) n ∧ ∀ i, i < n → (gN gs gl m sh n).1.getD i 0 = gV gs gl m i sh sh.length := by
 intro n
 induction n with
 | zero => intro _ _; exact ⟨rfl, fun i hi => by omega⟩
 | succ n ih =>
  intro hn h; obtain ⟨h1, h2⟩ := ih (by omega) (fun i hi => h i (by omega)); have hb := wG (f := fun i => gV gs gl m i sh sh.length) n (by omega) (fun i hi => h i (by omega)); have hb2 := h n (by omega); refine ⟨?_, fun i hi => ?_⟩
  ·rw [gN]; simp only [sO]; rw [h1, fB (by omega) (by omega)]
  ·rw [gN]; simp only []; rw [List.getD_eq_getElem?_getD, List.getElem?_set]; have hl := lg gs gl m sh n; by_cases he : n = i
   ·subst he; rw [if_pos rfl, if_pos (by omega)]; rfl
   ·rw [if_neg he, ← List.getD_eq_getElem?_getD]; exact h2 i (by omega)
theorem L8 (f : Nat → Int) (i : Nat) (v : Int) : ∀ n, sO (fun j => if j = i then v else f j) n = if i < n then sO f n - f i + v else sO f n
 | 0 => rfl
 | n + 1 => by
  simp only [sO]; rw [L8 f i v n]; by_cases h : n = i
  ·subst h; rw [if_pos rfl, if_neg (by omega), if_pos (by omega)]; omega
  ·rw [if_neg h]; by_cases h2 : i < n
   ·rw [if_pos h2, if_pos (by omega)]; omega
   ·rw [if_neg h2, if_neg (by omega)]
theorem Cz (f : List S27 → Int) : ∀ (l : List (List S27)) (i : Nat) (h : i < l.length), ((l.eraseIdx i).map f).sum = (l.map f).sum - f l[i]
 | [], i, h => absurd h (by simp)
 | q :: r, 0, _ => by simp only [List.eraseIdx_zero, List.tail_cons, List.map_cons, List.sum_cons, List.getElem_cons_zero]; omega
 | q :: r, i + 1, h => by
  have := Cz f r i (by simpa using h); simp only [List.eraseIdx_cons_succ, List.map_cons, List.sum_cons, List.getElem_cons_succ, this]; omega
def cellAt (W S : Int) (q : List S27) (s : S86) : Int := cellP W S (ky q) s
theorem M0 (W S : Int) {sq : List (List S27)} (hq : oh sq) {sh : List S86} (hsh : ng sh) {i : Nat} (hi : i < sq.length) {k0 : Nat} (hk0 : k0 < sh.length) :
 (gN (i : Int) (sh[k0]).f0 (eQ W S sq sh sq.length) sh sq.length).2 = yJ W S (sq.eraseIdx i) sh + cellAt W S sq[i] sh[k0] ∧
 ∀ j (h : j < sq.length), j ≠ i → (gN (i : Int) (sh[k0]).f0 (eQ W S sq sh sq.length) sh sq.length).1.getD j 0 = vB W S sh sq[j] := by
 have hE : ∀ j (h : j < sq.length), j ≠ i → gV (i : Int) (sh[k0]).f0 (eQ W S sq sh sq.length) j sh sh.length = vB W S sh sq[j] := fun j h hj => by
  rw [FT (by omega), Du W S sq hq.1 sh hsh.2 j h _ (Nat.le_refl _), wI sq j h]; rfl
 have hI : gV (i : Int) (sh[k0]).f0 (eQ W S sq sh sq.length) i sh sh.length = cellAt W S sq[i] sh[k0] := by
  rw [QQ W S hq hsh hi hk0 _ (Nat.le_refl _), if_pos hk0]; rfl
 have hc := rZ W S hsh (hq.2 _ (List.getElem_mem hi)) hk0; rw [nk sh k0 hk0] at hc
 obtain ⟨e1, e2⟩ := Sq (gs := (i : Int)) (gl := (sh[k0]).f0) (m := eQ W S sq sh sq.length) (sh := sh) sq.length hq.1 (fun j hj => by
  by_cases he : j = i
  ·subst he; rw [hI]; exact hc
  ·rw [hE j hj he]
   exact wD W S hsh (hq.2 _ (List.getElem_mem hj)))
 refine ⟨?_, fun j h hj => by rw [e2 j h, hE j h hj]⟩; have hs := (za W S hq hsh); rw [e1, yJ, Cz _ _ i hi]
 have h1 : sO (fun j => gV (i : Int) (sh[k0]).f0 (eQ W S sq sh sq.length) j sh sh.length) sq.length = sO (fun j => if j = i then cellAt W S sq[i] sh[k0] else (sq.map (vB W S sh)).getD j 0) sq.length := by
  refine Ar _ (fun j hj => ?_); by_cases he : j = i
  ·subst he; rw [if_pos rfl, hI]
  ·rw [if_neg he, hE j hj he, List.getD_eq_getElem?_getD, List.getElem?_map, List.getElem?_eq_getElem hj]; rfl
 have h2 := GA (sq.map (vB W S sh)); rw [List.length_map] at h2; rw [h1, L8, if_pos hi, h2, List.getD_eq_getElem?_getD, List.getElem?_map, List.getElem?_eq_getElem hi]; rfl
theorem Ih (W S t : Int) {h : S66} {sq : List (List S27)} (hq : oh sq) (hsh : ng h.f1) {i : Nat} (hi : i < sq.length) {k0 : Nat} (hk0 : k0 < h.f1.length) {j : Nat} (hj : j < sq.length) (hji : j ≠ i) {k : Nat} (hk : k < h.f1.length) :
 BN (i : Int) (h.f1[k0]).f0 W S t [h] sq j 0 k = true ↔ cellAt W S sq[j] h.f1[k] < 1048576 ∧ yJ W S (sq.eraseIdx i) h.f1 + cellAt W S sq[i] h.f1[k0] - vB W S h.f1 sq[j] + cellAt W S sq[j] h.f1[k] ≤ t := by
 obtain ⟨e1, e2⟩ := M0 W S hq hsh hi hk0; have e2 := e2 j hj hji; have hqe : oh (sq.eraseIdx i) := ⟨Nat.le_trans (List.length_eraseIdx_le ..) hq.1, fun q hm => hq.2 q (List.mem_of_mem_eraseIdx hm)⟩; have h1 := AA W S hqe hsh; have h2 := wD W S hsh (hq.2 _ (List.getElem_mem hj)); have h3 := rZ W S hsh (hq.2 _ (List.getElem_mem hj)) hk; have h4 := rZ W S hsh (hq.2 _ (List.getElem_mem hi)) hk0; have e3 := qO W S sq h.f1 hsh.2 sq.length hq.1 j k hj hk; rw [wI sq j hj, nk _ k hk] at e3; rw [nk _ k hk] at h3; rw [nk _ k0 hk0] at h4; have hc3 : cellAt W S sq[j] h.f1[k] = cellP W S (ky sq[j]) h.f1[k] := rfl; have hc4 : cellAt W S sq[i] h.f1[k0] = cellP W S (ky sq[i]) h.f1[k0] := rfl; rw [← hc3] at h3 e3; rw [← hc4] at h4; have hu : BN (i : Int) (h.f1[k0]).f0 W S t [h] sq j 0 k = (wh (i : Int) (h.f1[k0]).f0 (j : Int) (av h.f1 (k : Int)) && decide ((eQ W S sq h.f1 sq.length).getD (j * 8 + k) 0 < 1048576) && decide (wrap64 (wrap64 ((gN (i : Int) (h.f1[k0]).f0 (eQ W S sq h.f1 sq.length) h.f1 sq.length).2 - (gN (i : Int) (h.f1[k0]).f0 (eQ W S sq h.f1 sq.length) h.f1 sq.length).1.getD j 0) + (eQ W S sq h.f1 sq.length).getD (j * 8 + k) 0) ≤ t)) := rfl; (have hm : wh (i : Int) (h.f1[k0]).f0 (j : Int) (av h.f1 (k : Int)) = true := by rw [wh, if_neg (by omega)]); rw [hu, hm, e1, e2, e3, fB (x := _ - _) (by omega) (by omega), fB (by omega) (by omega)]; simp only [Bool.true_and, Bool.and_eq_true, decide_eq_true_eq]
theorem KT (W S t : Int) {h : S66} {sq : List (List S27)} (hq : oh sq) (hsh : ng h.f1) {i : Nat} (hi : i < sq.length) {k0 : Nat} (hk0 : k0 < h.f1.length) {j : Nat} (hj : j < sq.length) (hji : j ≠ i) {j' : Nat} (hj' : j' < (sq.eraseIdx i).length) (he : (sq.eraseIdx i)[j'] = sq[j]) :
 fI (i : Int) (h.f1[k0]).f0 W S t [h] sq j = fI (-1) 0 W S (t - cellAt W S sq[i] h.f1[k0]) [h] (sq.eraseIdx i) j' := by
 have hqe : oh (sq.eraseIdx i) := ⟨Nat.le_trans (List.length_eraseIdx_le ..) hq.1, fun q hm => hq.2 q (List.mem_of_mem_eraseIdx hm)⟩
 have hh : ∀ x ∈ [h], ng x.f1 := fun x hx => by
  rw [List.mem_singleton] at hx; subst hx; exact hsh
 unfold fI; refine List.filter_congr (fun c _ => ?_); rw [Bool.eq_iff_iff, uV W S _ hh hqe j' hj' c, he]
 have hf : ou (i : Int) (h.f1[k0]).f0 W S t [h] sq j (List.finRange [h].length) c = qH (i : Int) (h.f1[k0]).f0 W S t [h] sq j 0 h.f1.length c := by
  have : List.finRange [h].length = [⟨0, by simp⟩] := rfl; rw [this, ou]; simp only [List.any_cons, List.any_nil, Bool.or_false]; rfl
 rw [hf, vD]; constructor
 ·rintro ⟨k, hk, h1, h2⟩; have h3 := (Ih W S t hq hsh hi hk0 hj hji hk).1 h1; have e : av (ah [h] ((0 : Nat) : Int)).f1 (k : Int) = h.f1[k] := nk h.f1 k hk; rw [e] at h2; refine ⟨h, List.mem_singleton.2 rfl, h.f1[k], List.getElem_mem hk, h2.symm, h3.1, ?_⟩; have h4 := h3.2; unfold cellAt at h4; unfold cellAt; omega
 ·rintro ⟨x, hx, s, hs, h1, h2, h3⟩; rw [List.mem_singleton] at hx; subst hx; obtain ⟨k, hk, rfl⟩ := List.getElem_of_mem hs; refine ⟨k, hk, (Ih W S t hq hsh hi hk0 hj hji hk).2 ⟨h2, ?_⟩, ?_⟩
  ·unfold cellAt at h3 ⊢; omega
  ·have e : av (ah [x] ((0 : Nat) : Int)).f1 (k : Int) = x.f1[k] := nk x.f1 k hk; rw [e]; exact h1.symm
theorem Lg (W S t : Int) {h : S66} {sq : List (List S27)} (hq : oh sq) (hsh : ng h.f1) {i : Nat} (hi : i < sq.length) {k0 : Nat} (hk0 : k0 < h.f1.length) :
 (eX (i : Int) (h.f1[k0]).f0 W S t [h] sq).eraseIdx i = eX (-1) 0 W S (t - cellAt W S sq[i] h.f1[k0]) [h] (sq.eraseIdx i) := by
 (have hl : (eX (i : Int) (h.f1[k0]).f0 W S t [h] sq).length = sq.length := by simp [eX]); refine List.ext_getElem ?_ (fun j' h1 h2 => ?_)
 ·rw [List.length_eraseIdx, hl]; simp [eX, List.length_eraseIdx]
 ·(have hj' : j' < (sq.eraseIdx i).length := by simpa [eX] using h2); have hlen : (sq.eraseIdx i).length = sq.length - 1 := List.length_eraseIdx_of_lt hi
  have e2 : (eX (-1) 0 W S (t - cellAt W S sq[i] h.f1[k0]) [h] (sq.eraseIdx i))[j'] = fI (-1) 0 W S (t - cellAt W S sq[i] h.f1[k0]) [h] (sq.eraseIdx i) j' := by
   simp only [eX, List.getElem_map, List.getElem_range]
  rw [e2, List.getElem_eraseIdx]; by_cases hlt : j' < i
  ·rw [dif_pos hlt]; simp only [eX, List.getElem_map, List.getElem_range]; exact KT W S t hq hsh hi hk0 (show j' < sq.length by omega) (by omega) hj' (by rw [List.getElem_eraseIdx, dif_pos hlt])
  ·rw [dif_neg hlt]; simp only [eX, List.getElem_map, List.getElem_range]; exact KT W S t hq hsh hi hk0 (show j' + 1 < sq.length by omega) (by omega) hj' (by rw [List.getElem_eraseIdx, dif_neg hlt])
end Go.Proofs.Ytihedeofkhapiaa.Pr
end
section
namespace Go.Proofs.Ytihedeofkhapiaa.Pr
open Go.RowKit Go.Proofs.YtihedeofkhapiaaW.PrintWords Go.Proofs.YtihedeofkhapiaaW.PrintLast Go.Proofs.YtihedeofkhapiaaW.PrintMore
theorem LK : ∀ {l m : List Int}, l.Nodup → (∀ x ∈ l, x ∈ m) → l.length ≤ m.length
 | [], _, _, _ => Nat.zero_le _
 | x :: r, m, hn, hs => by
  obtain ⟨h1, h2⟩ := List.nodup_cons.1 hn; have hx := hs x List.mem_cons_self; have h3 := LK (m := m.erase x) h2 (fun y hy => (List.mem_erase_of_ne (fun e : y = x => h1 (by rw [← e]; exact hy))).2 (hs y (List.mem_cons_of_mem _ hy))); have h4 := List.length_erase_of_mem hx; have h5 := List.length_pos_of_mem hx; rw [List.length_cons]; omega
theorem yR (gs gl w c t : Int) (h : S66) (sq : List (List S27)) (hl : h.f1.length ≤ 8) : ∀ l ∈ eX gs gl w c t [h] sq, l.length ≤ 12 := fun l hm => by
 obtain ⟨i, _, rfl⟩ := List.mem_map.1 hm
 have hn : (fI gs gl w c t [h] sq i).Nodup := by
  refine List.Pairwise.filter _ ?_; rw [List.pairwise_map]; exact List.nodup_range.imp (fun h e => h (by simpa using (Int.ofNat_inj.1 e)))
 refine Nat.le_trans (LK (m := h.f1.map (fun s => s.f0)) hn (fun x hx => ?_)) (by rw [List.length_map]; omega); have hf := (List.mem_filter.1 hx).2
 have hr : qH gs gl w c t [h] sq i 0 h.f1.length x = true := by
  have e : List.finRange [h].length = [⟨0, by simp⟩] := rfl; rw [e, ou] at hf; simp only [List.any_cons, List.any_nil, Bool.or_false] at hf; exact hf
 obtain ⟨k, hk, _, he⟩ := (vD x _).1 hr; have e : av (ah [h] ((0 : Nat) : Int)).f1 (k : Int) = h.f1[k] := nk h.f1 k hk; rw [e] at he; exact List.mem_map.2 ⟨_, List.getElem_mem hk, he.symm⟩
def kD (L : List (List Int)) : Int := (L.map (fun l => (l.length : Int))).sum
theorem Al : ∀ L : List (List Int), 0 ≤ kD L
 | [] => by simp [kD]
 | l :: r => by
  have := Al r; unfold kD at this ⊢; rw [List.map_cons, List.sum_cons]; omega
theorem acP (L : List (List Int)) (h : ∀ l ∈ L, l.length ≤ 256) : kD L ≤ 256 * L.length := by
 induction L with
 | nil => simp [kD]
 | cons l r ih =>
  have h1 := ih (fun x hx => h x (List.mem_cons_of_mem _ hx)); have h2 := h l List.mem_cons_self; unfold kD at h1 ⊢; rw [List.map_cons, List.sum_cons, List.length_cons]; push_cast; omega
theorem VG (a b : List (List Int)) : kD (a ++ b) = kD a + kD b := by simp [kD, List.sum_append]
theorem P5 (L : List (List Int)) (i : Nat) (h : i < L.length) : kN L (i : Int) = L[i] := by simp [kN, List.getD_eq_getElem?_getD, h]
theorem aeK (l : List Int) (i : Nat) (h : i < l.length) : rd l (i : Int) = l[i] := by simp [rd, List.getD_eq_getElem?_getD, h]
def wL (i : Nat) : Nat → List (List Int) → Int
 | _, [] => 0
 | k, g :: r => (if k = i then 0 else (g.length : Int)) + wL i (k + 1) r
theorem LB (i : Nat) : ∀ (L : List (List Int)) (k : Nat), wL i k L = if k ≤ i then kD (L.eraseIdx (i - k)) else kD L
 | [], k => by simp [wL, kD]
 | g :: r, k => by
  rw [wL, LB i r (k + 1)]; by_cases h : k = i
  ·subst h; rw [if_pos rfl, if_neg (by omega), if_pos (Nat.le_refl _), Nat.sub_self, List.eraseIdx_zero, List.tail_cons]; omega
  ·rw [if_neg h]; by_cases hl : k ≤ i
   ·rw [if_pos (by omega), if_pos hl]; obtain ⟨d, hd⟩ : ∃ d, i - k = d + 1 := ⟨i - k - 1, by omega⟩; (have hd' : i - (k + 1) = d := by omega); rw [hd, hd', List.eraseIdx_cons_succ]; unfold kD; rw [List.map_cons, List.sum_cons]
   ·rw [if_neg (by omega), if_neg hl]; unfold kD; rw [List.map_cons, List.sum_cons]
theorem JN (i : Nat) : ∀ (L : List (List Int)) (k : Nat), 0 ≤ wL i k L
 | [], _ => by simp [wL]
 | g :: r, k => by
  have := JN i r (k + 1); rw [wL]; split <;> omega
theorem Yd (P : Int × Int × Int → Prop) (x2 x3 : Int) (i : Nat) (rest : Int) (LL : List (List Int)) (n : Int) (list : List Int) (len idx : Int) (G : List (List Int)) (hG : G.length ≤ 8) (hs' : ∀ l ∈ G, l.length ≤ 256) (hs : List S66) (w c t : Int) (sq : List (List S27))
 (hidx : 0 ≤ idx) (hidx' : idx ≤ 1000)
 (K : EvI (fun k => bS.l1 k x2 x3 (i : Int) (mx rest (wL i 0 G)) LL n (i : Int) list len (idx + 1) hs w c t sq) P) :
 ∀ (d kk : Nat) (many : Int), kk + d = G.length → 0 ≤ many → many ≤ 256 * kk → many + wL i kk (G.drop kk) = wL i 0 G →
  EvI (fun k => bS.l2 k x2 x3 (i : Int) rest many LL n (i : Int) list len idx G (G.length : Int) (kk : Int) hs w c t sq) P := by
 have hw1 : wrap64 (idx + 1) = idx + 1 := fB (by omega) (by omega); intro d
 induction d with
 | zero =>
  intro kk many hk h0 h1 he; rw [List.drop_eq_nil_of_le (by omega)] at he; (have he' : many = wL i 0 G := by simpa [wL] using he); rw [← he'] at K; refine EvI.step (fun k => ?_) K; rw [bS.l2, if_neg (by omega), hw1]
 | succ d ih =>
  intro kk many hk h0 h1 he; (have hkl : kk < G.length := by omega); (have hw : wrap64 ((kk : Int) + 1) = ((kk + 1 : Nat) : Int) := by rw [fB (by omega) (by omega)]; omega); have hl := hs' _ (List.getElem_mem hkl); rw [List.drop_eq_getElem_cons hkl, wL] at he; by_cases h : kk = i
  ·rw [if_pos h] at he; refine EvI.step (fun k => ?_) (ih (kk + 1) many (by omega) h0 (by omega) (by omega)); rw [bS.l2, if_pos (by omega), if_pos (by omega), if_pos (by omega), if_pos (by omega), hw]
  ·rw [if_neg h] at he; have hm : wrap64 (many + (G[kk].length : Int)) = many + (G[kk].length : Int) := fB (by omega) (by omega); refine EvI.step (fun k => ?_) (ih (kk + 1) (many + (G[kk].length : Int)) (by omega) (by omega) (by omega) (by omega)); rw [bS.l2, if_pos (by omega), if_pos (by omega), if_pos (by omega), if_neg (by omega), P5 G kk hkl, hm, hw]
def qz (w c t : Int) (hs : List S66) (sq : List (List S27)) (i : Nat) (gl : Int) : Int := kD ((eX (i : Int) gl w c t hs sq).eraseIdx i)
def xc (w c t : Int) (hs : List S66) (sq : List (List S27)) (i : Nat) : Int := (fI (-1) 0 w c t hs sq i).foldl (fun r gl => mx r (qz w c t hs sq i gl)) 0
theorem lQ (gs gl w c t : Int) (hs : List S66) (sq : List (List S27)) : (eX gs gl w c t hs sq).length = sq.length := by simp [eX]
theorem BD (gs gl w c t : Int) (hs : List S66) (sq : List (List S27)) (i : Nat) (h : i < sq.length) : (eX gs gl w c t hs sq)[i]'(by rw [lQ]; exact h) = fI gs gl w c t hs sq i := by simp [eX]
theorem Xg (P : Int × Int × Int → Prop) (x2 x3 : Int) (i : Nat) (n : Int) (hs : List S66) (w c t : Int) (sq : List (List S27)) (hck : oN hs w c t sq = 0) (hfew : ∀ gs gl, ∀ l ∈ eX gs gl w c t hs sq, l.length ≤ 12) (hsq : sq.length ≤ 8) (hi : i < sq.length) (LL : List (List Int)) (list : List Int) (hlist : list.length ≤ 256)
 (K : EvI (fun k => if (i : Int) = 0 then bS.l0 k (i : Int) (list.foldl (fun r gl => mx r (qz w c t hs sq i gl)) 0) LL n (wrap64 ((i : Int) + 1)) hs w c t sq else (if list.foldl (fun r gl => mx r (qz w c t hs sq i gl)) 0 < x3 then bS.l0 k (i : Int) (list.foldl (fun r gl => mx r (qz w c t hs sq i gl)) 0) LL n (wrap64 ((i : Int) + 1)) hs w c t sq else bS.l0 k x2 x3 LL n (wrap64 ((i : Int) + 1)) hs w c t sq)) P) :
 ∀ (d idx : Nat) (rest : Int), idx + d = list.length → (list.drop idx).foldl (fun r gl => mx r (qz w c t hs sq i gl)) rest = list.foldl (fun r gl => mx r (qz w c t hs sq i gl)) 0 →
  EvI (fun k => bS.l1 k x2 x3 (i : Int) rest LL n (i : Int) list (list.length : Int) (idx : Int) hs w c t sq) P := by
 intro d
 induction d with
 | zero =>
  intro idx rest hd he; rw [List.drop_eq_nil_of_le (by omega)] at he; have he' : rest = list.foldl (fun r gl => mx r (qz w c t hs sq i gl)) 0 := he; rw [← he'] at K; exact EvI.step (fun k => by rw [bS.l1, if_neg (by omega)]) K
 | succ d ih =>
  intro idx rest hd he; (have hil : idx < list.length := by omega); rw [List.drop_eq_getElem_cons hil, List.foldl_cons] at he; have q := ih (idx + 1) _ (by omega) he; obtain ⟨G, hG⟩ : ∃ G, G = eX (i : Int) list[idx] w c t hs sq := ⟨_, rfl⟩; have hGl : G.length = sq.length := by rw [hG, lQ]
  have hms : qz w c t hs sq i list[idx] = wL i 0 G := by
   rw [LB, if_pos (by omega), qz, hG]; rfl
  rw [hms] at q
  have q2 := Yd P x2 x3 i rest LL n list (list.length : Int) (idx : Int) G (by omega) (fun l hl => uA _ _ w c t hs sq l (by rw [← hG]; exact hl)) hs w c t sq (by omega) (by omega) (by
   (have e : ((idx + 1 : Nat) : Int) = (idx : Int) + 1 := by omega); rw [e] at q
   exact q) G.length 0 0 (by omega) (by omega) (by omega) (by simp)
  refine EvI.step (fun k => ?_) q2; rw [bS.l1, if_pos (by omega), if_pos (by omega), if_pos (by omega), aeK list idx hil, fD.f, if_pos ⟨hck, hfew _ _⟩, Option.bind_some, ← hG]; rfl
def Ee (R : Nat → Int) (i : Nat) (x2 x3 : Int) : Prop := i = 0 ∨ ∃ a : Nat, x2 = (a : Int) ∧ a < i ∧ x3 = R a ∧ ∀ j, j < i → (j < a → R a < R j) ∧ R a ≤ R j
theorem Y1 (hs : List S66) (w c t : Int) (sq : List (List S27)) (hck : oN hs w c t sq = 0) (hfew : ∀ gs gl, ∀ l ∈ eX gs gl w c t hs sq, l.length ≤ 12) (hsq : sq.length ≤ 8) :
 ∀ (d i : Nat) (x2 x3 : Int), i + d = sq.length → Ee (xc w c t hs sq) i x2 x3 →
  EvI (fun k => bS.l0 k x2 x3 (eX (-1) 0 w c t hs sq) (sq.length : Int) (i : Int) hs w c t sq) (fun r => Ee (xc w c t hs sq) sq.length r.1 r.2.1 ∧ r.2.2 = 0) := by
 intro d
 induction d with
 | zero =>
  intro i x2 x3 hi hI; (obtain rfl : i = sq.length := by omega); exact EvI.step (f := fun _ => some (x2, x3, 0)) (fun k => by rw [bS.l0, if_neg (by omega)]) (EvI.now ⟨hI, rfl⟩)
 | succ d ih =>
  intro i x2 x3 hi hI; (have hil : i < sq.length := by omega); have hLl := lQ (-1) 0 w c t hs sq; (have hw : wrap64 ((i : Int) + 1) = ((i + 1 : Nat) : Int) := by rw [fB (by omega) (by omega)]; omega); have hsh : (fI (-1) 0 w c t hs sq i).length ≤ 256 := uA (-1) 0 w c t hs sq _ (List.mem_map.2 ⟨i, List.mem_range.2 hil, rfl⟩)
  have q := Xg (fun r => Ee (xc w c t hs sq) sq.length r.1 r.2.1 ∧ r.2.2 = 0) x2 x3 i (sq.length : Int) hs w c t sq hck hfew hsq hil (eX (-1) 0 w c t hs sq) (fI (-1) 0 w c t hs sq i) hsh (by
   rw [hw]; have e : (fI (-1) 0 w c t hs sq i).foldl (fun r gl => mx r (qz w c t hs sq i gl)) 0 = xc w c t hs sq i := rfl; rw [e]; rcases hI with h0 | ⟨a, h1, h2, h3, h4⟩
   ·refine EvI.pos (by omega) (ih (i + 1) _ _ (by omega) (.inr ⟨i, rfl, by omega, rfl, fun j hj => ?_⟩)); (obtain rfl : j = i := by omega); exact ⟨fun h => by omega, Int.le_refl _⟩
   ·refine EvI.neg (by omega) (EvI.ite (fun hlt => ?_) (fun hge => ?_))
    ·refine ih (i + 1) _ _ (by omega) (.inr ⟨i, rfl, by omega, rfl, fun j hj => ?_⟩); by_cases he : j = i
     ·subst he; exact ⟨fun h => by omega, Int.le_refl _⟩
     ·have := (h4 j (by omega)).2; exact ⟨fun _ => by omega, by omega⟩
    ·refine ih (i + 1) _ _ (by omega) (.inr ⟨a, h1, by omega, h3, fun j hj => ?_⟩); by_cases he : j = i
     ·subst he; exact ⟨fun h => by omega, by omega⟩
     ·exact h4 j (by omega)) (fI (-1) 0 w c t hs sq i).length 0 0 (by omega) (by rw [List.drop_zero])
  refine EvI.step (fun k => ?_) q; rw [bS.l0, if_pos (by omega), if_pos (by omega), if_pos (by omega), P5 _ i (by omega), BD _ _ _ _ _ _ _ i hil]; rfl
theorem X6 {hs : List S66} {w c t : Int} {sq : List (List S27)} (hck : oN hs w c t sq = 0) (hfew : ∀ gs gl, ∀ l ∈ eX gs gl w c t hs sq, l.length ≤ 12) (hsq : sq.length ≤ 8) {F : List Int} (hfit : iK.f hs w c t sq = some (F, 0)) :
 EvI (fun k => bS.f k hs w c t sq) (fun r => Ee (xc w c t hs sq) sq.length r.1 r.2.1 ∧ r.2.2 = 0) := by
 obtain ⟨v, hv, hP⟩ := Y1 hs w c t sq hck hfew hsq sq.length 0 0 0 (by omega) (.inl rfl); refine ⟨v, Ev.congr (fun k => ?_) hv, hP⟩; rw [bS.f, hfit, Option.bind_some, if_pos rfl, fD.f, if_pos ⟨hck, hfew _ _⟩, Option.bind_some, lQ]; rfl
theorem WN (hs : List S66) (w c t : Int) (sq : List (List S27)) (h1 : hs.length ≤ 100) (h2 : ∀ h ∈ hs, h.f1.length ≤ 100) (h3 : sq.length ≤ 100) (h4 : ∀ q ∈ sq, q.length ≤ 100) : Ev (fun k => aN.f k hs w c t sq) (hs, w, c, t, sq) := by
 have L1 : ∀ (d i : Nat) (acc : List (List S27)), i + d = sq.length → acc.length = i → acc ++ sq.drop i = sq → Ev (fun k => aN.l1 k sq (i : Int) hs w c t acc) (hs, w, c, t, sq) := by
  intro d
  induction d with
  | zero =>
   intro i acc hi hl he; rw [List.drop_eq_nil_of_le (by omega), List.append_nil] at he; subst he; exact Ev.step (f := fun _ => some (hs, w, c, t, acc)) (fun k => by rw [aN.l1, if_neg (by omega)]) (Ev.now _)
  | succ d ih =>
   intro i acc hi hl he; (have hil : i < sq.length := by omega); (have hw : wrap64 ((i : Int) + 1) = ((i + 1 : Nat) : Int) := by rw [fB (by omega) (by omega)]; omega); have hq := h4 _ (List.getElem_mem hil); rw [List.drop_eq_getElem_cons hil] at he; (have k1 : ([] : List S27).length + (sq[i]).length < 8796093022208 := by rw [List.length_nil]; omega); (have k2 : acc.length < 5864062014805 := by omega); refine Ev.step (fun k => ?_) (ih (i + 1) (acc ++ [sq[i]]) (by omega) (by simp [hl]) (by rw [List.append_assoc]; exact he)); rw [aN.l1, if_pos (by omega), Option.bind_some, if_pos (by omega), wI sq i hil, if_pos k1, if_pos k2, hw, List.nil_append]
 have L0 : ∀ (d i : Nat) (acc : List S66), i + d = hs.length → acc.length = i → acc ++ hs.drop i = hs → Ev (fun k => aN.l0 k hs sq (i : Int) acc w c t) (hs, w, c, t, sq) := by
  intro d
  induction d with
  | zero =>
   intro i acc hi hl he; rw [List.drop_eq_nil_of_le (by omega), List.append_nil] at he; subst he; refine Ev.step (fun k => ?_) (L1 sq.length 0 [] (by omega) rfl (by simp)); rw [aN.l0, if_neg (by omega)]; rfl
  | succ d ih =>
   intro i acc hi hl he; (have hil : i < hs.length := by omega); (have hw : wrap64 ((i : Int) + 1) = ((i + 1 : Nat) : Int) := by rw [fB (by omega) (by omega)]; omega); have hq := h2 _ (List.getElem_mem hil); rw [List.drop_eq_getElem_cons hil] at he; (have k1 : ([] : List S86).length + (hs[i].f1).length < 8796093022208 := by rw [List.length_nil]; omega); (have k2 : acc.length < 3518437208883 := by omega); refine Ev.step (fun k => ?_) (ih (i + 1) (acc ++ [hs[i]]) (by omega) (by simp [hl]) (by rw [List.append_assoc]; exact he)); rw [aN.l0, if_pos (by omega), if_pos (by omega), Option.bind_some, xJ hs i hil, if_pos k1, if_pos k2, hw, List.nil_append]
 exact Ev.congr (fun k => by rw [aN.f]; rfl) (L0 hs.length 0 [] (by omega) rfl (by simp))
theorem IZ (W S : Int) (q : Int × Int × Bool) (a b : S86) (h : a.f1 = b.f1) : cellP W S q a = cellP W S q b := by rw [cellP, cellP, h]
theorem aaX {a1 a2 a3 : Int} {r : xD} (hg : lu a1 a2 a3 r) {i : Nat} (hi : i < r.2.2.2.2.1.length) (hsm : Sm5 r.2.2.2.2.1[i]) {s : S86} (hs1 : 1 ≤ s.f1) (hs2 : s.f1 ≤ 31) (hc : cellAt r.2.1 r.2.2.1 r.2.2.2.2.1[i] s < 1048576) :
 dw.f r.1 r.2.1 r.2.2.1 r.2.2.2.1 r.2.2.2.2.1 (i : Int) s.f1 = some (cellAt r.2.1 r.2.2.1 r.2.2.2.2.1[i] s) := by
 obtain ⟨hs, w, c, t, sq, cut, txt, vis, a, b⟩ := r; obtain ⟨⟨g1, g2, g3⟩, g4, g5, g6, g7, g8, g9⟩ := hg; simp only [] at g1 g2 g3 g4 g5 g6 g7 g8 g9 hi hsm hc ⊢
 have hasc : Asc [(⟨65, s.f1⟩ : S86)] := ⟨fun x hx => by
  rw [List.mem_singleton] at hx; subst hx; simp only []
  omega, List.pairwise_singleton _ _⟩
 have hg1 : lu 1 1 1 ([(⟨⟨0, 0⟩, [⟨65, s.f1⟩]⟩ : S66)], w, c, t, [sq[i]], 0, ⟨#[]⟩, [], 0, 0) := by
  refine ⟨⟨by simp, by simp, fun h hm => ?_⟩, g4, g5, g6, by simp, by simp, fun q hq => ?_⟩
  ·rw [List.mem_singleton] at hm; subst hm; exact ⟨by simp only []; omega, by simp only []; omega, by simp only []; omega, hasc, by simp, by simp⟩
  ·rw [List.mem_singleton] at hq; subst hq; exact g9 _ (List.getElem_mem hi)
 have hck := hg1.check (by omega) (by omega) (by omega) g6.1 g6.2 rfl hg1.2.2.2.2.2.2; simp only [] at hck
 have hh : ∀ h ∈ [(⟨⟨0, 0⟩, [⟨65, s.f1⟩]⟩ : S66)], ng h.f1 := fun h hm => by
  rw [List.mem_singleton] at hm; subst hm; exact ⟨hasc, by simp⟩
 have hq : oh [sq[i]] := ⟨by simp, fun q hq => by
  rw [List.mem_singleton] at hq; subst hq
  exact hsm⟩
 have hcs := Fz w c hsm (s := s) (by omega) hs2
 have e0 : yJ w c [sq[i]] [(⟨65, s.f1⟩ : S86)] = cellAt w c sq[i] s := by
  have e1 : cellP w c (ky sq[i]) (av [(⟨65, s.f1⟩ : S86)] ((0 : Nat) : Int)) = cellAt w c sq[i] s := IZ _ _ _ _ _ rfl; have e2 : vB w c [(⟨65, s.f1⟩ : S86)] sq[i] = mn lT (cellP w c (ky sq[i]) (av [(⟨65, s.f1⟩ : S86)] ((0 : Nat) : Int))) := rfl; rw [yJ, List.map_singleton, List.sum_singleton, e2, e1]; have : cellAt w c sq[i] s = cellP w c (ky sq[i]) s := rfl; unfold mn lT; split <;> omega
 have hb : sP [(⟨⟨0, 0⟩, [⟨65, s.f1⟩]⟩ : S66)] w c [sq[i]] (List.finRange [(⟨⟨0, 0⟩, [⟨65, s.f1⟩]⟩ : S66)].length) = cellAt w c sq[i] s := by
  have hT : ∀ T, sP [(⟨⟨0, 0⟩, [⟨65, s.f1⟩]⟩ : S66)] w c [sq[i]] (List.finRange [(⟨⟨0, 0⟩, [⟨65, s.f1⟩]⟩ : S66)].length) ≤ T ↔ cellAt w c sq[i] s ≤ T := fun T => by
   rw [LW w c hh hq T]; constructor
   ·rintro (h | ⟨h, hm, h1⟩)
    ·omega
    ·rw [List.mem_singleton] at hm; subst hm; rw [← e0]; exact h1
   ·exact fun h => .inr ⟨_, List.mem_singleton.2 rfl, by rw [e0]; exact h⟩
  exact Int.le_antisymm ((hT _).2 (Int.le_refl _)) ((hT _).1 (Int.le_refl _))
 rw [dw.f, if_pos (by omega), if_pos (by omega), wI sq i hi, jU.f, NH, if_pos hck, hb, if_neg (by omega), Option.bind_some, if_pos rfl]
theorem V8 (L : List (List Int)) (hL : L.length ≤ 100) (h : ∀ l ∈ L, l.length ≤ 256) : Ev (fun k => dx.f k (L.map strOfNums)) (kD L) := by
 have key : ∀ (d i : Nat) (n : Int), i + d = L.length → 0 ≤ n → n ≤ 256 * i → n + kD (L.drop i) = kD L → Ev (fun k => dx.l0 k (L.map strOfNums) n (i : Int)) (kD L) := by
  intro d
  induction d with
  | zero =>
   intro i n hi h0 h1 he; rw [List.drop_eq_nil_of_le (by omega)] at he; (have he' : n = kD L := by simpa [kD] using he); rw [← he']; exact Ev.step (f := fun _ => some n) (fun k => by rw [dx.l0, if_neg (by rw [List.length_map]; omega)]) (Ev.now _)
  | succ d ih =>
   intro i n hi h0 h1 he; (have hil : i < L.length := by omega); (have hw : wrap64 ((i : Int) + 1) = ((i + 1 : Nat) : Int) := by rw [fB (by omega) (by omega)]; omega); have hl := h _ (List.getElem_mem hil); (have e : jF ByteArray.empty (L.map strOfNums) (i : Int) = strOfNums L[i] := by rw [rdO _ i (by rw [List.length_map]; exact hil), List.getElem_map]); rw [List.drop_eq_getElem_cons hil] at he
   have he2 : n + ((L[i].length : Int) + kD (L.drop (i + 1))) = kD L := by
    rw [← he]; unfold kD; rw [List.map_cons, List.sum_cons]
   have hm : wrap64 (n + (L[i].length : Int)) = n + (L[i].length : Int) := fB (by omega) (by omega); refine Ev.step (fun k => ?_) (ih (i + 1) (n + (L[i].length : Int)) (by omega) (by omega) (by omega) (by omega)); rw [dx.l0, if_pos (by rw [List.length_map]; omega), if_pos (by omega), e, BF, hm, hw]
 exact Ev.congr (fun k => by rw [dx.f]; rfl) (key L.length 0 0 (by omega) (by omega) (by omega) (by simp))
theorem MM (l : List (List S27)) (i : Nat) (h : l.length ≤ 8) : ([] : List (List S27)).length + (l.take i).length < 5864062014805 := by
 have h1 : (l.take i).length ≤ l.length := List.length_take_le' ..; (have h2 : ([] : List (List S27)).length + (l.take i).length ≤ 8 := by rw [List.length_nil]; omega); exact Nat.lt_of_le_of_lt h2 (by decide)
theorem ME (l : List (List S27)) (i : Nat) (h : l.length ≤ 8) : (([] : List (List S27)) ++ l.take i).length + (l.drop (i + 1)).length < 5864062014805 := by
 have h1 : (l.take i).length ≤ l.length := List.length_take_le' ..; (have h2 : (l.drop (i + 1)).length ≤ l.length := by rw [List.length_drop]; omega); (have h3 : (([] : List (List S27)) ++ l.take i).length + (l.drop (i + 1)).length ≤ 16 := by rw [List.nil_append]; omega); exact Nat.lt_of_le_of_lt h3 (by decide)
theorem UB {h : S66} {w c t : Int} {sq : List (List S27)} {a1 a2 a3 : Int} {cut : Int} {txt : ByteArray} {vis : List Int} {ua ub : Int} (hg : lu a1 a2 a3 ([h], w, c, t, sq, cut, txt, vis, ua, ub)) (ha1 : a1 ≤ 4) (ha2 : a2 ≤ 8) (ha3 : a3 ≤ 8)
 (hsh : ng h.f1) (hq : oh sq) {i : Nat} (hi : i < sq.length) {k0 : Nat} (hk0 : k0 < h.f1.length) (hc : cellAt w c sq[i] h.f1[k0] < 1048576) (hle : yJ w c (sq.eraseIdx i) h.f1 + cellAt w c sq[i] h.f1[k0] ≤ t) :
 Ev (fun k => au.f k [h] w c t sq (i : Int) (h.f1[k0]).f0) (qz w c t [h] sq i (h.f1[k0]).f0, true) := by
 have hs0 := hsh.1.1 _ (List.getElem_mem hk0); have hqe : oh (sq.eraseIdx i) := ⟨Nat.le_trans (List.length_eraseIdx_le ..) hq.1, fun q hm => hq.2 q (List.mem_of_mem_eraseIdx hm)⟩; have h1 := AA w c hqe hsh
 have hc0 : 0 ≤ cellAt w c sq[i] h.f1[k0] := by
  have := (rZ w c hsh (hq.2 _ (List.getElem_mem hi)) hk0).1; rw [nk _ k0 hk0] at this; exact this
 have hcost := aaX hg hi (hq.2 _ (List.getElem_mem hi)) hs0.2.2.1 hs0.2.2.2 hc; simp only [] at hcost; obtain ⟨⟨g1, g2, g3⟩, g4, g5, g6, g7, g8, g9⟩ := hg; simp only [] at g1 g2 g3 g4 g5 g6 g7 g8 g9; have hsq8 := hq.1; have hsl : (sq.eraseIdx i).length = sq.length - 1 := List.length_eraseIdx_of_lt hi; have e66 : ah [h] 0 = h := rfl; have hcopy := WN [h] w c t sq (by simp) (fun x hx => by rw [List.mem_singleton] at hx; subst hx; have := hsh.2; omega) (by omega) (fun q hm => by have := (g9 q hm).1; omega); obtain ⟨L, hL⟩ : ∃ L, L = eX (-1) 0 w c (t - cellAt w c sq[i] h.f1[k0]) [h] (sq.eraseIdx i) := ⟨_, rfl⟩; (have hM : qz w c t [h] sq i (h.f1[k0]).f0 = kD L := by rw [qz, Lg w c t hq hsh hi hk0, hL]); have hL0 := Al L
 have l0end : ∀ (x8 : Int), Ev (fun k => au.l0 k (i : Int) (h.f1[k0]).f0 x8 true (wrap64 (0 + 1)) [h] w c t sq) (x8, true) := fun x8 => by
  refine Ev.step (f := fun _ => some (x8, true)) (fun k => ?_) (Ev.now _); have hw : wrap64 (0 + 1) = 1 := fB (by omega) (by omega); rw [au.l0, hw, if_neg (by simp)]
 have J : Ev (fun k => au.j2 k (i : Int) (h.f1[k0]).f0 0 false 0 (cellAt w c sq[i] h.f1[k0]) false [h] w c t sq [h] w c t (sq.eraseIdx i)) (qz w c t [h] sq i (h.f1[k0]).f0, true) := by
  by_cases he : (sq.eraseIdx i).length = 0
  ·have hLn : kD L = 0 := by
    have : L = [] := List.length_eq_zero_iff.1 (by rw [hL, lQ, he]); rw [this]; rfl
   rw [hM, hLn]; refine Ev.step (fun k => ?_) (l0end 0); rw [au.j2, if_neg (by simp), if_pos (by omega)]
  ·have hgx : lu 1 a2 a3 ([h], w, c, t - cellAt w c sq[i] h.f1[k0], sq.eraseIdx i, cut, txt, vis, ua, ub) :=
    ⟨⟨by simp, by simp, g3⟩, g4, g5, by simp only []; omega, by simp only []; omega, by simp only []; omega, fun q hm => g9 q (List.mem_of_mem_eraseIdx hm)⟩
   have hck := hgx.check (by omega) ha2 ha3 hgx.2.2.2.1.1 hgx.2.2.2.1.2 rfl hgx.2.2.2.2.2.2; simp only [] at hck
   have hh : ∀ x ∈ [h], ng x.f1 := fun x hx => by
    rw [List.mem_singleton] at hx; subst hx; exact hsh
   have hfm := (GD w c (t - cellAt w c sq[i] h.f1[k0]) hh hqe ((0 : Nat) : Int)).2 ⟨0, by simp, rfl, by simp only [List.getElem_cons_zero]; omega⟩; have hfit := FV hck (fun hn => by rw [hn] at hfm; exact absurd hfm List.not_mem_nil); have hle' := Ex hck (yR _ _ _ _ _ h _ hsh.2) (by omega) hfit; rw [← hL] at hle'; have hLl : L.length = (sq.eraseIdx i).length := by rw [hL, lQ]
   have hmany := V8 L (by omega) (fun l hl => by
    rw [hL] at hl
    exact uA _ _ _ _ _ _ _ l hl)
   have hwt : wrap64 (t - cellAt w c sq[i] h.f1[k0]) = t - cellAt w c sq[i] h.f1[k0] := fB (by omega) (by omega); (have hmx : mx 0 (kD L) = kD L := by unfold mx; split <;> omega); refine Ev.step (f := fun k => (bV.f k [h] w c (t - cellAt w c sq[i] h.f1[k0]) (sq.eraseIdx i)).bind fun EN => if EN.2 = 0 then ((dx.f k EN.1).bind fun Di => au.l0 k (i : Int) (h.f1[k0]).f0 (mx 0 Di) true (wrap64 (0 + 1)) [h] w c t sq) else au.l0 k (i : Int) (h.f1[k0]).f0 0 false (wrap64 (0 + 1)) [h] w c t sq) (fun k => ?_) (Ev.bind hle' (Ev.pos rfl (Ev.bind hmany ?_)))
   ·rw [au.j2, if_neg (by simp), if_neg (by omega), hwt]
   ·rw [hM, hmx]; exact l0end _
 have q1 : (0 : Int) ≤ (i : Int) := Int.natCast_nonneg i; have q2 : (i : Int) ≤ (sq.length : Int) := Int.ofNat_le.2 (Nat.le_of_lt hi); have q3 : (0 : Int) ≤ ((i + 1 : Nat) : Int) := Int.natCast_nonneg _; have q4 : ((i + 1 : Nat) : Int) ≤ (sq.length : Int) := Int.ofNat_le.2 hi; have q5 : ¬ cellAt w c sq[i] h.f1[k0] < 0 := Int.not_lt.2 hc0; (have q6 : ¬ cellAt w c sq[i] h.f1[k0] > t := by have := h1.1; omega); (have q7 : ¬ (h.f1[k0]).f1 = 0 := by have := hs0.2.2.1; omega); (have hi8 : i ≤ 8 := by omega); clear hc hle h1 g1 g2 g4 g5 g6 g7 g8 hc0 hL0 hsl
 have key : ∀ (d kk : Nat) (x12 : Int), kk + d = h.f1.length → x12 = (if k0 < kk then (h.f1[k0]).f1 else 0) →
  Ev (fun k => au.l1 k (i : Int) (h.f1[k0]).f0 0 false 0 x12 (kk : Int) [h] w c t sq [h] w c t sq) (qz w c t [h] sq i (h.f1[k0]).f0, true) := by
  have hl8 := hsh.2; (have hone : (0 : Int) < (([h].length : Nat) : Int) := by simp); intro d
  induction d with
  | zero =>
   intro kk x12 hk hx; rw [if_pos (by omega)] at hx; subst hx; (have hw1 : wrap64 ((i : Int) + 1) = ((i + 1 : Nat) : Int) := by rw [fB (by omega) (by omega)]; omega); (have et : ((([] : List (List S27)) ++ sq.take i) ++ sq.drop (i + 1)) = sq.eraseIdx i := by rw [List.nil_append, List.eraseIdx_eq_take_drop_succ]); have k1 := MM sq i hsq8; have k2 := ME sq i hsq8; (have k3 : ¬ (kk : Int) < (h.f1.length : Int) := by omega); refine Ev.step (fun k => ?_) J; rw [au.l1, if_pos hone, e66, if_neg k3, if_neg q7, Option.bind_some, if_pos q1, if_pos q2, Option.bind_some, Int.toNat_natCast, if_pos k1, Option.bind_some, hw1, if_pos q3, if_pos q4, Option.bind_some, Int.toNat_natCast, if_pos k2, Option.bind_some, hcost, Option.bind_some, if_neg q5, et, decide_eq_false q6]
  | succ d ih =>
   intro kk x12 hk hx; (have hkl : kk < h.f1.length := by omega); (have hw : wrap64 ((kk : Int) + 1) = ((kk + 1 : Nat) : Int) := by rw [fB (by omega) (by omega)]; omega); have r1 : (kk : Int) < (h.f1.length : Int) := Int.ofNat_lt.2 hkl; have r2 : (0 : Int) ≤ (kk : Int) := Int.natCast_nonneg kk; (have r3 : kk + 1 + d = h.f1.length := by omega); by_cases he : kk = k0
   ·subst he; refine Ev.step (fun k => ?_) (ih (kk + 1) (h.f1[kk]).f1 r3 (by rw [if_pos (Nat.lt_succ_self kk)])); rw [au.l1, if_pos hone, e66, if_pos r1, if_pos r2, nk _ kk hkl, if_pos rfl, hw]
   ·have hx' : x12 = (if k0 < kk + 1 then (h.f1[k0]).f1 else 0) := by
     rw [hx]; by_cases hl : k0 < kk
     ·rw [if_pos hl, if_pos (Nat.lt_succ_of_lt hl)]
     ·rw [if_neg hl, if_neg (fun hh => hl (Nat.lt_of_le_of_ne (Nat.le_of_lt_succ hh) (Ne.symm he)))]
    (have hne : ¬ (h.f1[kk]).f0 = (h.f1[k0]).f0 := fun e => he (OU hsh.1 hkl hk0 e)); refine Ev.step (fun k => ?_) (ih (kk + 1) x12 r3 hx'); rw [au.l1, if_pos hone, e66, if_pos r1, if_pos r2, nk _ kk hkl, if_neg hne, hw]
 refine Ev.congr (f := fun k => au.l0 k (i : Int) (h.f1[k0]).f0 0 false 0 [h] w c t sq) (fun k => by rw [au.f]) ?_; refine Ev.step (f := fun k => (aN.f k [h] w c t sq).bind fun xU => au.l1 k (i : Int) (h.f1[k0]).f0 0 false 0 0 ((0 : Nat) : Int) [h] w c t sq [h] xU.2.1 xU.2.2.1 xU.2.2.2.1 xU.2.2.2.2) (fun k => ?_) (Ev.bind hcopy (key h.f1.length 0 0 (by omega) (by rw [if_neg (by omega)]))); rw [au.l0, if_pos (by simp)]; congr 1
theorem afR (L : List Int) (j : Nat) (h : j < L.length) (h0 : 0 ≤ L[j]) (h1 : L[j] < 256) : bt (strOfNums L) (j : Int) = L[j] := by
 (have hs : ((j : Int)).toNat < (strOfNums L).size := by rw [BF]; omega); rw [bt, dif_pos hs]
 have e : (strOfNums L)[((j : Int)).toNat]'hs = UInt8.ofNat (L[j]).toNat := by
  simp [strOfNums, ByteArray.getElem_eq_getElem_data]
 rw [e, UInt8.toNat_ofNat']; omega
theorem QW (hs : List S66) (w c t : Int) (sq : List (List S27)) (T : List ByteArray) (n : Int) (a : Nat) (i : Nat) (list : List Int) (hi : i < T.length) (hT : T[i] = strOfNums list) (hl8 : T.length ≤ 8) (hll : list.length ≤ 256) (hb : ∀ x ∈ list, 0 ≤ x ∧ x < 256) (M : Int → Int)
 (hk : ∀ x ∈ list, Ev (fun k => au.f k hs w c t sq (i : Int) x) (M x, true))
 (h1 : i < a → n < list.foldl (fun r gl => mx r (M gl)) 0) (h2 : i = a → n = list.foldl (fun r gl => mx r (M gl)) 0) (h3 : a < i → n ≤ list.foldl (fun r gl => mx r (M gl)) 0)
 (K : Ev (fun k => ai.l0 k (a : Int) n T ((i + 1 : Nat) : Int) hs w c t sq) true) :
 ∀ (d kk : Nat) (rest : Int), kk + d = list.length → (list.drop kk).foldl (fun r gl => mx r (M gl)) rest = list.foldl (fun r gl => mx r (M gl)) 0 →
  Ev (fun k => ai.l1 k (a : Int) n T (i : Int) rest (kk : Int) hs w c t sq) true := by
 have p1 : (0 : Int) ≤ (i : Int) := Int.natCast_nonneg i; have p2 : (i : Int) < (T.length : Int) := Int.ofNat_lt.2 hi; (have er : jF ByteArray.empty T (i : Int) = strOfNums list := by rw [rdO T i hi, hT]); (have hwi : wrap64 ((i : Int) + 1) = ((i + 1 : Nat) : Int) := by rw [fB (by omega) (by omega)]; omega); intro d
 induction d with
 | zero =>
  intro kk rest hd he; rw [List.drop_eq_nil_of_le (by omega)] at he; have he' : rest = list.foldl (fun r gl => mx r (M gl)) 0 := he; rw [← he'] at h1 h2 h3; (have p3 : ¬ (kk : Int) < ((strOfNums list).size : Int) := by rw [BF]; omega); clear he he' hb hk er; refine Ev.step (fun k => ?_) K; rw [ai.l1, if_pos p1, if_pos p2, rdO T i hi, hT, if_neg p3]; rcases Nat.lt_trichotomy i a with h | h | h
  ·have := h1 h; rw [if_pos (by omega), if_neg (by omega), if_neg (by omega), if_neg (by omega), hwi]
  ·have := h2 h; rw [if_neg (by omega), if_pos (by omega), if_pos (by omega), if_neg (by omega), hwi]
  ·have := h3 h; rw [if_neg (by omega), if_neg (by omega), if_pos (by omega), if_neg (by omega), hwi]
 | succ d ih =>
  intro kk rest hd he; (have hkl : kk < list.length := by omega); (have hw : wrap64 ((kk : Int) + 1) = ((kk + 1 : Nat) : Int) := by rw [fB (by omega) (by omega)]; omega); have hx := hb _ (List.getElem_mem hkl); have eb := afR list kk hkl hx.1 hx.2; (have p3 : (kk : Int) < ((strOfNums list).size : Int) := by rw [BF]; omega); have p4 : (0 : Int) ≤ (kk : Int) := Int.natCast_nonneg kk; rw [List.drop_eq_getElem_cons hkl, List.foldl_cons] at he; refine Ev.step (f := fun k => (au.f k hs w c t sq (i : Int) list[kk]).bind fun Er => if Er.2 = true then ai.l1 k (a : Int) n T (i : Int) (mx rest Er.1) ((kk + 1 : Nat) : Int) hs w c t sq else some false) (fun k => ?_) (Ev.bind (hk _ (List.getElem_mem hkl)) (Ev.pos rfl (ih (kk + 1) _ (by omega) he))); rw [ai.l1, if_pos p1, if_pos p2, er, if_pos p3, if_pos p4, eb, hw]
theorem KP : ai.Pure := by
 intro l0 hl1 hl2 hwf; refine Ev.rounds ?_; obtain ⟨r, hr, hg, ht⟩ := VI (sW l0).1 (sW l0).2 1 5 4 (by omega) (by omega) (by omega) (by omega) (by omega) (by omega); obtain ⟨f1, f2⟩ := Ox hg ht (by omega) (by omega); obtain ⟨x, hx, _, htot⟩ := TF hg ht (by omega) (by omega); have hck := hg.check (by omega) (by omega) (by omega) hg.2.2.2.1.1 hg.2.2.2.1.2 rfl hg.2.2.2.2.2.2; have hlt := Gy hg ht (by omega) (by omega); have hg' := hg; obtain ⟨hs, w, c, t, sq, cut, txt, vis, a, b⟩ := r; simp only [] at f1 f2 hx htot hck hlt; obtain ⟨⟨g1, g2, g3⟩, g4, g5, g6, g7, g8, g9⟩ := hg; simp only [] at g1 g2 g7; obtain ⟨h, rfl⟩ : ∃ h, hs = [h] := List.length_eq_one_iff.1 (by omega); (obtain rfl : x = 0 := by simp at hx; exact hx); simp only [List.getElem_cons_zero] at htot; have hsh := f1 h (List.mem_singleton.2 rfl); have hsq8 := f2.1; have hfm := (GD w c t f1 f2 ((0 : Nat) : Int)).2 ⟨0, by simp, rfl, htot⟩; have hfit := FV hck (fun hn => by rw [hn] at hfm; exact absurd hfm List.not_mem_nil); have hle := Ex hck (yR _ _ _ _ _ h _ hsh.2) (by omega) hfit; obtain ⟨⟨at', n, e⟩, hlook, hI, he⟩ := X6 hck (fun gs gl => yR gs gl w c t h sq hsh.2) hsq8 hfit; simp only [] at hI he; subst he
 obtain ⟨a0, rfl, ha0, hn, hmin⟩ : ∃ a : Nat, at' = (a : Int) ∧ a < sq.length ∧ n = xc w c t [h] sq a ∧ ∀ j, j < sq.length → (j < a → xc w c t [h] sq a < xc w c t [h] sq j) ∧ xc w c t [h] sq a ≤ xc w c t [h] sq j := by
  rcases hI with h0 | h0
  ·omega
  ·exact h0
 have hTl : ((eX (-1) 0 w c t [h] sq).map strOfNums).length = sq.length := by rw [List.length_map, lQ]
 have hloop : ∀ (d i : Nat), i + d = sq.length → Ev (fun k => ai.l0 k (a0 : Int) n ((eX (-1) 0 w c t [h] sq).map strOfNums) (i : Int) [h] w c t sq) true := by
  intro d
  induction d with
  | zero =>
   intro i hi; (have e2 : ∀ o : Option Bool, (o.bind fun t => some t) = o := fun o => by cases o <;> rfl); refine Ev.step (f := fun k => fG.f k) (fun k => ?_) (Ev.of fG.mono L6); rw [ai.l0, if_neg (by rw [hTl]; omega), e2]
  | succ d ih =>
   intro i hi; (have hil : i < sq.length := by omega); have hsl : (fI (-1) 0 w c t [h] sq i).length ≤ 256 := uA (-1) 0 w c t [h] sq _ (List.mem_map.2 ⟨i, List.mem_range.2 hil, rfl⟩)
   have hby : ∀ y ∈ fI (-1) 0 w c t [h] sq i, 0 ≤ y ∧ y < 256 := fun y hy => by
    rw [fI, List.mem_filter] at hy; obtain ⟨z, hz, rfl⟩ := List.mem_map.1 hy.1; have := List.mem_range.1 hz; simp only [Int.ofNat_eq_natCast]; omega
   have hkn : ∀ y ∈ fI (-1) 0 w c t [h] sq i, Ev (fun k => au.f k [h] w c t sq (i : Int) y) (qz w c t [h] sq i y, true) := fun y hy => by
    obtain ⟨h', hm, s, hs', hsf, hok1, hok2⟩ := (Fu w c t f1 f2 i hil y).1 hy; rw [List.mem_singleton] at hm; subst hm; obtain ⟨k0, hk0, rfl⟩ := List.getElem_of_mem hs'; have hse := Cz (vB w c h'.f1) sq i hil
    have := UB hg' (by omega) (by omega) (by omega) hsh f2 hil hk0 hok1 (by
     unfold yJ cellAt at *
     omega)
    rw [hsf] at this; exact this
   have := QW [h] w c t sq ((eX (-1) 0 w c t [h] sq).map strOfNums) n a0 i (fI (-1) 0 w c t [h] sq i) (by omega) (by rw [List.getElem_map, BD _ _ _ _ _ _ _ i hil]) (by omega) hsl hby (qz w c t [h] sq i) hkn
    (fun hlt => by rw [hn]; exact (hmin i hil).1 hlt) (fun heq => by subst heq; exact hn) (fun hlt => by rw [hn]; exact (hmin i hil).2) (ih (i + 1) (by omega)) (fI (-1) 0 w c t [h] sq i).length 0 0 (by omega) (by rw [List.drop_zero])
   refine Ev.step (fun k => ?_) this; rw [ai.l0, if_pos (by rw [hTl]; omega)]; rfl
 refine Ev.congr (f := fun k => (af.f k (sW l0).1 (sW l0).2 1 5 4).bind fun dn => ((bS.f k dn.1 dn.2.1 dn.2.2.1 dn.2.2.2.1 dn.2.2.2.2.1).bind fun iC => ((bV.f k dn.1 dn.2.1 dn.2.2.1 dn.2.2.2.1 dn.2.2.2.2.1).bind fun lh => (if iC.2.2 = 0 then (if lh.2 = 0 then (if (lh.1.length : Int) = (dn.2.2.2.2.1.length : Int) then (if iC.1 < 0 then (ai.j0 k iC.1 iC.2.1 lh.1 true dn.1 dn.2.1 dn.2.2.1 dn.2.2.2.1 dn.2.2.2.2.1) else (ai.j0 k iC.1 iC.2.1 lh.1 (decide (iC.1 ≥ (lh.1.length : Int))) dn.1 dn.2.1 dn.2.2.1 dn.2.2.2.1 dn.2.2.2.2.1)) else (ai.j0 k iC.1 iC.2.1 lh.1 true dn.1 dn.2.1 dn.2.2.1 dn.2.2.2.1 dn.2.2.2.2.1)) else (ai.j0 k iC.1 iC.2.1 lh.1 true dn.1 dn.2.1 dn.2.2.1 dn.2.2.2.1 dn.2.2.2.2.1)) else (ai.j0 k iC.1 iC.2.1 lh.1 true dn.1 dn.2.1 dn.2.2.1 dn.2.2.2.1 dn.2.2.2.2.1))))) (fun k => by rw [ai.f, mP.f, Option.bind_some]) ?_; refine Ev.bind hr (Ev.bind hlook (Ev.bind hle ?_)); refine Ev.pos rfl (Ev.pos rfl (Ev.pos (by simp only [hTl]) (Ev.neg (by simp only []; omega) ?_))); refine Ev.step (fun k => ?_) (hloop sq.length 0 (by omega)); rw [ai.j0, if_neg]
 ·rfl
 ·simp only [hTl]; rw [decide_eq_false (by omega)]; simp
end Go.Proofs.Ytihedeofkhapiaa.Pr
namespace Go.Proofs.Ytihedeofkhapiaa.Pure
theorem SightLooked : Pr.ai.Pure := Pr.KP
end Go.Proofs.Ytihedeofkhapiaa.Pure
end
