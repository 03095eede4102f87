/- Part 34 of 35 of the proof of: SightMore: for every slice of numbers, the law returns true: of a line made of them, with one more light, with fewer marks, or with fewer hands, no more letters fit, and Years does not get wider, as long as the line may be; no condition beyond the statement's own. -/
import Derived.Deep.RegionWith
import Derived.Deep.RegionLaw
import Derived.Deep.RegionHeld3
import Derived.Test.YtihedeofkhapiaaSM22
import Derived.Test.YtihedeofkhapiaaSM24
import Derived.Test.YtihedeofkhapiaaSM27
import Derived.Test.YtihedeofkhapiaaSM33
set_option linter.unusedVariables false
set_option linter.unusedSimpArgs false
section
namespace Go.Proofs.Ytihedeofkhapiaa.Pr
open Go.RowKit Go.Proofs.YtihedeofkhapiaaW.PrintWords Go.Proofs.YtihedeofkhapiaaW.PrintLast Go.Proofs.YtihedeofkhapiaaW.PrintMore
def More.T9 : Bool × List (List Nat × List Nat) := (true, [([], []), ([0], [0]), ([], []), ([], []), ([3], [3]), ([], []), ([4, 5], [4, 5]), ([6], [6]), ([], []), ([], []), ([9], [9]), ([], []), ([10, 11], [10, 11]), ([12], [12]), ([], []), ([13, 14], [13, 14]), ([8, 15], [8, 15]), ([16], [16]), ([7, 17], [7, 17]), ([1, 2, 0, 1, 2, 3, 4, 5, 6, 7, 8, 9, 10, 11, 12, 13, 14, 15, 16, 17, 18], [1, 2]), ([19, 18, 18, 0, 1, 2, 3, 4, 5, 6, 7, 8, 9, 10, 11, 12, 13, 14, 15, 16, 17, 18], [18, 19])])
def More.B9 : List Nat := [0, 1, 0, 0, 8, 0, 56, 120, 0, 0, 512, 0, 3584, 7680, 0, 32256, 65280, 130816, 262136, 524287, 1048575]
theorem More.WP : ow .any (opsOf Try.f8 9) = More.T9 := by kernel_rfl
theorem More.OQ : mX More.T9.2 More.B9 = true := by kernel_rfl
def qL (hs : List S66) (wn sc tt : Int) (sq : List (List S27)) (hs' : List S66) (wn' sc' tt' : Int) (sq' : List (List S27)) : Prop :=
 ∃ (k : Nat) (La Lb : List ByteArray) (e ya yb za zb : Int), bM.f k hs wn sc tt sq = some (La, 0) ∧ bM.f k hs' wn' sc' tt' sq' = some (Lb, e) ∧ bH.f k hs wn sc tt sq = some (ya, yb, 0) ∧ bH.f k hs' wn' sc' tt' sq' = some (za, zb, e) ∧
  eu.f k = some true ∧ (e = 9 ∨ e = 0 ∧ ay.f k Lb La = some true ∧ kZ.f za zb ya yb = some true)
def FQ (n z0 z1 : Int) (hs : List S66) (wn sc tt : Int) (sq : List (List S27)) (vis : List Int) : Prop :=
 (n = 1 ∧ ∃ t' b c : Int, aU.f z0 z1 (wrap64 (tt + 1)) = some (t', b, c) ∧ qL hs wn sc tt sq hs wn sc t' sq) ∨
 (n = 2 ∧ ∃ x y b c d e : Int, aU.f z0 z1 (wrap64 (wn + 1)) = some (x, b, c) ∧ aU.f b c (wrap64 (sc + 1)) = some (y, d, e) ∧ qL hs wn sc tt sq hs x y tt sq) ∨
 (n = 3 ∧ ∃ (j : Nat) (b c : Int), aU.f z0 z1 (hs.length : Int) = some ((j : Int), b, c) ∧ j < hs.length ∧ qL hs wn sc tt sq [ah hs (j : Int)] wn sc tt sq) ∨
 (n = 0 ∧ ∃ (j : Nat) (s a b c d : Int), aU.f z0 z1 (sq.length : Int) = some ((j : Int), a, b) ∧ aU.f a b 32 = some (s, c, d) ∧ j < sq.length ∧ j < vis.length ∧
   ((¬ (fB sq (j : Int)).length < 4 ∧ qL hs wn sc tt sq hs wn sc tt sq) ∨ ((fB sq (j : Int)).length < 4 ∧ qL hs wn sc tt sq hs wn sc tt (sq.set j (fB sq (j : Int) ++ [⟨s, Go.bits .and .i64 (rd vis (j : Int)) s⟩])))))
theorem PR {w : World} {g t t' : Nat} {c c' : Array Value} (h : w.heap[g]? = some (.cells c t (0, 0))) (h' : w.heap[g]? = some (.cells c' t' (0, 0))) : t = t' := by
 rw [h] at h'; injection h' with h'; injection h'
theorem Mf {W : World} {x : S66} {b n : Nat} {A : Option Addr} (hb : W.heap[b]? = some (.cells #[.int .i64 x.f0.f0, .int .i64 x.f0.f1, .slice A x.f1.length n] 66 (0, 0))) (hl : x.f1.length ≤ n) (hi : k86.C W A x.f1.length x.f1) : Kd.C k66 W (some ⟨b, 0, none⟩) 1 [x] := by
 refine ⟨rfl, by decide, fun _ => ⟨_, rfl, fun j p hj => ?_⟩⟩; obtain ⟨h1, h2⟩ := List.getElem?_eq_some_iff.1 hj; (obtain rfl : j = 0 := by simpa using h1); obtain rfl : x = p := h2; refine ⟨_, rfl, MX W x hl hi, fun i u hu => ?_⟩; rw [add_plain, Nat.zero_mul, Nat.zero_add, ag hb i]
 simpa using hu
set_option maxRecDepth 100000 in
set_option maxHeartbeats 8000000 in
theorem Iq (k : Nat) (A0 : Option Addr) (c0 : Nat) (l0 : List Int) (a b : Int) (hs : List S66) (wn sc tt : Int) (sq : List (List S27)) (cut : Int) (txt : ByteArray) (vis : List Int) (y0 y1 n z0 z1 : Int) (w : World) (hr0 : Kd.C (Kd.int .i64) w A0 l0.length l0) (hc0 : l0.length ≤ c0)
 (h2 : kY.f l0 = some (a, b)) (h3 : af.f k a b 3 5 5 = some (hs, wn, sc, tt, sq, cut, txt, vis, y0, y1)) (h4 : aH.f k hs wn sc tt sq = some (hs, wn, sc, tt, sq)) (h5 : aU.f y0 y1 4 = some (n, z0, z1)) (h6 : FQ n z0 z1 hs wn sc tt sq vis) :
 Calls Try.prog 8 #[.slice A0 l0.length c0] w fun e w' => e = .returned (.bool true) ∧ Below w.heap.size w w' := by
 have hu25 := Try.underlying25; have HR0 := aa.mk hr0; have HC0 := aa.mk hc0; have F2 := aa.mk h2; have F3 := aa.mk h3; have F4 := aa.mk h4; have F5 := aa.mk h5; have HCASE := aa.mk h6; clear hr0 hc0 h2 h3 h4 h5 h6; go_enter Try.func8, Try.ntmps8; (go_wp2_with (fail)); refine (kY.calls _ _ l0 _ _ w _ (Below.refl _ _) HR0.out HC0.out F2.out).mono ?_; rintro e w1 ⟨g, rfl, hI, hB, hb2⟩; have HI1 := aa.mk hI; have HB1 := aa.mk hB; have HG1 := aa.mk hI.lt; clear hI hB hb2; (go_wp2_with (fail)); refine (af.calls k g a b 3 5 5 _ _ _ _ _ _ _ _ _ _ w _ HI1.out HB1.out F3.out).mono ?_; rintro e w2 ⟨v0, v4, v7, rfl, ho0, ho1, ho2, hI, hB, hk⟩; obtain ⟨A1, c1, rfl⟩ := Kd.jY ho0; obtain ⟨B1, d1, rfl⟩ := Kd.jY ho1; obtain ⟨V1, e1, rfl⟩ := Kd.fu ho2; have HC1 := aa.mk (Kd.gV ho0).2.1; have HD1 := aa.mk (Kd.gV ho1).2.1; have HO0 := aa.mk ho0; have HO1 := aa.mk ho1; have HO2 := aa.mk ho2; have HO1W := aa.mk (hk.1 : w1.heap.size ≤ w2.heap.size); have HI2 := aa.mk hI; have HB2 := aa.mk hB; clear hI hB ho0 ho1 ho2 hk HI1 HB1; have hlg : g < w1.heap.size := HG1.out; (go_upto_region 3 with (fail)); obtain ⟨W3, hW3⟩ : ∃ W3, W3 = ((w2.alloc (.cells #[.slice A1 hs.length c1, .int .i64 wn, .int .i64 sc, .int .i64 tt, .slice B1 sq.length d1] 25)).alloc (.cells #[.int .i64 cut, .string txt, .slice V1 vis.length e1] 32)) := ⟨_, rfl⟩; (have hb23 : Below w2.heap.size w2 W3 := by rw [hW3]; exact aV (aV (Below.refl _ _) _) _); (have hsz3 : W3.heap.size = w2.heap.size + 2 := by rw [hW3]; simp); have bl3 : W3.heap[w2.heap.size]? = some (.cells #[.slice A1 hs.length c1, .int .i64 wn, .int .i64 sc, .int .i64 tt, .slice B1 sq.length d1] 25 (0, 0)) := by rw [hW3]; exact dm (heap_alloc_new w2 _) _
 have bc3 : W3.heap[w2.heap.size + 1]? = some (.cells #[.int .i64 cut, .string txt, .slice V1 vis.length e1] 32 (0, 0)) := by
  rw [hW3]; have := heap_alloc_new (w2.alloc (.cells #[.slice A1 hs.length c1, .int .i64 wn, .int .i64 sc, .int .i64 tt, .slice B1 sq.length d1] 25)) (.cells #[.int .i64 cut, .string txt, .slice V1 vis.length e1] 32)
  rwa [World.size_alloc] at this
 rw [← hW3]; clear hW3; have BL3 := aa.mk bl3; have BC3 := aa.mk bc3; have HB23 := aa.mk hb23; have HSZ := aa.mk hsz3; have hz0 : W3.cell? ⟨w2.heap.size, 0, none⟩ = some (.slice A1 hs.length c1) := (ag BL3.out 0).trans rfl; have hz1 : W3.cell? ⟨w2.heap.size, 1, none⟩ = some (.int .i64 wn) := (ag BL3.out 1).trans rfl; have hz2 : W3.cell? ⟨w2.heap.size, 2, none⟩ = some (.int .i64 sc) := (ag BL3.out 2).trans rfl; have hz3 : W3.cell? ⟨w2.heap.size, 3, none⟩ = some (.int .i64 tt) := (ag BL3.out 3).trans rfl; have hz4 : W3.cell? ⟨w2.heap.size, 4, none⟩ = some (.slice B1 sq.length d1) := (ag BL3.out 4).trans rfl; clear bl3 bc3 hb23 hsz3 hlg; (go_wp2_with (fail)); refine (aH.calls k A1 c1 hs wn sc tt B1 d1 sq hs wn sc tt sq _ (Kd.eT (Kd.gV HO0.out).2.2 HB23.out) (Kd.gV HO0.out).2.1 (Kd.eT (Kd.gV HO1.out).2.2 HB23.out) (Kd.gV HO1.out).2.1 F4.out).mono ?_; rintro e w4 ⟨x0, x4, rfl, ho0, ho1, hb⟩; obtain ⟨A2, c2, rfl⟩ := Kd.tN ho0; obtain ⟨B2, d2, rfl⟩ := Kd.tN ho1; (obtain ⟨OK, hOK⟩ : ∃ OK : Nat → Prop, OK = fun k => W3.heap.size ≤ k ∧ k < w4.heap.size ∧ ∃ q, q ∈ [39, 27] ∧ ∃ cells, w4.heap[k]? = some (.cells cells q (0, 0)) := ⟨_, rfl⟩); obtain ⟨S0, hS0⟩ : ∃ S0 : Nat → Prop, S0 = fun k => k = g ∨ OK k := ⟨_, rfl⟩
 have hlo : ∀ k, w1.heap.size ≤ k → k < w2.heap.size → ¬ S0 k := fun k h1 h2 h => by
  rw [hS0, hOK] at h; have := HG1.out; have := HSZ.out; rcases h with h | h <;> omega
 have CL1 : aa (∀ W', Kept w4 W' S0 → Kd.C k66 W' A1 hs.length hs) := ⟨fun W' hk => (Kd.gV (Kd.Nc (Kd.je (Kd.zt HO0.out HB23.out) hb) hk (fun k h => hlo k h.1.1 h.2))).2.2⟩; have CL2 : aa (∀ W', Kept w4 W' S0 → Kd.C (Kd.slice 27 k27) W' B1 sq.length sq) := ⟨fun W' hk => (Kd.gV (Kd.Nc (Kd.je (Kd.zt HO1.out HB23.out) hb) hk (fun k h => hlo k h.1.1 h.2))).2.2⟩
 have CX1 : aa (∀ W', Kept w4 W' S0 → Kd.C k66 W' A2 hs.length hs) := ⟨fun W' hk => (Kd.mV (Kd.WA (Kd.zW ho0) hk (fun k h hk => by
  obtain ⟨_, h1, h2, q, hq, cells, hc⟩ := h; rw [hS0, hOK] at hk; (have hg3 : g < W3.heap.size := by have := HG1.out; have := HSZ.out; have := HO1W.out; omega); rcases hk with rfl | ⟨_, _, p, hp, cells', hc'⟩
  ·exact absurd (Nat.lt_of_lt_of_le hg3 h1) (Nat.lt_irrefl _)
  ·have e := PR hc hc'; subst e; have hq' : q ∈ [66, 86] := hq; simp only [List.mem_cons, List.not_mem_nil, or_false] at hq' hp
   rcases hq' with rfl | rfl <;> rcases hp with hp | hp <;> exact absurd hp (by decide)))).2.2⟩
 have CV : aa (∀ W', Kept w4 W' S0 → Kd.C (Kd.int .i64) W' V1 vis.length vis) := ⟨Kd.Hd (Kd.eO (Kd.eO (Kd.jD HO2.out) HB23.out) hb) (fun k h => hlo k h.1 h.2.2.1)⟩; have SX : aa (Kd.S (Kd.slice 27 k27) 39 w4 W3.heap.size OK (.slice B2 sq.length d2) sq) := ⟨Kd.ng (Kd.zW ho1) (fun k h => by rw [hOK]; exact ⟨h.2.1, h.2.2.1, h.2.2.2⟩)⟩; have HW4 := aa.mk hb; have BL4 := aa.mk (aG BL3.out hb); have BC4 := aa.mk (aG BC3.out hb); have HS0 := aa.mk hS0; have HOKd := aa.mk hOK; have HCX := aa.mk (Kd.mV ho0).2.1; have HDX := aa.mk (Kd.mV ho1).2.1; clear hz0 hz1 hz2 hz3 hz4 hb ho0 ho1 hlo hS0 hOK; (go_upto_region 4 with (fail)); obtain ⟨W5, hW5⟩ : ∃ W5, W5 = (w4.alloc (.cells #[.slice A2 hs.length c2, .int .i64 wn, .int .i64 sc, .int .i64 tt, .slice B2 sq.length d2] 25)) := ⟨_, rfl⟩; have BX5 := aa.mk (show W5.heap[w4.heap.size]? = some (.cells #[.slice A2 hs.length c2, .int .i64 wn, .int .i64 sc, .int .i64 tt, .slice B2 sq.length d2] 25 (0, 0)) by rw [hW5]; exact heap_alloc_new w4 _); have HK5 := aa.mk (show Kept w4 W5 S0 by rw [hW5]; exact (Kept.refl w4 S0).alloc _); have HI5 := aa.mk (show aX w W5 g y0 y1 by rw [hW5]; exact ((HI2.out.below HB23.out).below HW4.out).alloc _); have HB5 := aa.mk (show Below w.heap.size w W5 by rw [hW5]; exact aV (aW (aW HB2.out HB23.out) HW4.out) _); have SX5 := aa.mk (show Kd.S (Kd.slice 27 k27) 39 W5 W3.heap.size OK (.slice B2 sq.length d2) sq by rw [hW5]; exact Kd.JM SX.out _); rw [← hW5]; clear hW5
 go_upto_block 0 with (refine (aU.calls g y0 y1 4 n z0 z1 w _ HI5.out HB5.out F5.out).mono ?_; rintro e w6 ⟨rfl, hi, hb, hk⟩)
 have HI6 := aa.mk hi; have HB6 := aa.mk hb; have HK6 := aa.mk (HK5.out.tO hk (by rw [HS0.out]; exact .inl (.inl rfl))); have HNG := aa.mk (show w4.heap.size ≠ g by have := HG1.out; have := HSZ.out; have := HW4.out.size; have := HO1W.out; omega); have HGW := aa.mk (show w.heap.size ≤ w4.heap.size by have := HB2.out.size; have := HSZ.out; have := HW4.out.size; omega)
 have HNL := aa.mk (show ¬ S0 w2.heap.size by
  rw [HS0.out, HOKd.out]; have := HG1.out; have := HO1W.out; have := HSZ.out
  rintro (h | h) <;> omega)
 have HNC := aa.mk (show ¬ S0 (w2.heap.size + 1) by
  rw [HS0.out, HOKd.out]; have := HG1.out; have := HO1W.out; have := HSZ.out
  rintro (h | h) <;> omega)
 have BX6 := aa.mk (hk.blk BX5.out HNG.out (by simp))
 have HOG := aa.mk (show ∀ k, OK k → k ≠ g by
  rw [HOKd.out]; rintro k ⟨h, _⟩; have := HG1.out; have := HSZ.out; have := HO1W.out
  omega)
 have HOX := aa.mk (show ∀ k, OK k → k ≠ w4.heap.size by
  rw [HOKd.out]; rintro k ⟨_, h, _⟩
  omega)
 have SX6 := aa.mk (Kd.wS SX5.out hk HOG.out); clear hi hb hk HI5 HB5 HK5 BX5 SX5 HR0 F2 F3 F4 F5 HI2; go_cut [] (fun wc => ∃ (hs' : List S66) (wn' sc' tt' : Int) (sq' : List (List S27)) (A3 : Option Addr) (c3 : Nat) (B3 : Option Addr) (d3 : Nat), aa (qL hs wn sc tt sq hs' wn' sc' tt' sq') ∧ aa (wc.heap[w4.heap.size]? = some (.cells #[.slice A3 hs'.length c3, .int .i64 wn', .int .i64 sc', .int .i64 tt', .slice B3 sq'.length d3] 25 (0, 0))) ∧ aa (Kd.C k66 wc A3 hs'.length hs' ∧ hs'.length ≤ c3 ∧ Kd.C (Kd.slice 27 k27) wc B3 sq'.length sq' ∧ sq'.length ≤ d3) ∧ aa (Kept w4 wc S0) ∧ aa (Below w.heap.size w wc))
 case first =>
  rcases HCASE.out with ⟨rfl, t', b, c, hu, ht⟩ | ⟨rfl, x, y, b, c, d, e', hu, hu2, ht⟩ | ⟨rfl, j, b, c, hu, hj, ht⟩ | ⟨rfl, j, s, a', b', c, d, hu, hu2, hj, hjv, hr⟩
  ·have HU := aa.mk hu; have HT := aa.mk ht; clear hu ht HCASE; have hz3 : w6.cell? ⟨w4.heap.size, 3, none⟩ = some (.int .i64 tt) := (ag BX6.out 3).trans rfl; have hf := aM BX6.out 3; (go_wp2_with (fail)); refine (aU.calls g z0 z1 (wrap64 (tt + 1)) t' b c w _ HI6.out HB6.out HU.out).mono ?_; rintro e w7 ⟨rfl, hi, hb, hk⟩; have BX7 := aa.mk (hk.blk BX6.out HNG.out (by simp)); have HK7 := aa.mk (HK6.out.tO hk (by rw [HS0.out]; exact .inl (.inl rfl))); have HB7 := aa.mk hb; have SX7 := aa.mk (Kd.wS SX6.out hk HOG.out); have hz3' : w7.cell? ⟨w4.heap.size, 3, none⟩ = some (.int .i64 tt) := (ag BX7.out 3).trans rfl; have hf' := aM BX7.out 3; clear hi hb hk hz3 hf; (go_wp2_with (fail)); go_meet; case rel => exact ⟨hs, wn, sc, t', sq, A2, c2, B2, d2, HT, ⟨bR BX7.out 3 _ rfl⟩, ⟨CX1.out _ (HK7.out.setCell (.inr (Nat.le_refl _)) _), HCX.out, (Kd.mV (Kd.mR SX7.out HOX.out _)).2.2, HDX.out⟩, ⟨HK7.out.setCell (.inr (Nat.le_refl _)) _⟩, ⟨HB7.out.setCell (p := ⟨w4.heap.size, 3, none⟩) HGW.out _⟩⟩
  ·rw [w64] at hu hu2; have HU := aa.mk hu; have HU2 := aa.mk hu2; have HT := aa.mk ht; clear hu hu2 ht HCASE; have hz1 : w6.cell? ⟨w4.heap.size, 1, none⟩ = some (.int .i64 wn) := (ag BX6.out 1).trans rfl; have hz2 : w6.cell? ⟨w4.heap.size, 2, none⟩ = some (.int .i64 sc) := (ag BX6.out 2).trans rfl; have hf1 := aM BX6.out 1; have hf2 := aM BX6.out 2; go_wp2_with (fail)
   go_region_with (first
    | (go_at_call 33
       (with_reducible refine (aU.calls g z0 z1 _ x b c w _ ?_ ?_ HU.out).mono ?_); exact HI6.out.drew; exact jE HB6.out; rintro e w7 ⟨rfl, hi, hb, hk⟩; have BX7 := aa.mk (hk.blk (dQ BX6.out) HNG.out (by simp)); have HK7 := aa.mk (HK6.out.drew.tO hk (by rw [HS0.out]; exact .inl (.inl rfl))); have HI7 := aa.mk hi; have HB7 := aa.mk hb; have SX7 := aa.mk (Kd.wS (Kd.DW SX6.out) hk HOG.out); have hz1 : w7.cell? ⟨w4.heap.size, 1, none⟩ = some (.int .i64 wn) := (ag BX7.out 1).trans rfl; have hz2 : w7.cell? ⟨w4.heap.size, 2, none⟩ = some (.int .i64 sc) := (ag BX7.out 2).trans rfl; have hf1 := aM BX7.out 1; have hf2 := aM BX7.out 2
       clear hi hb hk)
    | (go_at_call 33
       (with_reducible refine (aU.calls g b c _ y d e' w _ ?_ ?_ HU2.out).mono ?_); exact HI7.out; exact HB7.out; rintro e w8 ⟨rfl, hi, hb, hk⟩; have BX8 := aa.mk (hk.blk BX7.out HNG.out (by simp)); have HK8 := aa.mk (HK7.out.tO hk (by rw [HS0.out]; exact .inl (.inl rfl))); have HB8 := aa.mk hb; have SX8 := aa.mk (Kd.wS SX7.out hk HOG.out); have hz1 : w8.cell? ⟨w4.heap.size, 1, none⟩ = some (.int .i64 wn) := (ag BX8.out 1).trans rfl; have hz2 : w8.cell? ⟨w4.heap.size, 2, none⟩ = some (.int .i64 sc) := (ag BX8.out 2).trans rfl; have hf1 := aM BX8.out 1; have hf2 := aM BX8.out 2
       clear hi hb hk))
   all_goals
    go_wp2_with (fail)
    go_meet
    case rel => exact ⟨hs, x, y, tt, sq, A2, c2, B2, d2, HT, ⟨bR (bR BX8.out 1 _ rfl) 2 _ rfl⟩, ⟨CX1.out _ ((HK8.out.setCell (.inr (Nat.le_refl _)) _).setCell (.inr (Nat.le_refl _)) _), HCX.out, (Kd.mV (Kd.mR (Kd.mR SX8.out HOX.out _) HOX.out _)).2.2, HDX.out⟩, ⟨(HK8.out.setCell (.inr (Nat.le_refl _)) _).setCell (.inr (Nat.le_refl _)) _⟩, ⟨(HB8.out.setCell (p := ⟨w4.heap.size, 1, none⟩) HGW.out _).setCell (p := ⟨w4.heap.size, 2, none⟩) HGW.out _⟩⟩
  ·have HU := aa.mk hu; have HT := aa.mk ht; have HJ := aa.mk hj; clear hu ht hj HCASE; have hz0 : w6.cell? ⟨w4.heap.size, 0, none⟩ = some (.slice A2 hs.length c2) := (ag BX6.out 0).trans rfl; have hf0 := aM BX6.out 0; obtain ⟨ad, E2, n2, eA, _, _, _, hl2, _⟩ := oM (CX1.out _ HK6.out) (j : Int) (by omega) (by have := HJ.out; omega); subst eA; (have hj1 : decide ((j : Int) < (hs.length : Int)) = true := by have := HJ.out; simp; omega); (have hj0 : decide (0 ≤ (j : Int)) = true := by simp); (have hj2 : (j : Int) < (hs.length : Int) := by have := HJ.out; omega); clear hl2; go_wp2_with (fail)
   go_region_with (first
    | (go_at_call 33
       (with_reducible refine (aU.calls g z0 z1 _ (j : Int) b c w _ ?_ ?_ HU.out).mono ?_); exact HI6.out.drew; exact jE HB6.out; rintro e w7 ⟨rfl, hi, hb, hk⟩; have BX7 := aa.mk (hk.blk (dQ BX6.out) HNG.out (by simp)); have HK7 := aa.mk (HK6.out.drew.tO hk (by rw [HS0.out]; exact .inl (.inl rfl))); have HB7 := aa.mk hb; have SX7 := aa.mk (Kd.wS (Kd.DW SX6.out) hk HOG.out); have hz0 : w7.cell? ⟨w4.heap.size, 0, none⟩ = some (.slice (some ad) hs.length c2) := (ag BX7.out 0).trans rfl; have hf0 := aM BX7.out 0; obtain ⟨ad', E2, n2, eA, hx0, hx1, hx2, hl2, hi2⟩ := oM (CX1.out _ HK7.out) (j : Int) (by omega) hj2; cases eA; rw [Int.toNat_natCast] at hx0 hx1 hx2; have HL2 := aa.mk hl2; have HI2 := aa.mk hi2; have hlt7 : w4.heap.size < w7.heap.size := bF BX7.out
       clear hi hb hk hl2 hi2))
   all_goals
    go_wp2_with (fail)
    go_meet
    case rel =>
     have hKE := (HK7.out.setCell (p := ⟨w4.heap.size, 0, none⟩) (.inr (Nat.le_refl _)) (.slice (some ⟨w7.heap.size, 0, none⟩) 1 1)).alloc (.cells #[.int .i64 (ah hs (j : Int)).f0.f0, .int .i64 (ah hs (j : Int)).f0.f1, .slice E2 (ah hs (j : Int)).f1.length n2] 66); refine ⟨[ah hs (j : Int)], wn, sc, tt, sq, some ⟨w7.heap.size, 0, none⟩, 1, B2, d2, HT, ⟨dm (bR BX7.out 0 _ rfl) _⟩, ⟨?_, by simp, (Kd.mV (Kd.JM (Kd.mR SX7.out HOX.out _) _)).2.2, HDX.out⟩, ⟨hKE⟩, ⟨aV (HB7.out.setCell (p := ⟨w4.heap.size, 0, none⟩) HGW.out _) _⟩⟩; obtain ⟨ad1, E3, n3, eA, _, _, hx3, _, _⟩ := oM (CX1.out _ (Kept.refl w4 S0)) (j : Int) (by omega) hj2; cases eA; obtain ⟨ad2, E4, n4, eA, _, _, hx4, hl4, hi4⟩ := oM (CX1.out _ hKE) (j : Int) (by omega) hj2; cases eA; rw [Int.toNat_natCast] at hx3 hx4; have hne := Nat.ne_of_lt (World.block_lt_of_cell? _ _ hx3); have hx5 := Go.Proofs.YtihedeofkhapiaaW.PrintWords.cell_kept hx2 (((Kept.refl w7 (fun k => k = w4.heap.size)).setCell (p := ⟨w4.heap.size, 0, none⟩) (.inl rfl) (.slice (some ⟨w7.heap.size, 0, none⟩) 1 1)).alloc (.cells #[.int .i64 (ah hs (j : Int)).f0.f0, .int .i64 (ah hs (j : Int)).f0.f1, .slice E2 (ah hs (j : Int)).f1.length n2] 66)) hne; have he := hx5.symm.trans hx4; injection he with he; injection he with he1 he2 he3; subst he1; subst he3; refine Mf ?_ hl4 hi4; have := heap_alloc_new (w7.setCell ⟨w4.heap.size, 0, none⟩ (.slice (some ⟨w7.heap.size, 0, none⟩) 1 1)) (.cells #[.int .i64 (ah hs (j : Int)).f0.f0, .int .i64 (ah hs (j : Int)).f0.f1, .slice E2 (ah hs (j : Int)).f1.length n2] 66)
     rwa [World.size_setCell] at this
  ·have HU := aa.mk hu; have HU2 := aa.mk hu2; have HJV := aa.mk hjv; have HR := aa.mk hr; (have hj1 : (j : Int) < (sq.length : Int) := by omega); obtain ⟨gB, cp, hv, hgb, hgl, _⟩ := Kd.XM SX6.out (by omega); injection hv with hv1 hv2 hv3; subst hv1; subst hv3; clear hu hu2 hj hjv hr HCASE hgb hgl hv2; have hz4 : w6.cell? ⟨w4.heap.size, 4, none⟩ = some (.slice (some ⟨gB, 0, none⟩) sq.length d2) := (ag BX6.out 4).trans rfl; (go_wp2_with (fail)); refine (aU.calls g z0 z1 (sq.length : Int) (j : Int) a' b' w _ HI6.out HB6.out HU.out).mono ?_; rintro e w7 ⟨rfl, hi, hb, hk⟩; have BX7 := aa.mk (hk.blk BX6.out HNG.out (by simp)); have HK7 := aa.mk (HK6.out.tO hk (by rw [HS0.out]; exact .inl (.inl rfl))); have HI7 := aa.mk hi; have HB7 := aa.mk hb; have SX7 := aa.mk (Kd.wS SX6.out hk HOG.out); clear hi hb hk hz4; (go_wp2_with (fail)); refine (aU.calls g a' b' 32 s c d w _ HI7.out HB7.out HU2.out).mono ?_; rintro e w8 ⟨rfl, hi, hb, hk⟩; have BX8 := aa.mk (hk.blk BX7.out HNG.out (by simp)); have HK8 := aa.mk (HK7.out.tO hk (by rw [HS0.out]; exact .inl (.inl rfl))); have HB8 := aa.mk hb; have SX8 := aa.mk (Kd.wS SX7.out hk HOG.out); clear hi hb hk; have hz4 : w8.cell? ⟨w4.heap.size, 4, none⟩ = some (.slice (some ⟨gB, 0, none⟩) sq.length d2) := (ag BX8.out 4).trans rfl; obtain ⟨oki, cl, hcl, hM, hcc, hfr, hoki, hH⟩ := Kd.Wy SX8.out [] (j : Int) (by omega) hj1; obtain ⟨vi, rfl, hRi⟩ := hM; obtain ⟨E, m, rfl⟩ := Kd.fu hRi
   have hx0 : w8.cell? ⟨gB, j, none⟩ = some (.slice E (sq.getD (j : Int).toNat []).length m) := by
    have := hcc 0 _ rfl
    rwa [show (Kd.slice 27 k27).sz = 1 from rfl, Nat.mul_one, Nat.add_zero, Int.toNat_natCast] at this
   have hf0 : w8.frozen? ⟨gB, j, none⟩ = false := by
    have := hfr 0
    rwa [show (Kd.slice 27 k27).sz = 1 from rfl, Nat.mul_one, Nat.add_zero, Int.toNat_natCast] at this
   obtain ⟨qj, hqj⟩ : ∃ qj, qj = fB sq (j : Int) := ⟨_, rfl⟩; have hqj' : sq.getD (j : Int).toNat [] = qj := hqj.symm; rw [hqj'] at hx0 hRi; have HQJ := aa.mk hqj; have HRI := aa.mk hRi; have HH := aa.mk hH; have HOKI := aa.mk hoki; clear hqj' hqj hRi hH hoki hcc hfr hcl; have HR' := HR.out; rw [← HQJ.out] at HR'; rcases HR' with ⟨hlt, ht⟩ | ⟨hlt, ht⟩
   ·have hd : decide (qj.length < 4) = false := decide_eq_false hlt; have hd' : decide ((qj.length : Int) < 4) = false := decide_eq_false (by omega); have HT := aa.mk ht; clear ht hlt; (go_wp2_with (fail)); go_meet; case rel => exact ⟨hs, wn, sc, tt, sq, A2, c2, _, d2, HT, BX8, ⟨CX1.out _ HK8.out, HCX.out, (Kd.mV SX8.out).2.2, HDX.out⟩, HK8, HB8⟩
   ·have hd : decide (qj.length < 4) = true := decide_eq_true hlt; have hd' : decide ((qj.length : Int) < 4) = true := decide_eq_true (by omega); have HT := aa.mk ht; have HLT := aa.mk hlt; clear ht hlt; have BC8 := aa.mk (xy BC4.out HK8.out HNC.out); have hc2 : w8.cell? ⟨w2.heap.size + 1, 2, none⟩ = some (.slice V1 vis.length e1) := (ag BC8.out 2).trans rfl; obtain ⟨adv, eV, hxv⟩ := Kd.ul (CV.out _ HK8.out) (j : Int) (by omega) (by have := HJV.out; omega); subst eV; rw [Int.toNat_natCast] at hxv; have hjv : decide ((j : Int) < (vis.length : Int)) = true := decide_eq_true (by have := HJV.out; omega); (have hjvi : (j : Int) < (vis.length : Int) := by have := HJV.out; omega); have hjs : decide ((j : Int) < (sq.length : Int)) = true := decide_eq_true hj1; (have hj0 : decide (0 ≤ (j : Int)) = true := by simp); have HSW := aa.mk (show W3.heap.size ≤ w8.drew.heap.size from Nat.le_trans HW4.out.size HK8.out.1); have HLB := aa.mk (show (qj.length + 1) * 16 ≤ 140737488355328 by have := HLT.out; omega); have HVO := aa.mk HRI.out.1; have HX0 := aa.mk hx0; have HF0 := aa.mk hf0; have hl1 : gB < w8.heap.size := World.block_lt_of_cell? w8 _ hx0; have hl2 : w4.heap.size < w8.heap.size := bF BX8.out; have hl3 : w2.heap.size + 1 < w8.heap.size := bF BC8.out; have HLG := aa.mk (show gB < w8.drew.heap.size from World.block_lt_of_cell? w8 _ hx0); (go_wp2_with (fail)); refine rP (n := 21) (S := fun w' => w'.cell? ⟨w4.heap.size, 4, none⟩ = some (.slice (some ⟨gB, 0, none⟩) sq.length d2) ∧ w'.cell? ⟨gB, j, none⟩ = some (.slice E qj.length m) ∧ w'.cell? ⟨w2.heap.size + 1, 2, none⟩ = some (.slice (some adv) vis.length e1) ∧ w'.cell? (adv.add j) = some (.int .i64 (rd vis (j : Int)))) (ds := [20]) #[false, false, false, false, false, false, false, false, false, false, false, false, false, false, false, false, false, false, false, false, false] (by kernel_rfl) rfl rfl ⟨hz4, hx0, hc2, hxv⟩ (fun cz => ?_); refine nH More.WP More.OQ (fun HT_ HW_ => ?_); refine eY (i := 0) (N := some 55) (v := ?_) (a' := ?_) #[true, false, false, false, false, false, false, false, false, false, false, false, false, false, false, false, false, false, false, false, false] rfl rfl (dP HT_.out (by kernel_rfl)) (fun _ _ _ h => h) (Or.inl ⟨by rfl, ?_⟩) ?_ ?_; rotate_left
    ·intro w'; go_simp; with_reducible rfl
    rotate_left
    ·simp only [Act.put, List.setIfInBounds_toArray, List.set_cons_zero, List.set_cons_succ, cu, cZ]; rfl
    refine eY (i := 2) (N := some 57) (v := ?_) (a' := ?_) #[true, false, true, false, false, false, false, false, false, false, false, false, false, false, false, false, false, false, false, false, false] rfl rfl (dP HT_.out (by kernel_rfl)) (fun _ _ _ h => h) (Or.inl ⟨by rfl, ?_⟩) ?_ ?_; rotate_left
    ·intro w'; go_simp; with_reducible rfl
    rotate_left
    ·simp only [Act.put, List.setIfInBounds_toArray, List.set_cons_zero, List.set_cons_succ, cu, cZ]; rfl
    refine eY (i := 3) (N := some 58) (v := ?_) (a' := ?_) #[true, false, true, true, false, false, false, false, false, false, false, false, false, false, false, false, false, false, false, false, false] rfl rfl (dP HT_.out (by kernel_rfl)) (fun _ _ _ h => h) (Or.inl ⟨by rfl, ?_⟩) ?_ ?_; rotate_left
    ·intro w'; go_simp; with_reducible rfl
    rotate_left
    ·simp only [Act.put, List.setIfInBounds_toArray, List.set_cons_zero, List.set_cons_succ, cu, cZ]; rfl
    refine eY (i := 5) (N := some 60) (v := ?_) (a' := ?_) #[true, false, true, true, false, true, false, false, false, false, false, false, false, false, false, false, false, false, false, false, false] rfl rfl (dP HT_.out (by kernel_rfl)) (fun _ _ _ h => h) (Or.inl ⟨by rfl, ?_⟩) ?_ ?_; rotate_left
    ·intro w'; go_simp; with_reducible rfl
    rotate_left
    ·simp only [Act.put, List.setIfInBounds_toArray, List.set_cons_zero, List.set_cons_succ, cu, cZ]; rfl
    refine eY (i := 8) (N := some 63) (v := ?_) (a' := ?_) #[true, false, true, true, false, true, false, false, true, false, false, false, false, false, false, false, false, false, false, false, false] rfl rfl (dP HT_.out (by kernel_rfl)) (fun _ _ _ h => h) (Or.inl ⟨by rfl, ?_⟩) ?_ ?_; rotate_left
    ·intro w'; go_simp; with_reducible rfl
    rotate_left
    ·simp only [Act.put, List.setIfInBounds_toArray, List.set_cons_zero, List.set_cons_succ, cu, cZ]; rfl
    refine eY (i := 9) (N := some 64) (v := ?_) (a' := ?_) #[true, false, true, true, false, true, false, false, true, true, false, false, false, false, false, false, false, false, false, false, false] rfl rfl (dP HT_.out (by kernel_rfl)) (fun _ _ _ h => h) (Or.inl ⟨by rfl, ?_⟩) ?_ ?_; rotate_left
    ·intro w'; go_simp; with_reducible rfl
    rotate_left
    ·simp only [Act.put, List.setIfInBounds_toArray, List.set_cons_zero, List.set_cons_succ, cu, cZ]; rfl
    refine eY (i := 11) (N := some 66) (v := ?_) (a' := ?_) #[true, false, true, true, false, true, false, false, true, true, false, true, false, false, false, false, false, false, false, false, false] rfl rfl (dP HT_.out (by kernel_rfl)) (fun _ _ _ h => h) (Or.inl ⟨by rfl, ?_⟩) ?_ ?_; rotate_left
    ·intro w'; go_simp; with_reducible rfl
    rotate_left
    ·simp only [Act.put, List.setIfInBounds_toArray, List.set_cons_zero, List.set_cons_succ, cu, cZ]; rfl
    refine eY (i := 14) (N := some 69) (v := ?_) (a' := ?_) #[true, false, true, true, false, true, false, false, true, true, false, true, false, false, true, false, false, false, false, false, false] rfl rfl (dP HT_.out (by kernel_rfl)) (fun _ _ _ h => h) (Or.inl ⟨by rfl, ?_⟩) ?_ ?_; rotate_left
    ·intro w'; go_simp; with_reducible rfl
    rotate_left
    ·simp only [Act.put, List.setIfInBounds_toArray, List.set_cons_zero, List.set_cons_succ, cu, cZ]; rfl
    refine kJ (i := 1) (N := some 56) (v := ?_) (a' := ?_) #[true, true, true, true, false, true, false, false, true, true, false, true, false, false, true, false, false, false, false, false, false] rfl rfl (gW HT_.out HW_.out (by kernel_rfl)) (fun _ _ _ h => h) (Or.inl ⟨by rfl, ?_⟩) cz ?_ ?_; rotate_left
    ·rintro w' ⟨s0, s1, s2, s3⟩; go_simp; with_reducible rfl
    rotate_left
    ·simp only [Act.put, List.setIfInBounds_toArray, List.set_cons_zero, List.set_cons_succ, cu, cZ]; rfl
    refine kJ (i := 4) (N := some 59) (v := ?_) (a' := ?_) #[true, true, true, true, true, true, false, false, true, true, false, true, false, false, true, false, false, false, false, false, false] rfl rfl (gW HT_.out HW_.out (by kernel_rfl)) (fun _ _ _ h => h) (Or.inl ⟨by rfl, ?_⟩) cz ?_ ?_; rotate_left
    ·rintro w' ⟨s0, s1, s2, s3⟩; go_simp; with_reducible rfl
    rotate_left
    ·simp only [Act.put, List.setIfInBounds_toArray, List.set_cons_zero, List.set_cons_succ, cu, cZ]; rfl
    refine eY (i := 6) (N := some 61) (v := ?_) (a' := ?_) #[true, true, true, true, true, true, true, false, true, true, false, true, false, false, true, false, false, false, false, false, false] rfl rfl (dP HT_.out (by kernel_rfl)) (fun _ _ _ h => h) (Or.inl ⟨by rfl, ?_⟩) ?_ ?_; rotate_left
    ·intro w'; go_simp; with_reducible rfl
    rotate_left
    ·simp only [Act.put, List.setIfInBounds_toArray, List.set_cons_zero, List.set_cons_succ, cu, cZ]; rfl
    refine kJ (i := 7) (N := some 62) (v := ?_) (a' := ?_) #[true, true, true, true, true, true, true, true, true, true, false, true, false, false, true, false, false, false, false, false, false] rfl rfl (gW HT_.out HW_.out (by kernel_rfl)) (fun _ _ _ h => h) (Or.inl ⟨by rfl, ?_⟩) cz ?_ ?_; rotate_left
    ·rintro w' ⟨s0, s1, s2, s3⟩; go_simp; with_reducible rfl
    rotate_left
    ·simp only [Act.put, List.setIfInBounds_toArray, List.set_cons_zero, List.set_cons_succ, cu, cZ]; rfl
    refine kJ (i := 10) (N := some 65) (v := ?_) (a' := ?_) #[true, true, true, true, true, true, true, true, true, true, true, true, false, false, true, false, false, false, false, false, false] rfl rfl (gW HT_.out HW_.out (by kernel_rfl)) (fun _ _ _ h => h) (Or.inl ⟨by rfl, ?_⟩) cz ?_ ?_; rotate_left
    ·rintro w' ⟨s0, s1, s2, s3⟩; go_simp; with_reducible rfl
    rotate_left
    ·simp only [Act.put, List.setIfInBounds_toArray, List.set_cons_zero, List.set_cons_succ, cu, cZ]; rfl
    refine eY (i := 12) (N := some 67) (v := ?_) (a' := ?_) #[true, true, true, true, true, true, true, true, true, true, true, true, true, false, true, false, false, false, false, false, false] rfl rfl (dP HT_.out (by kernel_rfl)) (fun _ _ _ h => h) (Or.inl ⟨by rfl, ?_⟩) ?_ ?_; rotate_left
    ·intro w'; go_simp; with_reducible rfl
    rotate_left
    ·simp only [Act.put, List.setIfInBounds_toArray, List.set_cons_zero, List.set_cons_succ, cu, cZ]; rfl
    refine kJ (i := 13) (N := some 68) (v := ?_) (a' := ?_) #[true, true, true, true, true, true, true, true, true, true, true, true, true, true, true, false, false, false, false, false, false] rfl rfl (gW HT_.out HW_.out (by kernel_rfl)) (fun _ _ _ h => h) (Or.inl ⟨by rfl, ?_⟩) cz ?_ ?_; rotate_left
    ·rintro w' ⟨s0, s1, s2, s3⟩; go_simp; with_reducible rfl
    rotate_left
    ·simp only [Act.put, List.setIfInBounds_toArray, List.set_cons_zero, List.set_cons_succ, cu, cZ]; rfl
    refine eY (i := 15) (N := some 70) (v := ?_) (a' := ?_) #[true, true, true, true, true, true, true, true, true, true, true, true, true, true, true, true, false, false, false, false, false] rfl rfl (dP HT_.out (by kernel_rfl)) (fun _ _ _ h => h) (Or.inl ⟨by rfl, ?_⟩) ?_ ?_; rotate_left
    ·intro w'; go_simp; with_reducible rfl
    rotate_left
    ·simp only [Act.put, List.setIfInBounds_toArray, List.set_cons_zero, List.set_cons_succ, cu, cZ]; rfl
    refine eY (i := 16) (N := some 71) (v := ?_) (a' := ?_) #[true, true, true, true, true, true, true, true, true, true, true, true, true, true, true, true, true, false, false, false, false] rfl rfl (dP HT_.out (by kernel_rfl)) (fun _ _ _ h => h) (Or.inl ⟨by rfl, ?_⟩) ?_ ?_; rotate_left
    ·intro w'; go_simp; with_reducible rfl
    rotate_left
    ·simp only [Act.put, List.setIfInBounds_toArray, List.set_cons_zero, List.set_cons_succ, cu, cZ]; rfl
    refine qd (i := 17) (N := some 72) #[true, true, true, true, true, true, true, true, true, true, true, true, true, true, true, true, true, true, false, false, false] rfl rfl (iQ HT_.out (by kernel_rfl)) (by decide) (fun K hK => ?_); refine yB (v := .slice (some ⟨w8.heap.size, 0, none⟩) 1 1) (w1 := w8.drew.alloc (.cells #[.int .i64 s, .int .i64 (Go.bits .and .i64 (rd vis (j : Int)) s)] 27)) (by rfl) rfl ?_ ?_
    ·go_simp
    refine hK.out _ _ ⟨(World.cell?_alloc_lt w8.drew _ _ hl2).trans hz4, (World.cell?_alloc_lt w8.drew _ _ hl1).trans hx0, (World.cell?_alloc_lt w8.drew _ _ hl3).trans hc2, (World.cell?_alloc_lt w8.drew _ _ (World.block_lt_of_cell? w8 _ hxv)).trans hxv⟩ (fun cz => ?_); clear hK K; refine gI (a' := ?_) ?_ ?_; rotate_left
    ·show Act.put _ (some 72) _ = _; simp only [Act.put, List.setIfInBounds_toArray, List.set_cons_zero, List.set_cons_succ, cu, cZ]; rfl
    refine qd (i := 18) (N := some 73) #[true, true, true, true, true, true, true, true, true, true, true, true, true, true, true, true, true, true, true, false, false] rfl rfl (iQ HT_.out (by kernel_rfl)) (by decide) (fun K hK => ?_); refine Kd.rQ k27 (w0 := w8.drew) (W := w8.drew) W3.heap.size ?_ (.tmp 62) (.tmp 72) 39 27 (.agg #[.int .i64 0, .int .i64 0]) 16 rfl Try.underlying39 Hz rfl (by decide) (by decide) (.slice E qj.length m) qj ⟨s, Go.bits .and .i64 (rd vis (j : Int)) s⟩ [.int .i64 s, .int .i64 (Go.bits .and .i64 (rd vis (j : Int)) s)] (fun k => oki k ∨ w8.heap.size ≤ k) (fun _ => False) rfl rfl (vV _ _ _ _) (fun _ h => h.elim) (fun k h => .inr h) (Kd.df (Kd.qz HRI.out) (fun k h => .inl h)) (Below.refl _ _) ?_ ?_ ?_
    ·rfl
    ·exact HSW.out
    ·exact HLB.out
    intro v1 w9 hr1 _ hg1 hat1; obtain ⟨E9, m9, rfl⟩ := Kd.fu hr1; have HK9 := aa.mk (Kept.mU hg1 HK8.out.drew (fun k hk => .inl (by rw [HS0.out]; exact .inr (HOKI.out _ (HVO.out _ hk)).1))); have hc2' : w9.cell? ⟨w2.heap.size + 1, 2, none⟩ = some (.slice (some adv) vis.length e1) := (ag (xy BC4.out HK9.out HNC.out) 2).trans rfl; obtain ⟨adv', eV, hxv'⟩ := Kd.ul (CV.out _ HK9.out) (j : Int) (by omega) hjvi; injection eV with eV; subst eV; rw [Int.toNat_natCast] at hxv'; have BX9 := aa.mk (dn (dQ BX8.out) hg1 (fun e => HOX.out _ (HOKI.out _ (HVO.out _ e.symm)).1 rfl)); have HR1 := aa.mk hr1; have HG9 := aa.mk hg1; have hgb := hg1.block gB HLG.out (fun e => (HOKI.out _ (HVO.out _ e.symm)).2 rfl); have hx0' : w9.cell? ⟨gB, j, none⟩ = some (.slice E qj.length m) := (World.cell?_of_block hgb).trans HX0.out; have hf0' : w9.frozen? ⟨gB, j, none⟩ = false := (World.frozen?_of_block hgb).trans HF0.out; have hz4' : w9.cell? ⟨w4.heap.size, 4, none⟩ = some (.slice (some ⟨gB, 0, none⟩) sq.length d2) := (ag BX9.out 4).trans rfl; refine hK.out _ _ ⟨hz4', hx0', hc2', hxv'⟩ (fun cz => ?_); clear hK K; refine gI (a' := ?_) ?_ ?_; rotate_left
    ·show Act.put _ (some 73) _ = _; simp only [Act.put, List.setIfInBounds_toArray, List.set_cons_zero, List.set_cons_succ, cu, cZ]; rfl
    refine eY (i := 19) (N := some 74) (v := ?_) (a' := ?_) #[true, true, true, true, true, true, true, true, true, true, true, true, true, true, true, true, true, true, true, true, false] rfl rfl (dP HT_.out (by kernel_rfl)) (fun _ _ _ h => h) (Or.inl ⟨by rfl, ?_⟩) ?_ ?_; rotate_left
    ·intro w'; go_simp; with_reducible rfl
    rotate_left
    ·simp only [Act.put, List.setIfInBounds_toArray, List.set_cons_zero, List.set_cons_succ, cu, cZ]; rfl
    refine Cc (i := 20) (N := none) #[true, true, true, true, true, true, true, true, true, true, true, true, true, true, true, true, true, true, true, true, true] rfl rfl (iQ HT_.out (by kernel_rfl)) (by decide) (fun K hK => ?_); refine wJ (w1 := ?_) (by rfl) rfl ?_ ?_; rotate_left
    ·go_simp; rfl
    refine hK.out _ _ ?_; clear hK K; refine wG (rq HT_.out (by kernel_rfl)) ?_; (go_wp2_with (fail)); go_meet
    case rel =>
     have hOKg : OK gB := (Kd.S_R SX8.out).1 gB rfl; (have hSg : S0 gB := by rw [HS0.out]; exact .inr hOKg); have HW := Kd.Uc (Kd.P6 (Kd.V5 (ok' := fun k => OK k ∨ w8.heap.size ≤ k) (Kd.XE HH.out) (fun k h => .inl h))) HG9.out (fun k hk => .inl (HVO.out _ hk)); have hr2 := HR1.out; rw [List.length_append, List.length_singleton] at hr2; have hone : (Value.slice E9 (qj.length + 1) m9).oneCell' = true := rfl; obtain ⟨hs1, hs2⟩ := Kd.aag HW (by omega) hj1 (seg := [.slice E9 (qj.length + 1) m9]) (j := 0) (Nat.le_refl 1) (fun q hq => by rw [List.mem_singleton] at hq; rw [hq]; exact hone)
     have hend := Kd.Wl hs1 (x' := qj ++ [⟨s, Go.bits .and .i64 (rd vis (j : Int)) s⟩]) (okp := fun k => oki k ∨ w8.heap.size ≤ k)
      ⟨.slice E9 (qj.length + 1) m9, rfl, Kd.tL hr2 (fun k hk hlt => hs2.block k hlt (fun e => by
       injection e with e; subst e; rcases hk with hk | hk
       ·exact (HOKI.out _ hk).2 rfl
       ·exact absurd hl1 (Nat.not_lt.2 hk)))⟩ (fun k hk => hk.elim .inl (fun h => .inr ⟨.inr h, h⟩))
     rw [show (Kd.slice 27 k27).sz = 1 from rfl, Nat.mul_one, Nat.add_zero, Int.toNat_natCast] at hend; have hKE := HK9.out.setCell (p := ⟨gB, j, none⟩) (.inl hSg) (.slice E9 (qj.length + 1) m9); refine ⟨hs, wn, sc, tt, sq.set j (qj ++ [⟨s, Go.bits .and .i64 (rd vis (j : Int)) s⟩]), A2, c2, some ⟨gB, 0, none⟩, d2, HT, ⟨?_⟩, ⟨CX1.out _ hKE, HCX.out, ?_, by rw [List.length_set]; exact HDX.out⟩, ⟨hKE⟩, ⟨?_⟩⟩
     ·rw [List.length_set]; exact bC BX9.out (Ne.symm (HOX.out _ hOKg)) _
     ·have := (Kd.mV hend).2.2; rw [← (Kd.mV hend).1] at this; rw [List.length_set]; exact this
     ·have hge : ∀ k, OK k → w.heap.size ≤ k := by
       rw [HOKd.out]; rintro k ⟨h, _⟩; have := HB2.out.size; have := HSZ.out; omega
      exact ((jE HB8.out).grown HG9.out HB8.out.size (fun k hk => hge k (HOKI.out _ (HVO.out _ hk)).1)).setCell (p := ⟨gB, j, none⟩) (hge _ hOKg) _
 case rest =>
  obtain ⟨hs', wn', sc', tt', sq', A3, c3, B3, d3, HT, BX, HCS, HK, HB⟩ := hcut; clear HI6 HB6 HK6 BX6 HCASE SX CX1 CV HC0; obtain ⟨kk, La, Lb, er, ya, yb, za, zb, hLa, hLb, hYa, hYb, hR, hE⟩ := HT.out; have F1 := aa.mk hLa; have F2 := aa.mk hLb; have F3 := aa.mk hYa; have F4 := aa.mk hYb; have F5 := aa.mk hR; have F6 := aa.mk hE; clear hLa hLb hYa hYb hR hE HT; have BL := aa.mk (xy BL4.out HK.out HNL.out); have hz0 : wc.cell? ⟨w2.heap.size, 0, none⟩ = some (.slice A1 hs.length c1) := (ag BL.out 0).trans rfl; have hz1 : wc.cell? ⟨w2.heap.size, 1, none⟩ = some (.int .i64 wn) := (ag BL.out 1).trans rfl; have hz2 : wc.cell? ⟨w2.heap.size, 2, none⟩ = some (.int .i64 sc) := (ag BL.out 2).trans rfl; have hz3 : wc.cell? ⟨w2.heap.size, 3, none⟩ = some (.int .i64 tt) := (ag BL.out 3).trans rfl; have hz4 : wc.cell? ⟨w2.heap.size, 4, none⟩ = some (.slice B1 sq.length d1) := (ag BL.out 4).trans rfl; (go_wp2_with (fail)); refine (bM.calls kk A1 c1 hs wn sc tt B1 d1 sq La 0 _ (CL1.out _ HK.out) HC1.out (CL2.out _ HK.out) HD1.out F1.out).mono ?_; rintro e w7 ⟨v1, rfl, hr, hb⟩; obtain ⟨S1, t1, rfl⟩ := Kd.fu hr; have HR1 := aa.mk hr; have BL7 := aa.mk (aG BL.out hb); have BX7 := aa.mk (aG BX.out hb); have HW7 := aa.mk hb; have hz0 : w7.cell? ⟨w4.heap.size, 0, none⟩ = some (.slice A3 hs'.length c3) := (ag BX7.out 0).trans rfl; have hz1 : w7.cell? ⟨w4.heap.size, 1, none⟩ = some (.int .i64 wn') := (ag BX7.out 1).trans rfl; have hz2 : w7.cell? ⟨w4.heap.size, 2, none⟩ = some (.int .i64 sc') := (ag BX7.out 2).trans rfl; have hz3 : w7.cell? ⟨w4.heap.size, 3, none⟩ = some (.int .i64 tt') := (ag BX7.out 3).trans rfl; have hz4 : w7.cell? ⟨w4.heap.size, 4, none⟩ = some (.slice B3 sq'.length d3) := (ag BX7.out 4).trans rfl; clear hr hb F1; (go_wp2_with (fail)); refine (bM.calls kk A3 c3 hs' wn' sc' tt' B3 d3 sq' Lb er _ (Kd.eT HCS.out.1 HW7.out) HCS.out.2.1 (Kd.eT HCS.out.2.2.1 HW7.out) HCS.out.2.2.2 F2.out).mono ?_; rintro e w8 ⟨v2, rfl, hr, hb⟩; obtain ⟨S2, t2, rfl⟩ := Kd.fu hr; have HR2 := aa.mk hr; have BL8 := aa.mk (aG BL7.out hb); have BX8 := aa.mk (aG BX7.out hb); have HW8 := aa.mk (eD HW7.out HW7.out.size hb); have HW78 := aa.mk hb; clear hz0 hz1 hz2 hz3 hz4; have hz0 : w8.cell? ⟨w2.heap.size, 0, none⟩ = some (.slice A1 hs.length c1) := (ag BL8.out 0).trans rfl; have hz1 : w8.cell? ⟨w2.heap.size, 1, none⟩ = some (.int .i64 wn) := (ag BL8.out 1).trans rfl; have hz2 : w8.cell? ⟨w2.heap.size, 2, none⟩ = some (.int .i64 sc) := (ag BL8.out 2).trans rfl; have hz3 : w8.cell? ⟨w2.heap.size, 3, none⟩ = some (.int .i64 tt) := (ag BL8.out 3).trans rfl; have hz4 : w8.cell? ⟨w2.heap.size, 4, none⟩ = some (.slice B1 sq.length d1) := (ag BL8.out 4).trans rfl; clear hr hb F2; (go_wp2_with (fail)); refine (bH.calls kk A1 c1 hs wn sc tt B1 d1 sq ya yb 0 _ (Kd.eT (CL1.out _ HK.out) HW8.out) HC1.out (Kd.eT (CL2.out _ HK.out) HW8.out) HD1.out F3.out).mono ?_; rintro e w9 ⟨rfl, hb⟩; have BX9 := aa.mk (aG BX8.out hb); have HW9 := aa.mk (eD HW8.out HW8.out.size hb); have HW79 := aa.mk (eD HW78.out HW78.out.size hb); have HS9 := aa.mk hb; clear hb F3 hz0 hz1 hz2 hz3 hz4; (go_upto_region 17 with (fail)); obtain ⟨W10, hW10⟩ : ∃ W10, W10 = (w9.alloc (.cells #[.int .i64 ya, .int .i64 yb] 63)) := ⟨_, rfl⟩; (have hb10 : Below w9.heap.size w9 W10 := by rw [hW10]; exact aV (Below.refl _ _) _); have BY10 := aa.mk (show W10.heap[w9.heap.size]? = some (.cells #[.int .i64 ya, .int .i64 yb] 63 (0, 0)) by rw [hW10]; exact heap_alloc_new w9 _); rw [← hW10]; have HB10 := aa.mk hb10; have BX10 := aa.mk (aG BX9.out hb10); have HW10 := aa.mk (eD HW9.out HW9.out.size hb10); clear hW10 hb10; have hz0 : W10.cell? ⟨w4.heap.size, 0, none⟩ = some (.slice A3 hs'.length c3) := (ag BX10.out 0).trans rfl; have hz1 : W10.cell? ⟨w4.heap.size, 1, none⟩ = some (.int .i64 wn') := (ag BX10.out 1).trans rfl; have hz2 : W10.cell? ⟨w4.heap.size, 2, none⟩ = some (.int .i64 sc') := (ag BX10.out 2).trans rfl; have hz3 : W10.cell? ⟨w4.heap.size, 3, none⟩ = some (.int .i64 tt') := (ag BX10.out 3).trans rfl; have hz4 : W10.cell? ⟨w4.heap.size, 4, none⟩ = some (.slice B3 sq'.length d3) := (ag BX10.out 4).trans rfl; (go_wp2_with (fail)); refine (bH.calls kk A3 c3 hs' wn' sc' tt' B3 d3 sq' za zb er _ (Kd.eT HCS.out.1 HW10.out) HCS.out.2.1 (Kd.eT HCS.out.2.2.1 HW10.out) HCS.out.2.2.2 F4.out).mono ?_; rintro e w11 ⟨rfl, hb⟩; have BY11 := aa.mk (aG BY10.out hb); have HW11 := aa.mk (eD HW10.out HW10.out.size hb); have HY11 := aa.mk (eD HB10.out HB10.out.size hb); clear hb F4 hz0 hz1 hz2 hz3 hz4; (go_upto_region 18 with (fail)); obtain ⟨W12, hW12⟩ : ∃ W12, W12 = (w11.alloc (.cells #[.int .i64 za, .int .i64 zb] 63)) := ⟨_, rfl⟩; (have hb12 : Below w11.heap.size w11 W12 := by rw [hW12]; exact aV (Below.refl _ _) _); have BZ12 := aa.mk (show W12.heap[w11.heap.size]? = some (.cells #[.int .i64 za, .int .i64 zb] 63 (0, 0)) by rw [hW12]; exact heap_alloc_new w11 _); rw [← hW12]; have BY12 := aa.mk (aG BY11.out hb12); have HW12 := aa.mk (eD HW11.out HW11.out.size hb12); have HY12 := aa.mk (eD HY11.out HY11.out.size hb12); clear hW12 hb12; have hy0 : W12.cell? ⟨w9.heap.size, 0, none⟩ = some (.int .i64 ya) := (ag BY12.out 0).trans rfl; have hy1 : W12.cell? ⟨w9.heap.size, 1, none⟩ = some (.int .i64 yb) := (ag BY12.out 1).trans rfl; have hx0 : W12.cell? ⟨w11.heap.size, 0, none⟩ = some (.int .i64 za) := (ag BZ12.out 0).trans rfl; have hx1 : W12.cell? ⟨w11.heap.size, 1, none⟩ = some (.int .i64 zb) := (ag BZ12.out 1).trans rfl; rcases F6.out with rfl | ⟨rfl, hI, hW⟩
  ·(go_wp2_with (fail)); refine (eu.calls kk true _ F5.out).mono ?_; rintro e w13 ⟨rfl, hb⟩; go_wp2_with (fail)
   go_ret
   exact ⟨rfl, aW (aW HB.out HW12.out) hb⟩
  ·have FI := aa.mk hI; have FW := aa.mk hW; clear hI hW F6; (go_wp2_with (fail)); refine (ay.calls kk S2 t2 Lb S1 t1 La true _ (Kd.eT (Kd.dM HR2.out).2.2 (eD HS9.out HS9.out.size HY12.out)) (Kd.dM HR2.out).2.1 (Kd.eT (Kd.dM HR1.out).2.2 (eD HW79.out HW79.out.size HY12.out)) (Kd.dM HR1.out).2.1 FI.out).mono ?_; rintro e w13 ⟨rfl, hd⟩; have hb := hd.below; have BY13 := aa.mk (aG BY12.out hb); have BZ13 := aa.mk (aG BZ12.out hb); have HW13 := aa.mk (eD HW12.out HW12.out.size hb); clear hb hy0 hy1 hx0 hx1; have hy0 : w13.cell? ⟨w9.heap.size, 0, none⟩ = some (.int .i64 ya) := (ag BY13.out 0).trans rfl; have hy1 : w13.cell? ⟨w9.heap.size, 1, none⟩ = some (.int .i64 yb) := (ag BY13.out 1).trans rfl; have hx0 : w13.cell? ⟨w11.heap.size, 0, none⟩ = some (.int .i64 za) := (ag BZ13.out 0).trans rfl; have hx1 : w13.cell? ⟨w11.heap.size, 1, none⟩ = some (.int .i64 zb) := (ag BZ13.out 1).trans rfl; (go_wp2_with (fail)); refine (kZ.calls za zb ya yb true _ FW.out).mono ?_; rintro e w14 ⟨rfl, hb⟩; have HW14 := aa.mk (eD HW13.out HW13.out.size hb); clear hb hy0 hy1 hx0 hx1; (go_wp2_with (fail)); refine (eu.calls kk true _ F5.out).mono ?_; rintro e w15 ⟨rfl, hb⟩; go_wp2_with (fail)
   go_ret
   exact ⟨rfl, aW (aW HB.out HW14.out) hb⟩
theorem WB (b : ByteArray) (c : Int) (hb : b.size ≤ 1000) (h : ∃ j : Nat, j < b.size ∧ bt b (j : Int) = c) : Ev (fun k => bE.f k b c) true := by
 obtain ⟨j, hj, hc⟩ := h
 have key : ∀ (d i : Nat), i + d = j → Ev (fun k => bE.l0 k b c (i : Int)) true := by
  intro d
  induction d with
  | zero =>
   intro i hi; (obtain rfl : i = j := by omega); refine Ev.step (f := fun _ => some true) (fun k => ?_) (Ev.now _); rw [bE.l0, if_pos (by omega), if_pos (by omega), if_pos hc]
  | succ d ih =>
   intro i hi; (have hw : wrap64 ((i : Int) + 1) = ((i + 1 : Nat) : Int) := by rw [dY (by omega) (by omega)]; omega); by_cases he : bt b (i : Int) = c
   ·refine Ev.step (f := fun _ => some true) (fun k => ?_) (Ev.now _); rw [bE.l0, if_pos (by omega), if_pos (by omega), if_pos he]
   ·refine Ev.step (fun k => ?_) (ih (i + 1) (by omega)); rw [bE.l0, if_pos (by omega), if_pos (by omega), if_neg he, hw]
 exact Ev.congr (fun k => by rw [bE.f]; rfl) (key j 0 (by omega))
theorem U7 (L : List Int) (j : Nat) (h : j < L.length) (h0 : 0 ≤ L[j]) (h1 : L[j] < 256) : bt (strOfNums L) (j : Int) = L[j] := by
 (have hs : ((j : Int)).toNat < (strOfNums L).size := by rw [vg]; omega); rw [bt, dif_pos hs]
 have e : (strOfNums L)[((j : Int)).toNat]'hs = UInt8.ofNat (L[j]).toNat := by
  simp [strOfNums, ByteArray.getElem_eq_getElem_data]
 rw [e, UInt8.toNat_ofNat']; omega
theorem SV (hs : List S66) (w c t : Int) (sq : List (List S27)) (h1 : hs.length ≤ 100) (h2 : ∀ h ∈ hs, h.f1.length ≤ 100) (h3 : sq.length ≤ 100) (h4 : ∀ q ∈ sq, q.length ≤ 100) : Ev (fun k => aH.f k hs w c t sq) (hs, w, c, t, sq) := by
 have L1 : ∀ (d i : Nat) (acc : List (List S27)), i + d = sq.length → acc.length = i → acc ++ sq.drop i = sq → Ev (fun k => aH.l1 k sq (i : Int) hs w c t acc) (hs, w, c, t, sq) := by
  intro d
  induction d with
  | zero =>
   intro i acc hi hl he; rw [List.drop_eq_nil_of_le (by omega), List.append_nil] at he; subst he; exact Ev.step (f := fun _ => some (hs, w, c, t, acc)) (fun k => by rw [aH.l1, if_neg (by omega)]) (Ev.now _)
  | succ d ih =>
   intro i acc hi hl he; (have hil : i < sq.length := by omega); (have hw : wrap64 ((i : Int) + 1) = ((i + 1 : Nat) : Int) := by rw [dY (by omega) (by omega)]; omega); have hq := h4 _ (List.getElem_mem hil); rw [List.drop_eq_getElem_cons hil] at he; (have k1 : ([] : List S27).length + (sq[i]).length < 8796093022208 := by rw [List.length_nil]; omega); (have k2 : acc.length < 5864062014805 := by omega); refine Ev.step (fun k => ?_) (ih (i + 1) (acc ++ [sq[i]]) (by omega) (by simp [hl]) (by rw [List.append_assoc]; exact he)); rw [aH.l1, if_pos (by omega), Option.bind_some, if_pos (by omega), xA sq i hil, if_pos k1, if_pos k2, hw, List.nil_append]
 have L0 : ∀ (d i : Nat) (acc : List S66), i + d = hs.length → acc.length = i → acc ++ hs.drop i = hs → Ev (fun k => aH.l0 k hs sq (i : Int) acc w c t) (hs, w, c, t, sq) := by
  intro d
  induction d with
  | zero =>
   intro i acc hi hl he; rw [List.drop_eq_nil_of_le (by omega), List.append_nil] at he; subst he; refine Ev.step (fun k => ?_) (L1 sq.length 0 [] (by omega) rfl (by simp)); rw [aH.l0, if_neg (by omega)]; rfl
  | succ d ih =>
   intro i acc hi hl he; (have hil : i < hs.length := by omega); (have hw : wrap64 ((i : Int) + 1) = ((i + 1 : Nat) : Int) := by rw [dY (by omega) (by omega)]; omega); have hq := h2 _ (List.getElem_mem hil); rw [List.drop_eq_getElem_cons hil] at he; (have k1 : ([] : List S86).length + (hs[i].f1).length < 8796093022208 := by rw [List.length_nil]; omega); (have k2 : acc.length < 3518437208883 := by omega); refine Ev.step (fun k => ?_) (ih (i + 1) (acc ++ [hs[i]]) (by omega) (by simp [hl]) (by rw [List.append_assoc]; exact he)); rw [aH.l0, if_pos (by omega), if_pos (by omega), Option.bind_some, oz hs i hil, if_pos k1, if_pos k2, hw, List.nil_append]
 exact Ev.congr (fun k => by rw [aH.f]; rfl) (L0 hs.length 0 [] (by omega) rfl (by simp))
theorem Ll (B A : List ByteArray) (hl : A.length = B.length) (hb : B.length ≤ 100) (hs : ∀ i (h : i < B.length), B[i].size ≤ 1000) (ha : ∀ i (h : i < A.length), A[i].size ≤ 1000)
 (hin : ∀ i (h : i < B.length) (h' : i < A.length) (j : Nat), j < B[i].size → ∃ m : Nat, m < A[i].size ∧ bt A[i] (m : Int) = bt B[i] (j : Int)) : Ev (fun k => ay.f k B A) true := by
 have key : ∀ (d i : Nat), i + d = B.length → Ev (fun k => ay.l0 k B A true (i : Int)) true := by
  intro d
  induction d with
  | zero =>
   intro i hi; refine Ev.step (f := fun k => ay.j1 k B A true (i : Int) false) (fun k => ?_) (Ev.step (f := fun _ => some true) (fun k => ?_) (Ev.now _))
   ·rw [ay.l0, if_pos rfl, decide_eq_false (by omega)]
   ·rw [ay.j1, if_neg (by simp)]
  | succ d ih =>
   intro i hi; (have hiB : i < B.length := by omega); (have hiA : i < A.length := by omega); (have hw : wrap64 ((i : Int) + 1) = ((i + 1 : Nat) : Int) := by rw [dY (by omega) (by omega)]; omega); have nx := ih (i + 1) (by omega); (have g1 : (0 : Int) ≤ (i : Int) := by omega); (have g2 : (i : Int) < (B.length : Int) := by omega); have g3 : (i : Int) < (A.length : Int) := by omega
   have inner : ∀ (e j : Nat), j + e = B[i].size → Ev (fun k => ay.l1 k B A true (i : Int) (j : Int)) true := by
    intro e
    induction e with
    | zero =>
     intro j hj; refine Ev.step (fun k => ?_) nx; rw [ay.l1, if_pos g1, if_pos g2, rdO B i hiB, if_neg (by omega), hw]
    | succ e ih2 =>
     intro j hj; (have hjs : j < B[i].size := by omega); have hsz := hs i hiB; (have hw2 : wrap64 ((j : Int) + 1) = ((j + 1 : Nat) : Int) := by rw [dY (by omega) (by omega)]; omega); obtain ⟨m, hm, he⟩ := hin i hiB hiA j hjs; refine Ev.step (f := fun k => (bE.f k A[i] (bt B[i] (j : Int))).bind fun t => ay.l1 k B A t (i : Int) ((j + 1 : Nat) : Int)) (fun k => ?_) (Ev.bind (WB A[i] _ (ha i hiA) ⟨m, hm, he⟩) (ih2 (j + 1) (by omega))); rw [ay.l1, if_pos g1, if_pos g2, rdO B i hiB, if_pos (by omega), if_pos rfl, if_pos g3, if_pos (by omega), rdO A i hiA, hw2]
   refine Ev.step (f := fun k => ay.j1 k B A true (i : Int) true) (fun k => ?_) (Ev.step (f := fun k => ay.l1 k B A true (i : Int) ((0 : Nat) : Int)) (fun k => ?_) (inner B[i].size 0 (by omega)))
   ·rw [ay.l0, if_pos rfl, decide_eq_true (by omega)]
   ·rw [ay.j1, if_pos rfl]; rfl
 refine Ev.congr (fun k => ?_) (key B.length 0 (by omega)); rw [ay.f, hl, beq_self_eq_true]; rfl
theorem Bo {hs : List S66} {w c t : Int} {sq : List (List S27)} : (∀ n ∈ kF hs w c t sq (List.finRange hs.length), 0 ≤ n ∧ n < (hs.length : Int)) ∧ (kF hs w c t sq (List.finRange hs.length)).length ≤ hs.length := by
 refine ⟨fun n hn => ?_, ?_⟩
 ·obtain ⟨y, _, rfl⟩ := List.mem_map.1 hn; have := y.2; omega
 ·have := um (l0 := hs) (a1 := w) (a2 := c) (a3 := t) (l4 := sq) (List.finRange hs.length)
  rwa [List.length_finRange] at this
theorem Gb {hs : List S66} {w c t : Int} {sq : List (List S27)} (h4 : hs.length ≤ 4) {F : List Int} (hF : ∀ n ∈ F, 0 ≤ n ∧ n < (hs.length : Int)) (hFl : F.length ≤ hs.length) (hne : F ≠ []) (hfit : fA.f hs w c t sq = some (F, 0)) :
 EvI (fun k => bH.f k hs w c t sq) (fun r => (∀ n ∈ F, r.1 ≤ (ah hs n).f0.f0 ∧ (ah hs n).f0.f1 ≤ r.2.1) ∧ (∃ n ∈ F, r.1 = (ah hs n).f0.f0) ∧ (∃ n ∈ F, r.2.1 = (ah hs n).f0.f1) ∧ r.2.2 = 0) := by
 obtain ⟨f0, fr, hfc⟩ := List.exists_cons_of_ne_nil hne; (have hm0 : f0 ∈ F := by rw [hfc]; exact List.mem_cons_self); have h0 := hF f0 hm0; (have e0 : rd F 0 = f0 := by rw [hfc]; rfl); obtain ⟨v, hv, h1, _, _, h2, h3, h5⟩ := M6 F hs w c t sq (by omega) hF F.length 0 ((ah hs f0).f0.f0) ((ah hs f0).f0.f1) (by omega) ⟨f0, hm0, rfl⟩ ⟨f0, hm0, rfl⟩; refine ⟨v, Ev.congr (fun k => ?_) hv, by simpa using h1, h2, h3, h5⟩; (have hl0 : 0 < (F.length : Int) := by rw [hfc]; simp only [List.length_cons]; omega); rw [bH.f, hfit, Option.bind_some, if_pos rfl, if_pos hl0, e0, if_pos h0.1, if_pos h0.2]; rfl
theorem wU {gs gl w c t : Int} {hs : List S66} {sq : List (List S27)} {i : Nat} : ∀ y ∈ gK gs gl w c t hs sq i, 0 ≤ y ∧ y < 256 := fun y hy => by
 rw [gK, List.mem_filter] at hy; obtain ⟨z, hz, rfl⟩ := List.mem_map.1 hy.1; have := List.mem_range.1 hz; simp only [Int.ofNat_eq_natCast]; omega
theorem xg {hs hs' : List S66} {w c t w' c' t' : Int} {sq sq' : List (List S27)} (hck : kG hs w c t sq = 0) (hck' : kG hs' w' c' t' sq' = 0) (hh : ∀ h ∈ hs, kH h.f1) (hq : oV sq) (hq' : oV sq')
 (hall : vP w c sq w' c' sq') (ht : t' ≤ t) (hsub : ∀ x ∈ hs', x ∈ hs) (hne : kF hs w c t sq (List.finRange hs.length) ≠ []) : qL hs w c t sq hs' w' c' t' sq' := by
 have hb := mE hck; have hb' := mE hck'; (have hh' : ∀ h ∈ hs', kH h.f1 := fun h hm => hh h (hsub h hm)); obtain ⟨hF, hFl⟩ := Bo (hs := hs) (w := w) (c := c) (t := t) (sq := sq); obtain ⟨hF', hFl'⟩ := Bo (hs := hs') (w := w') (c := c') (t := t') (sq := sq'); have hfit := BI hck hne; obtain ⟨K1, E1⟩ := AC hck (by omega) hfit; obtain ⟨⟨ya, yb, ye⟩, ⟨K2, E2⟩, hy1, hy2, hy3, hy4⟩ := Gb hb.2.1 hF hFl hne hfit; simp only [] at hy1 hy2 hy3 hy4; subst hy4; obtain ⟨K3, E3⟩ := Ev.of eu.mono FC; by_cases hne' : kF hs' w' c' t' sq' (List.finRange hs'.length) = []
 ·(have hfit' : fA.f hs' w' c' t' sq' = some ([], 9) := by rw [fA.f, xz, if_pos hck', if_pos hne']); refine ⟨max K1 (max K2 K3), _, [], 9, ya, yb, 0, 0, E1 _ (by omega), ?_, E2 _ (by omega), ?_, E3 _ (by omega), .inl rfl⟩
  ·rw [bM.f, hfit', Option.bind_some, if_neg (by decide)]
  ·rw [bH.f, hfit', Option.bind_some, if_neg (by decide)]
 ·have hfit' := BI hck' hne'; obtain ⟨K4, E4⟩ := AC hck' (by omega) hfit'; obtain ⟨⟨za, zb, ze⟩, ⟨K5, E5⟩, hz1, hz2, hz3, hz4⟩ := Gb hb'.2.1 hF' hFl' hne' hfit'; simp only [] at hz1 hz2 hz3 hz4; subst hz4
  have hmem : ∀ n ∈ kF hs' w' c' t' sq' (List.finRange hs'.length), ∃ m ∈ kF hs w c t sq (List.finRange hs.length), ah hs m = ah hs' n := fun n hn => by
   obtain ⟨x, hx, rfl, htot⟩ := (wR w' c' t' hh' hq' n).1 hn; obtain ⟨y, hy, he⟩ := List.getElem_of_mem (hsub _ (List.getElem_mem hx)); refine ⟨(y : Int), (wR w c t hh hq _).2 ⟨y, hy, rfl, ?_⟩, by rw [oz hs y hy, oz hs' x hx, he]⟩; have := MJ hall (hh' _ (List.getElem_mem hx)); rw [he]; omega
  obtain ⟨K6, E6⟩ : Ev (fun k => ay.f k ((gX (-1) 0 w' c' t' hs' sq').map strOfNums) ((gX (-1) 0 w c t hs sq).map strOfNums)) true := by
   have hlen : ∀ (w c t : Int) (hs : List S66) (sq : List (List S27)), ((gX (-1) 0 w c t hs sq).map strOfNums).length = sq.length := fun _ _ _ _ _ => by simp [gX]
   have hget : ∀ (w c t : Int) (hs : List S66) (sq : List (List S27)) (i : Nat) (h : i < ((gX (-1) 0 w c t hs sq).map strOfNums).length), ((gX (-1) 0 w c t hs sq).map strOfNums)[i] = strOfNums (gK (-1) 0 w c t hs sq i) := fun _ _ _ _ _ i h => by
    rw [List.getElem_map]; simp [gX]
   (have hsz : ∀ (w c t : Int) (hs : List S66) (sq : List (List S27)) (i : Nat), (gK (-1) 0 w c t hs sq i).length ≤ 256 := fun _ _ _ _ _ _ => Nat.le_trans (List.length_filter_le _ _) (by simp)); refine Ll _ _ (by rw [hlen, hlen, hall.1]) (by rw [hlen]; omega) (fun i h => ?_) (fun i h => ?_) (fun i h h' j hj => ?_)
   ·rw [hget, vg]; have := hsz w' c' t' hs' sq' i; omega
   ·rw [hget, vg]; have := hsz w c t hs sq i; omega
   ·rw [hget, vg] at hj; rw [hget, hget]; (have h1 : i < sq'.length := by rw [hlen] at h; exact h); (have h2 : i < sq.length := by rw [hlen] at h'; exact h'); have hb1 := wU _ (List.getElem_mem hj); have hin := (uI w c t hh hq i h2 _).2 (Lx hall ht hsub hh i h2 h1 _ ((uI w' c' t' hh' hq' i h1 _).1 (List.getElem_mem hj))); obtain ⟨m, hm, he⟩ := List.getElem_of_mem hin; refine ⟨m, by rw [vg]; exact hm, ?_⟩; have hb2 := wU _ (List.getElem_mem hm); rw [U7 _ m hm hb2.1 hb2.2, U7 _ j hj hb1.1 hb1.2, he]
  refine ⟨max K1 (max K2 (max K3 (max K4 (max K5 K6)))), _, _, 0, ya, yb, za, zb, E1 _ (by omega), E4 _ (by omega), E2 _ (by omega), E5 _ (by omega), E3 _ (by omega), .inr ⟨rfl, E6 _ (by omega), ?_⟩⟩; obtain ⟨n, hn, e1⟩ := hz2; obtain ⟨m, hm, e2⟩ := hz3; obtain ⟨n', hn', e3⟩ := hmem n hn; obtain ⟨m', hm', e4⟩ := hmem m hm; have g1 := (hy1 n' hn').1; have g2 := (hy1 m' hm').2; rw [e3, ← e1] at g1; rw [e4, ← e2] at g2; rw [kZ.f, if_pos g1, decide_eq_true g2]
theorem Fj {hs : List S66} {w c t : Int} {sq : List (List S27)} (h1 : 0 < hs.length) (h2 : hs.length ≤ 4) (h3 : 0 < sq.length) (h4 : sq.length ≤ 8) (h5 : mZ hs = 0) (h6 : mi sq = 0) (h7 : inP w 0 10 = true) (h8 : inP c 0 10 = true) (h9 : inP t 0 40 = true) : kG hs w c t sq = 0 := by
 rw [kG, if_neg (by omega), if_neg (by omega), if_pos h5, if_pos ⟨h7, h8, h9⟩, if_neg (by omega), if_neg (by omega), h6]
theorem KH (l0 : List Int) : ∃ (k : Nat) (a b : Int) (hs : List S66) (wn sc tt : Int) (sq : List (List S27)) (cut : Int) (txt : ByteArray) (vis : List Int) (y0 y1 n z0 z1 : Int),
 kY.f l0 = some (a, b) ∧ af.f k a b 3 5 5 = some (hs, wn, sc, tt, sq, cut, txt, vis, y0, y1) ∧ aH.f k hs wn sc tt sq = some (hs, wn, sc, tt, sq) ∧ aU.f y0 y1 4 = some (n, z0, z1) ∧ FQ n z0 z1 hs wn sc tt sq vis := by
 obtain ⟨r, ⟨K1, E1⟩, hg, htr⟩ := QX (nO l0).1 (nO l0).2 3 5 5 (by omega) (by omega) (by omega) (by omega) (by omega) (by omega); obtain ⟨f1, f2⟩ := JW hg htr (by omega) (by omega); obtain ⟨x, hx, hxc, htot⟩ := Na hg htr (by omega) (by omega); have hck := hg.check (by omega) (by omega) (by omega) hg.2.2.2.1.1 hg.2.2.2.1.2 rfl hg.2.2.2.2.2.2; (have hck2 := fun (t : Int) (h1 : 0 ≤ t) (h2 : t ≤ 40) (s : List (List S27)) h3 h4 => hg.check (by omega) (by omega) (by omega) (t := t) h1 h2 (sq := s) h3 h4); obtain ⟨_, _, ms, cs, _, _, _, hvis⟩ := htr; obtain ⟨⟨hh1, hh2, hh3⟩, hw, hc, ht, hs1, hs2, hs3⟩ := hg; obtain ⟨hs, wn, sc, tt, sq, cut, txt, vis, y0, y1⟩ := r; simp only [] at E1 f1 f2 hx htot hck hck2 hvis hh1 hh2 hh3 hw hc ht hs1 hs2 hs3; clear hxc
 have hfx : kF hs wn sc tt sq (List.finRange hs.length) ≠ [] := fun h => by
  have := (wR wn sc tt f1 f2 _).2 ⟨x, hx, rfl, htot⟩; rw [h] at this; exact absurd this List.not_mem_nil
 obtain ⟨K2, E2⟩ := SV hs wn sc tt sq (by omega) (fun h hm => by have := (f1 h hm).2; omega) (by omega) (fun q hm => by have := (hs3 q hm).1; omega); obtain ⟨n, z0, z1, hu, hu1, hu2⟩ := pK y0 y1 4 (by omega) (by omega); have hb := mE hck; refine ⟨max K1 K2, (nO l0).1, (nO l0).2, hs, wn, sc, tt, sq, cut, txt, vis, y0, y1, n, z0, z1, rfl, E1 _ (by omega), E2 _ (by omega), hu, ?_⟩; (have hn : n = 1 ∨ n = 2 ∨ n = 3 ∨ n = 0 := by omega); rcases hn with rfl | rfl | rfl | rfl
 ·refine .inl ⟨rfl, ?_⟩; obtain ⟨t', b, c, h1, h2, h3⟩ := pK z0 z1 (tt + 1) (by omega) (by omega); refine ⟨t', b, c, by rw [dY (by omega) (by omega)]; exact h1, ?_⟩; exact xg hck (hck2 t' h2 (by omega) sq rfl hs3) f1 f2 f2 ⟨rfl, fun i _ _ => qB.refl _ _ _⟩ (by omega) (fun _ h => h) hfx
 ·refine .inr (.inl ⟨rfl, ?_⟩); obtain ⟨x', b, c, h1, h2, h3⟩ := pK z0 z1 (wn + 1) (by omega) (by omega); obtain ⟨y', d, e, h4, h5, h6⟩ := pK b c (sc + 1) (by omega) (by omega); refine ⟨x', y', b, c, d, e, by rw [dY (by omega) (by omega)]; exact h1, by rw [dY (by omega) (by omega)]; exact h4, ?_⟩; refine xg hck (Fj hb.1 hb.2.1 hb.2.2.1 hb.2.2.2.1 hb.2.2.2.2.1 hb.2.2.2.2.2.1 (pq.2 (by omega)) (pq.2 (by omega)) hb.2.2.2.2.2.2.2.2) f1 f2 f2 ⟨rfl, fun i hi _ => DL (by omega) (by omega) (f2.2 _ (List.getElem_mem hi))⟩ (Int.le_refl _) (fun _ h => h) hfx
 ·refine .inr (.inr (.inl ⟨rfl, ?_⟩)); obtain ⟨j', b, c, h1, h2, h3⟩ := pK z0 z1 (hs.length : Int) (by omega) (by omega); obtain ⟨j, rfl⟩ := Int.eq_ofNat_of_zero_le h2; (have hj : j < hs.length := by omega); (have hm : ah hs (j : Int) ∈ hs := by rw [oz hs j hj]; exact List.getElem_mem hj); refine ⟨j, b, c, h1, hj, ?_⟩; refine xg hck (Fj (by simp) (by simp) hb.2.2.1 hb.2.2.2.1 (wM (m := 5) (by omega) (fun h hh => by rw [List.mem_singleton] at hh; rw [hh]; exact hh3 _ hm)) hb.2.2.2.2.2.1 hb.2.2.2.2.2.2.1 hb.2.2.2.2.2.2.2.1 hb.2.2.2.2.2.2.2.2) f1 f2 f2 ⟨rfl, fun i _ _ => qB.refl _ _ _⟩ (Int.le_refl _) (fun h hh => by rw [List.mem_singleton] at hh; rw [hh]; exact hm) hfx
 ·refine .inr (.inr (.inr ⟨rfl, ?_⟩)); obtain ⟨j', b, c, h1, h2, h3⟩ := pK z0 z1 (sq.length : Int) (by omega) (by omega); obtain ⟨s, d, e, h4, h5, h6⟩ := pK b c 32 (by omega) (by omega); obtain ⟨j, rfl⟩ := Int.eq_ofNat_of_zero_le h2; obtain ⟨a, rfl⟩ := Int.eq_ofNat_of_zero_le h5; (have hj : j < sq.length := by omega); (have hjv : j < vis.length := by have := hvis.1; omega); refine ⟨j, (a : Int), b, c, d, e, h1, h4, hj, hjv, ?_⟩; obtain ⟨v, hv, hvj, hlit⟩ := hvis.2 j hj
  have hvj' : rd vis (j : Int) = (v : Int) := by
   rw [← hvj]; simp [rd]
  (have ha : a < 32 := by omega); rw [hvj', zo ⟨v, hv⟩ ⟨a, ha⟩, xA sq j hj]; simp only []; by_cases hlt : (sq[j]).length < 4
  ·refine .inr ⟨hlt, ?_⟩
   have hlit' : ∀ y ∈ sq[j] ++ [(⟨(a : Int), ((v &&& a : Nat) : Int)⟩ : S27)], uC v y := fun y hy => by
    rcases List.mem_append.1 hy with hy | hy
    ·exact hlit y hy
    ·rw [List.mem_singleton] at hy; subst hy; exact ⟨a, ha, rfl⟩
   (have hset : ∀ q ∈ sq.set j (sq[j] ++ [(⟨(a : Int), ((v &&& a : Nat) : Int)⟩ : S27)]), q ∈ sq ∨ q = sq[j] ++ [(⟨(a : Int), ((v &&& a : Nat) : Int)⟩ : S27)] := fun q hq => List.mem_or_eq_of_mem_set hq); refine xg hck (hck2 tt ht.1 ht.2 _ (by simp) (fun q hq => ?_)) f1 f2 ⟨by rw [List.length_set]; exact f2.1, fun q hq => ?_⟩ ⟨by simp, fun i hi hi' => ?_⟩ (Int.le_refl _) (fun _ h => h) hfx
   ·rcases hset q hq with hq | rfl
    ·exact hs3 q hq
    ·refine ⟨by simp; omega, fun y hy => (hlit' y hy).ok hv⟩
   ·rcases hset q hq with hq | rfl
    ·exact f2.2 q hq
    ·exact uC.sm hlit'
   ·rw [List.getElem_set]; by_cases he : j = i
    ·subst he; rw [if_pos rfl]; exact Eo wn sc hv ha hlit
    ·rw [if_neg he]; exact qB.refl _ _ _
  ·exact .inl ⟨hlt, xg hck hck f1 f2 f2 ⟨rfl, fun i _ _ => qB.refl _ _ _⟩ (Int.le_refl _) (fun _ h => h) hfx⟩
theorem Li (a0 : Option Addr) (len0 cap0 : Nat) (z0 : List Int) (w : World) (w0 : (a0 = none ∧ len0 = 0 ∧ cap0 = 0 ∧ z0 = []) ∨ ∃ x, a0 = some x ∧ len0 ≤ cap0 ∧ cap0 ≤ maxLen ∧ z0.length = cap0 ∧ (∀ i, i < z0.length → w.cell? (x.add i) = some (.int .i64 (z0.getD i 0))) ∧ ∀ n ∈ z0, (Lit.int .i64 n).wf = true) (y0 : len0 * 8 ≤ 140737488351232) :
 Calls Try.prog 8 #[.slice a0 len0 cap0] w fun e w' => e = .returned (.bool true) ∧ Below w.heap.size w w' := by
 obtain ⟨l0, rfl, hr0, hm0, hw0, hc0⟩ := gY.WK w0; obtain ⟨k, a, b, hs, wn, sc, tt, sq, cut, txt, vis, u0, u1, n, z0, z1, h2, h3, h4, h5, h6⟩ := KH l0; exact Iq k _ _ l0 a b hs wn sc tt sq cut txt vis u0 u1 n z0 z1 w (Kd.IL (d := (0 : Int)) (h1 := fun _ => rfl) hr0) hc0 h2 h3 h4 h5 h6
end Go.Proofs.Ytihedeofkhapiaa.Pr
end
