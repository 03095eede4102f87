/- Part 25 of 34 of the proof of: SightAll: for every slice of numbers, the law returns true: of a slim line made of them, the letters and hands that the program tells are just those of the truths found by going through all choices, and its marks are the fewest of any truth; no condition beyond the statement's own. -/
import Derived.RegionTactic
import Derived.Test.YtihedeofkhapiaaSA21
set_option linter.unusedVariables false
set_option linter.unusedSimpArgs false
section
namespace Go.Proofs.Ytihedeofkhapiaa.Pr
open Go.RowKit Go.Proofs.YtihedeofkhapiaaW.PrintWords Go.Proofs.YtihedeofkhapiaaW.PrintLast Go.Proofs.YtihedeofkhapiaaW.PrintMore
def MZ (s : Int × Int) (n : Int) : Int × Int :=
 let t := xO s.1 (IntKind.u64.wrap (s.2 + IntKind.u64.wrap n))
 xO t.1 t.2
def V4 : Int × Int := (11400714819323198485, 14029467366897019727)
def kG (l : List Int) : Int × Int := l.foldl MZ V4
def jM.f (l0 : List Int) : Option (Int × Int) := some (kG l0)
theorem Ic (l : List Int) (k : Nat) (h : k < l.length) : kG (l.take (k + 1)) = MZ (kG (l.take k)) (rd l k) := by
 unfold kG rd; rw [List.take_succ_eq_append_getElem h, List.foldl_append]; simp [List.getD_eq_getElem?_getD, List.getElem?_eq_getElem h]
theorem xY {w0 w w1 w2 : World} {g : Nat} (h : Below w.heap.size w w1) (hk : ax w1 w2 g none) (hg : w.heap.size ≤ g) (h1 : Below w0.heap.size w0 w1) (h2 : Below w0.heap.size w0 w2) : Below w.heap.size w w2 :=
 ⟨(h2.os.trans h1.os.symm).trans h.os, (h2.tape.trans h1.tape.symm).trans h.tape, (h2.output.trans h1.output.symm).trans h.output, Nat.le_trans h.size hk.1,
  fun i hi => (hk.2 i (Nat.lt_of_lt_of_le hi h.size) (by omega) (by simp)).trans (h.block i hi)⟩
set_option maxHeartbeats 2000000 in
set_option maxRecDepth 100000 in
theorem jM.calls (A0 : Option Addr) (c0 : Nat) (l0 : List Int) (r1 : Int) (r2 : Int) (w0 w : World) (hB : Below w0.heap.size w0 w) (hr0 : Kd.C (Kd.int .i64) w0 A0 l0.length l0) (hc0 : l0.length ≤ c0) (h : jM.f l0 = some (r1, r2)) :
 Calls Try.prog 16 #[.slice A0 l0.length c0] w fun e w' => ∃ g_ : Nat, e = .returned (.pointer (some ⟨g_, 0, none⟩)) ∧ aI w0 w' g_ r1 r2 ∧ Below w0.heap.size w0 w' ∧ Below w.heap.size w w' := by
 have HR0 := aa.mk hr0; have HC0 := aa.mk hc0; have HB0 := aa.mk hB; have HW := aa.mk hB.size; clear hr0 hc0 hB; have Hh := aa.mk (Option.some.inj h); clear h; go_enter Try.func16, Try.ntmps16; go_wp2
 go_loopw [4] (fun i wr => ∃ k : Nat, k ≤ l0.length ∧ i = .int .i64 k ∧ aa (aI w0 wr w.heap.size (kG (l0.take k)).1 (kG (l0.take k)).2) ∧ aa (Below w0.heap.size w0 wr) ∧ aa (Below w.heap.size w wr)) (fun i wr => l0.length - (intOf i).toNat)
 case atStart =>
  exact ⟨0, Nat.zero_le _, rfl, ⟨aI.new _ _ _ _ HB0.out⟩, ⟨ah HB0.out _⟩, ⟨ah (Below.refl _ _) _⟩⟩
 case round =>
  obtain ⟨k, hk, rfl, HI, HB, HBW⟩ := hrel; (have hm : l0.length ≤ 9223372036854775807 := by have := HR0.out.2.1; omega); by_cases hlt : k < l0.length
  ·(have c1 : decide ((k : Int) < (l0.length : Int)) = true := by simpa using hlt); obtain ⟨ad, e, hx⟩ := Kd.rD HR0.out k (by omega) (by omega); cases e; replace hx := (HB.out.cell (World.block_lt_of_cell? w0 _ hx)).trans hx; obtain ⟨HG, hg⟩ := HI.out; have hcz0 := uu HG; have hcz1 := ul HG; have hfz0 := aK HG 0; have hfz1 := aK HG 1; clear HG hg; go_wp2; rw [Int.toNat_natCast] at hx
   go_region
   (go_wp2_with fail); have HX := aa.mk (Ic l0 k hlt); have HI1 := aa.mk (aI.drew (aI.GG HI.out (IntKind.u64.wrap ((kG (List.take k l0)).snd + IntKind.u64.wrap (rd l0 ↑k))))); have HB1 := aa.mk (bQ (bK HB.out (j := 1) (v := .int .u64 (IntKind.u64.wrap ((kG (List.take k l0)).snd + IntKind.u64.wrap (rd l0 ↑k)))) (aI.ge HI.out))); have HBW1 := aa.mk (bQ (bK HBW.out (j := 1) (v := .int .u64 (IntKind.u64.wrap ((kG (List.take k l0)).snd + IntKind.u64.wrap (rd l0 ↑k)))) (Nat.le_refl _))); clear hx hcz0 hcz1 hfz0 hfz1 HI HB HBW; obtain ⟨q1, hq1⟩ := Jh (kG (List.take k l0)).1 (IntKind.u64.wrap ((kG (List.take k l0)).snd + IntKind.u64.wrap (rd l0 ↑k))); have HQ1 := aa.mk hq1; clear hq1; refine (cO.calls w.heap.size _ _ _ _ _ w0 _ HI1.out HB1.out HQ1.out).mono ?_; rintro e w1 ⟨rfl, hi, hb, hk1⟩; have HI2 := aa.mk hi; have HB2 := aa.mk hb; have HBW2 := aa.mk (xY HBW1.out hk1 (Nat.le_refl _) HB1.out hb); clear hi hb hk1 HI1 HB1 HBW1 HQ1; (go_wp2_with fail); obtain ⟨q2, hq2⟩ := Jh (xO (kG (List.take k l0)).1 (IntKind.u64.wrap ((kG (List.take k l0)).snd + IntKind.u64.wrap (rd l0 ↑k)))).1 (xO (kG (List.take k l0)).1 (IntKind.u64.wrap ((kG (List.take k l0)).snd + IntKind.u64.wrap (rd l0 ↑k)))).2; have HQ2 := aa.mk hq2; clear hq2; refine (cO.calls w.heap.size _ _ _ _ _ w0 _ HI2.out HB2.out HQ2.out).mono ?_; rintro e w2 ⟨rfl, hi, hb, hk2⟩; have HI3 := aa.mk hi; have HB3 := aa.mk hb; have HBW3 := aa.mk (xY HBW2.out hk2 (Nat.le_refl _) HB2.out hb); clear hi hb hk2 HI2 HB2 HBW2 HQ2; go_wp2
   go_roundw
   (case rel => exact ⟨k + 1, by omega, by go_num, ⟨by rw [HX.out]; exact HI3.out⟩, HB3, HBW3⟩); case measure => simp [intOf]; omega
  ·(have c1 : decide ((k : Int) < (l0.length : Int)) = false := by simpa using hlt); (obtain rfl : k = l0.length := by omega); have hI := HI.out; rw [List.take_length, Hh.out] at hI; have HI' := aa.mk hI; clear hI HI; go_wp2
   go_ret
   exact ⟨_, rfl, HI'.out, HB.out, HBW.out⟩
end Go.Proofs.Ytihedeofkhapiaa.Pr
end
