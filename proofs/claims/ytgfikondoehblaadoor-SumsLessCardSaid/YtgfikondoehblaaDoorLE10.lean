/- Part 10 of 21 of the proof of: SumsLess: for every slice of numbers, the law returns true: without the entries that Struck names an account made of them adds up, and without fewer ones, or as many that come before, it does not; no condition beyond the statement's own. -/
import Derived.Test.YtgfikondoehblaaDoorProg
import Derived.Shelf.Abstract
import Derived.Shelf.RegionOpen
import Derived.WalkKit
import Derived.OwnWalkIn
import Derived.TacticsInMore
import Derived.LoopNIn
import Derived.LoopIn
import Derived.RegionTactic
import Derived.Deep.RegionHeld3
import Derived.Test.YtgfikondoehblaaDoorLE8
set_option linter.unusedVariables false
set_option linter.unusedSimpArgs false
set_option linter.unusedSectionVars false
section
namespace Go.Proofs.YtgfikondoehblaaDoor.Pr
open Go.RowKit Go.Shelf Go.Proofs.YtgfikondoehblaaDoorW.PrintWords Go.Proofs.YtgfikondoehblaaDoorW.PrintLast Go.Proofs.YtgfikondoehblaaDoorW.PrintMore
def signV : Array Value := #[.int .u8 77, .int .i64 1000, .int .i64 4, .int .u8 68, .int .i64 500, .int .i64 1, .int .u8 67, .int .i64 100, .int .i64 4, .int .u8 76, .int .i64 50, .int .i64 1, .int .u8 88, .int .i64 10, .int .i64 4, .int .u8 86, .int .i64 5, .int .i64 1, .int .u8 73, .int .i64 1, .int .i64 4]
structure SignsAt (w : World) : Prop where
  out : ∃ t fr, w.heap[0]? = some (.cells signV t fr)
theorem SignsAt.lt {w : World} (h : SignsAt w) : 0 < w.heap.size := by
  obtain ⟨t, fr, h⟩ := h.out
  exact (Array.getElem?_eq_some_iff.1 h).1
theorem SignsAt.below {B : Nat} {w w' : World} (h : SignsAt w) (hb : Below B w w') (hB : 0 < B) : SignsAt w' := by
  obtain ⟨t, fr, h⟩ := h.out
  exact ⟨t, fr, (hb.block _ hB).trans h⟩
theorem SignsAt.new {w w' : World} (h : SignsAt w) (hb : Below w.heap.size w w') : SignsAt w' := h.below hb h.lt
theorem SignsAt.alloc {w : World} (h : SignsAt w) (o : Obj) : SignsAt (w.alloc o) := h.new ((Below.refl _ w).alloc (Nat.le_refl _) o)
def sgnL : List Int := [77, 68, 67, 76, 88, 86, 73]
def valL : List Int := [1000, 500, 100, 50, 10, 5, 1]
def mstL : List Int := [4, 1, 4, 1, 4, 1, 4]
def sgn (i : Nat) : Int := sgnL.getD i 0
def vlu (i : Nat) : Int := valL.getD i 0
def mst (i : Nat) : Int := mstL.getD i 0
theorem sign_index (i : Nat) (hi : i < 7) (w : World) : (Instr.index 96 (.agg signV) (.int .i64 (i : Int))).run Tryd.prog w = .ok (.agg #[.int .u8 (sgn i), .int .i64 (vlu i), .int .i64 (mst i)]) w := by
  rcases i with _ | _ | _ | _ | _ | _ | _ | i
  all_goals first | omega | kernel_rfl
theorem vlu_pos (i : Nat) (hi : i < 7) : 1 ≤ vlu i ∧ vlu i ≤ 1000 := by
  rcases i with _ | _ | _ | _ | _ | _ | _ | i
  all_goals first | decide | omega

def placeP (c : Int) : Int := if c = 77 then 0 else if c = 68 then 1 else if c = 67 then 2 else if c = 76 then 3 else if c = 88 then 4 else if c = 86 then 5 else if c = 73 then 6 else -1
theorem place_at {c : Int} {i : Nat} (hi : i < 7) (h : sgn i = c) : placeP c = i := by
  subst h
  rcases i with _ | _ | _ | _ | _ | _ | _ | i
  all_goals first | decide | omega
theorem place_none {c : Int} (h : ∀ i, i < 7 → sgn i ≠ c) : placeP c = -1 := by
  have h0 := h 0 (by omega); have h1 := h 1 (by omega); have h2 := h 2 (by omega); have h3 := h 3 (by omega); have h4 := h 4 (by omega); have h5 := h 5 (by omega); have h6 := h 6 (by omega)
  simp only [sgn, sgnL, List.getD_cons_zero, List.getD_cons_succ] at h0 h1 h2 h3 h4 h5 h6
  unfold placeP
  rw [if_neg (fun e => h0 e.symm), if_neg (fun e => h1 e.symm), if_neg (fun e => h2 e.symm), if_neg (fun e => h3 e.symm), if_neg (fun e => h4 e.symm), if_neg (fun e => h5 e.symm), if_neg (fun e => h6 e.symm)]

set_option maxRecDepth 100000 in
set_option maxHeartbeats 1000000 in
theorem place_calls (c : Int) (w : World) (hS : SignsAt w) : Calls Tryd.prog 65 #[.int .u8 c] w fun e w' => e = .returned (.int .i64 (placeP c)) ∧ Below w.heap.size w w' := by
  have HS := Aside0.mk hS
  clear hS
  go_enter Tryd.func65, Tryd.ntmps65
  obtain ⟨t, fr, hg⟩ := HS.out.out
  have HG := Aside0.mk hg
  clear hg
  go_wp2_with (refine wpList_load_row rfl 96 (.global 0) rfl 0 rfl t signV fr _ HG.out Tryd.underlying96 rfl (by kernel_rfl) ?_)
  go_loopw [3, 4, 6, 7, 8, 9, 10, 11, 12, 13] (fun _ _ i _ _ _ _ _ _ _ wr => ∃ k : Nat, k ≤ 7 ∧ i = .int .i64 k ∧ (∀ j, j < k → sgn j ≠ c) ∧ Aside0 (Below w.heap.size w wr))
    (fun _ _ i _ _ _ _ _ _ _ _ => 7 - (intOf i).toNat)
  case atStart => exact ⟨0, by omega, rfl, by omega, ⟨Below.refl _ _⟩⟩
  case round =>
    obtain ⟨k, hk, rfl, hno, HB⟩ := hrel
    have HN := Aside0.mk hno
    clear hno
    by_cases hlt : k < 7
    · have hd : decide ((k : Int) < 7) = true := by simp; omega
      have hx := fun W => sign_index k hlt W
      by_cases hc : sgn k = c
      · have hq : (sgn k == c) = true := by simp [hc]
        have HP := Aside0.mk (place_at hlt hc)
        clear hc
        go_wp2
        go_ret
        rw [HP.out]
        exact ⟨rfl, below_alloc HB.out _⟩
      · have hq : (sgn k == c) = false := by simp [hc]
        have HC := Aside0.mk hc
        clear hc
        go_wp2
        go_roundw
        case rel =>
          refine ⟨k + 1, by omega, by go_num, fun j hj => ?_, ⟨below_alloc HB.out _⟩⟩
          rcases Nat.lt_or_eq_of_le (Nat.lt_succ_iff.1 hj) with h | rfl
          · exact HN.out j h
          · exact HC.out
        case measure => simp [intOf]; omega
    · obtain rfl : k = 7 := by omega
      have hd : decide ((7 : Int) < 7) = false := by simp
      go_wp2
      go_ret
      rw [place_none HN.out]
      exact ⟨rfl, HB.out⟩
end Go.Proofs.YtgfikondoehblaaDoor.Pr
end
