/- SightFits: for every line, light, number and slice of numbers, the law returns true: the program tells which lines are valid, which hands and letters fit, and between which years a line was cut, as the reference does, with the same errors, and changes nothing; no condition beyond the statement's own. -/
import Derived.Test.YtihedeofkhapiaaRows
import Derived.WalkKit
import Derived.ProofKit
import Derived.OpenShut
import Derived.ShutString
import Derived.ChangeOld
import Derived.Below
import Derived.SizedLaws
import Derived.Test.YtihedeofkhapiaaSF2
import Derived.Test.YtihedeofkhapiaaSF29
import Derived.Test.YtihedeofkhapiaaSF35
set_option linter.unusedVariables false
set_option linter.unusedSimpArgs false
section
namespace Go.Proofs.Ytihedeofkhapiaa.sightFits
open Go.ChangeShapes Go.WideShapes Go.ChangeAt Go.RowKit
open Go.ChangeMaps (open_string shut_string)
open Go.Proofs.YtihedeofkhapiaaW.PrintWords
theorem own : ownKnob Try.prog.godebug = none := by kernel_rfl
theorem laidOut : laidOutB Try.prog = true := by kernel_rfl
def ajD (k : IntKind) (w : World) (a : Option Addr) (len cap : Nat) (zs : List Int) : Prop :=
 (a = none ∧ len = 0 ∧ cap = 0 ∧ zs = []) ∨
 ∃ x, a = some x ∧ len ≤ cap ∧ cap ≤ maxLen ∧ zs.length = cap ∧ (∀ i, i < zs.length → w.cell? (x.add i) = some (.int k (zs.getD i 0))) ∧ ∀ n ∈ zs, (Lit.int k n).wf = true
set_option maxRecDepth 100000 in
theorem lifted (os : Os) (started : os.Started) (H : Type) (enc : TypeId × Value → H) :
 ReturnsInHanded {} Try.checked os 9 .any (Rows.sightFitsSpec.pre6 enc Try.prog Try.f9 Rows.sightFitsRow.domain false) (Rows.sightFitsSpec.post enc Try.prog Try.f9 false true false false) := by
 refine returnsInHanded_of_change_sized (C := Try.checked) own started (by kernel_rfl) Try.func9
  (ChangeSpec.witness6 (enc := enc) (C := Try.checked) false ⟨#[], #[.agg #[.slice none 0 0, .int .i64 0, .int .i64 0, .int .i64 0, .slice none 0 0], .agg #[.int .i64 0, .int .i64 0], .int .i64 0, .slice none 0 0], []⟩ 9 (by kernel_rfl) (by kernel_rfl) (by kernel_rfl) (by kernel_rfl)) ?_
 intro W base args ds gs before hval0 hW hcnd hsz0 _; have hsz : (DataW.weightsEach Try.prog (Try.f9.params.toList ++ Rows.sightFitsSpec.plain.varTypes Try.prog) (ds ++ gs)).all (· ≤ reachBytes) = true := hsz0; have hval : ∀ (j : Nat) t v, Try.f9.params[j]? = some t → args[j]? = some v → Value.okWide Try.prog W .any base t v := hval0; have hW' := hW; obtain ⟨p, q, hA0, hV, rfl, hfz, hnd⟩ := hW; have hA : DataW.TrodAll enc Try.prog W 0 (fun _ => true) true Try.f9.params.toList args.toList ds p := hA0; rw [Try.params9] at hA hval hsz; obtain ⟨v0, vs0, d0, ds0, p0, q0, hargs, rfl, rfl, h0, r0⟩ := trodAll_cons hA; obtain ⟨v1, vs1, d1, ds1, p1, q1, hargs1, rfl, rfl, h1, r1⟩ := trodAll_cons r0; obtain ⟨v2, vs2, d2, ds2, p2, q2, hargs2, rfl, rfl, h2, r2⟩ := trodAll_cons r1; obtain ⟨v3, vs3, d3, ds3, p3, q3, hargs3, rfl, rfl, h3, r3⟩ := trodAll_cons r2; obtain ⟨rfl, rfl, rfl⟩ := trodAll_nil r3; (obtain rfl : args = #[v0, v1, v2, v3] := by cases args; simp_all); obtain ⟨rfl, rfl⟩ := trodVars_none hV; obtain ⟨cs0, rfl, _⟩ := okWide_struct Try.underlying25 (hval 0 25 v0 rfl rfl); obtain ⟨cs1, rfl, _⟩ := okWide_struct Try.underlying27 (hval 1 27 v1 rfl rfl); obtain ⟨at_, rfl⟩ := okWide_int Try.underlying3 (hval 2 3 v2 rfl rfl); obtain ⟨a3, len3, cap3, rfl⟩ := okWide_slice Try.underlying28 (hval 3 28 v3 rfl rfl); have k0 := h0; have k1 := h1; have k2 := h2; have k3 := h3; (have lt0 : ∀ x ∈ p0, x.block < W.heap.size := by obtain ⟨m, hm⟩ := k0; exact DataW.trod_lt m _ _ _ hm); (have lt1 : ∀ x ∈ p1, x.block < W.heap.size := by obtain ⟨m, hm⟩ := k1; exact DataW.trod_lt m _ _ _ hm); (have lt2 : ∀ x ∈ p2, x.block < W.heap.size := by obtain ⟨m, hm⟩ := k2; exact DataW.trod_lt m _ _ _ hm); have lt3 : ∀ x ∈ p3, x.block < W.heap.size := by obtain ⟨m, hm⟩ := k3; exact DataW.trod_lt m _ _ _ hm
 obtain ⟨A, c, hs, LW, LS, lt, B, d, sq, e0, hC, hcl, hD, hdl⟩ : ∃ (A : Option Addr) (c : Nat) (hs : List Pr.S66) (LW LS lt : Int) (B : Option Addr) (d : Nat) (sq : List (List Pr.S27)), cs0 = #[.slice A hs.length c, .int .i64 LW, .int .i64 LS, .int .i64 lt, .slice B sq.length d] ∧ Kd.C Pr.k66 W A hs.length hs ∧ hs.length ≤ c ∧ Kd.C (Kd.slice 27 Pr.k27) W B sq.length sq ∧ sq.length ≤ d := by
  obtain ⟨m, hm⟩ := h0; obtain ⟨A, c, hs, LW, LS, lt, B, d, sq, e0, h⟩ := Pr.Vs hm; exact ⟨A, c, hs, LW, LS, lt, B, d, sq, Array.toList_inj.1 e0, h⟩
 obtain ⟨x0, x1, e1⟩ : ∃ x0 x1 : Int, cs1 = #[.int .i64 x0, .int .i64 x1] := by
  obtain ⟨m, hm⟩ := h1; obtain ⟨x, hx⟩ := Pr.Ls _ _ _ hm; exact ⟨x.f0, x.f1, Array.toList_inj.1 (Pr.IU hx)⟩
 obtain ⟨ns, e3, hnc, hN⟩ : ∃ ns : List Int, len3 = ns.length ∧ ns.length ≤ cap3 ∧ Kd.C (Kd.int .i64) W a3 ns.length ns := by
  obtain ⟨m, hm⟩ := h3; obtain ⟨ns, A', c', e, hl, hc⟩ := Pr.qO 3 Try.underlying28 (by kernel_rfl) (Pr.Nb Try.underlying3) _ _ _ hm; simp [Value.cells] at e; obtain ⟨rfl, rfl, rfl⟩ := e; exact ⟨ns, rfl, hl, hc⟩
 subst e0; subst e1; subst e3; clear hA0 hval0 hsz0 hsz; obtain ⟨k, a, b, mh, mw, ms, mt, mq, cut, txt, vis, y0, y1, kk, g1, g2, g3, g4, g5, g6, g7, g8, g9⟩ := Pr.NH hs LW LS lt sq x0 x1 at_ ns; (refine (Pr.KS k A B a3 c d cap3 hs LW LS lt sq x0 x1 at_ ns a b mh mw ms mt mq cut txt vis y0 y1 kk W hC hcl hD hdl hN hnc g1 g2 g3 g4 g5 g6 g7 g8 g9).mono fun e W' ⟨he, bel⟩ => ?_); subst he; exact ⟨_, rfl, _, _, _, [], _, [], hW', trodAll_mk1 (shut_bool Try.underlying4 _), (trodAll_cons_mk (Below.trod laidOut (by kernel_rfl) (of_decide_eq_true (by kernel_rfl)) k0 bel lt0) (trodAll_cons_mk (Below.trod laidOut (by kernel_rfl) (of_decide_eq_true (by kernel_rfl)) k1 bel lt1) (trodAll_cons_mk (Below.trod laidOut (by kernel_rfl) (of_decide_eq_true (by kernel_rfl)) k2 bel lt2) (trodAll_cons_mk (Below.trod laidOut (by kernel_rfl) (of_decide_eq_true (by kernel_rfl)) k3 bel lt3) trodAll_mk0)))), rfl, bel.frame _, fun h => by cases h⟩
theorem over : Rows.sightFitsRow.holds Try.pinned (OpenSpec.ofChange Rows.sightFitsSpec) :=
 OpenClaim.holds_of_wide 9 Try.f9 rfl rfl rfl rfl rfl rfl rfl ⟨rfl, rfl, rfl, rfl, rfl⟩ rfl rfl rfl rfl rfl (by kernel_rfl) Try.func9 (by kernel_rfl)
  (of_decide_eq_true (by kernel_rfl)) (by unfold Func.isWrapper; first | (rw [if_pos (by decide +kernel)]; kernel_rfl) | (rw [if_neg (by decide +kernel)]; exact ⟨rfl, rfl⟩))
  (fun os started H enc _ => lifted os started H enc)
theorem proved : Rows.SightFitsSaid := over
end Go.Proofs.Ytihedeofkhapiaa.sightFits
namespace Go.Proofs.Ytihedeofkhapiaa
theorem sightFits_holds : Rows.SightFitsSaid := sightFits.proved
end Go.Proofs.Ytihedeofkhapiaa
end
