/- SightLooks: for every line and slice of numbers, the law returns true: the program tells which letter would be best to be known, and how many letters may still fit then, as the reference does, with the same error, and changes nothing; no condition beyond the statement's own. -/
import Derived.Test.YtihedeofkhapiaaRows
import Derived.WalkKit
import Derived.ProofKit
import Derived.OpenShut
import Derived.ShutString
import Derived.ChangeOld
import Derived.Below
import Derived.SizedLaws
import Derived.Test.YtihedeofkhapiaaSO2
import Derived.Test.YtihedeofkhapiaaSO29
import Derived.Test.YtihedeofkhapiaaSO35
set_option linter.unusedVariables false
set_option linter.unusedSimpArgs false
section
namespace Go.Proofs.Ytihedeofkhapiaa.sightLooks
open Go.ChangeShapes Go.WideShapes Go.ChangeAt Go.RowKit
open Go.ChangeMaps (open_string shut_string)
open Go.Proofs.YtihedeofkhapiaaW.PrintWords
theorem own : ownKnob Try.prog.godebug = none := by kernel_rfl
theorem laidOut : laidOutB Try.prog = true := by kernel_rfl
def aiQ (k : IntKind) (w : World) (a : Option Addr) (len cap : Nat) (zs : List Int) : Prop :=
 (a = none ∧ len = 0 ∧ cap = 0 ∧ zs = []) ∨
 ∃ x, a = some x ∧ len ≤ cap ∧ cap ≤ maxLen ∧ zs.length = cap ∧ (∀ i, i < zs.length → w.cell? (x.add i) = some (.int k (zs.getD i 0))) ∧ ∀ n ∈ zs, (Lit.int k n).wf = true
set_option maxRecDepth 100000 in
theorem lifted (os : Os) (started : os.Started) (H : Type) (enc : TypeId × Value → H) :
 ReturnsInHanded {} Try.checked os 11 .any (Rows.sightLooksSpec.pre6 enc Try.prog Try.f11 Rows.sightLooksRow.domain false) (Rows.sightLooksSpec.post enc Try.prog Try.f11 false true false false) := by
 refine returnsInHanded_of_change_sized (C := Try.checked) own started (by kernel_rfl) Try.func11
  (ChangeSpec.witness6 (enc := enc) (C := Try.checked) false ⟨#[], #[.agg #[.slice none 0 0, .int .i64 0, .int .i64 0, .int .i64 0, .slice none 0 0], .slice none 0 0], []⟩ 11 (by kernel_rfl) (by kernel_rfl) (by kernel_rfl) (by kernel_rfl)) ?_
 intro W base args ds gs before hval0 hW hcnd hsz0 _; have hsz : (DataW.weightsEach Try.prog (Try.f11.params.toList ++ Rows.sightLooksSpec.plain.varTypes Try.prog) (ds ++ gs)).all (· ≤ reachBytes) = true := hsz0; have hval : ∀ (j : Nat) t v, Try.f11.params[j]? = some t → args[j]? = some v → Value.okWide Try.prog W .any base t v := hval0; have hW' := hW; obtain ⟨p, q, hA0, hV, rfl, hfz, hnd⟩ := hW; have hA : DataW.TrodAll enc Try.prog W 0 (fun _ => true) true Try.f11.params.toList args.toList ds p := hA0; rw [Try.params11] at hA hval hsz; obtain ⟨v0, vs0, d0, ds0, p0, q0, hargs, rfl, rfl, h0, r0⟩ := trodAll_cons hA; obtain ⟨v1, vs1, d1, ds1, p1, q1, hargs1, rfl, rfl, h1, r1⟩ := trodAll_cons r0; obtain ⟨rfl, rfl, rfl⟩ := trodAll_nil r1; (obtain rfl : args = #[v0, v1] := by cases args; simp_all); obtain ⟨rfl, rfl⟩ := trodVars_none hV; obtain ⟨cs0, rfl, _⟩ := okWide_struct Try.underlying25 (hval 0 25 v0 rfl rfl); obtain ⟨a3, len3, cap3, rfl⟩ := okWide_slice Try.underlying28 (hval 1 28 v1 rfl rfl); have k0 := h0; have k1 := h1; (have lt0 : ∀ x ∈ p0, x.block < W.heap.size := by obtain ⟨m, hm⟩ := k0; exact DataW.trod_lt m _ _ _ hm); have lt1 : ∀ x ∈ p1, x.block < W.heap.size := by obtain ⟨m, hm⟩ := k1; exact DataW.trod_lt m _ _ _ hm
 obtain ⟨A, c, hs, LW, LS, lt, B, d, sq, e0, hC, hcl, hD, hdl⟩ : ∃ (A : Option Addr) (c : Nat) (hs : List Pr.S66) (LW LS lt : Int) (B : Option Addr) (d : Nat) (sq : List (List Pr.S27)), cs0 = #[.slice A hs.length c, .int .i64 LW, .int .i64 LS, .int .i64 lt, .slice B sq.length d] ∧ Kd.C Pr.k66 W A hs.length hs ∧ hs.length ≤ c ∧ Kd.C (Kd.slice 27 Pr.k27) W B sq.length sq ∧ sq.length ≤ d := by
  obtain ⟨m, hm⟩ := h0; obtain ⟨A, c, hs, LW, LS, lt, B, d, sq, e0, h⟩ := Pr.TW hm; exact ⟨A, c, hs, LW, LS, lt, B, d, sq, Array.toList_inj.1 e0, h⟩
 obtain ⟨ns, e3, hnc, hN⟩ : ∃ ns : List Int, len3 = ns.length ∧ ns.length ≤ cap3 ∧ Kd.C (Kd.int .i64) W a3 ns.length ns := by
  obtain ⟨m, hm⟩ := h1; obtain ⟨ns, A', c', e, hl, hc⟩ := Pr.qC 3 Try.underlying28 (by kernel_rfl) (Pr.NP Try.underlying3) _ _ _ hm; simp [Value.cells] at e; obtain ⟨rfl, rfl, rfl⟩ := e; exact ⟨ns, rfl, hl, hc⟩
 subst e0; subst e3; clear hA0 hval0 hsz0 hsz; obtain ⟨k, a, b, mh, mw, ms, mt, mq, cut, txt, vis, y0, y1, g1, g2, g3, g4, g5⟩ := Pr.Jq hs LW LS lt sq ns; (refine (Pr.IE k A B a3 c d cap3 hs LW LS lt sq ns a b mh mw ms mt mq cut txt vis y0 y1 W hC hcl hD hdl hN hnc g1 g2 g3 g4 g5).mono fun e W' ⟨he, bel⟩ => ?_); subst he; exact ⟨_, rfl, _, _, _, [], _, [], hW', trodAll_mk1 (shut_bool Try.underlying4 _), (trodAll_cons_mk (Below.trod laidOut (by kernel_rfl) (of_decide_eq_true (by kernel_rfl)) k0 bel lt0) (trodAll_cons_mk (Below.trod laidOut (by kernel_rfl) (of_decide_eq_true (by kernel_rfl)) k1 bel lt1) trodAll_mk0)), rfl, bel.frame _, fun h => by cases h⟩
theorem over : Rows.sightLooksRow.holds Try.pinned (OpenSpec.ofChange Rows.sightLooksSpec) :=
 OpenClaim.holds_of_wide 11 Try.f11 rfl rfl rfl rfl rfl rfl rfl ⟨rfl, rfl, rfl, rfl, rfl⟩ rfl rfl rfl rfl rfl (by kernel_rfl) Try.func11 (by kernel_rfl)
  (of_decide_eq_true (by kernel_rfl)) (by unfold Func.isWrapper; first | (rw [if_pos (by decide +kernel)]; kernel_rfl) | (rw [if_neg (by decide +kernel)]; exact ⟨rfl, rfl⟩))
  (fun os started H enc _ => lifted os started H enc)
theorem proved : Rows.SightLooksSaid := over
end Go.Proofs.Ytihedeofkhapiaa.sightLooks
namespace Go.Proofs.Ytihedeofkhapiaa
theorem sightLooks_holds : Rows.SightLooksSaid := sightLooks.proved
end Go.Proofs.Ytihedeofkhapiaa
end
