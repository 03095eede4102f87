/- Part 29 of 36 of the proof of: SightLooks: for every line and slice of numbers, the law returns true: the program tells which letter would be best to be known, and how many letters may still fit then, as the reference does, with the same error, and changes nothing; no condition beyond the statement's own. -/
import Derived.Deep.Slices
import Derived.ChangeArms
import Derived.WideShapes
import Derived.Test.YtihedeofkhapiaaSO21
set_option linter.unusedVariables false
set_option linter.unusedSimpArgs false
section
namespace Go.Proofs.Ytihedeofkhapiaa.Pr
open Go.Deep Go.RowKit Go.Proofs.YtihedeofkhapiaaW.PrintWords Go.Proofs.YtihedeofkhapiaaW.PrintLast Go.Proofs.YtihedeofkhapiaaW.PrintMore
section
variable {H : Type} {enc : TypeId × Value → H} {w : World} {base : Nat} {spare : Nat → Bool} {held : Bool}
def EX {α : Type} (enc : TypeId × Value → H) (w : World) (base : Nat) (spare : Nat → Bool) (held : Bool) (d : Kd α) (t : TypeId) : Prop :=
 ∀ (fuel : Nat) (cs : List Value) (x : DataW H × List MemPlace), DataW.trod enc Try.prog w base spare held fuel t cs = some x → ∃ v, d.K w v cs
theorem NP {k : IntKind} {t : TypeId} (ht : Try.prog.underlying t = some (.int k)) : EX enc w base spare held (Kd.int k) t := fun fuel cs x h => by
 obtain ⟨n, rfl, _⟩ := DataW.trod_int ht h; exact ⟨n, rfl⟩
theorem qC {α : Type} {d : Kd α} {t e : TypeId} (e' : Nat) (ht : Try.prog.underlying t = some (.slice e)) (hc : Try.prog.cellsOf e = d.sz) (hd : EX enc w base spare held d e) : EX enc w base spare held (Kd.slice e' d) t := fun fuel cs x h => by
 rcases open_slice ht h with ⟨rfl, _⟩ | ⟨a, len, cap, m, n, D, Pl, rfl, hb, hl, hm, hmm, _, hx⟩
 ·exact ⟨[], none, 0, rfl, Nat.le_refl _, Kd.OW _ _⟩
 ·have hlm : len ≤ m := by rw [hmm]; split <;> omega
  have each : ∀ i, i < m → ∃ p : α × List Value, p.2.length = d.sz ∧ d.K w p.1 p.2 ∧ ∀ j u, p.2[j]? = some u → w.cell? (a.add (i * d.sz + j)) = some u := fun i hi => by
   obtain ⟨cs', h1, h2⟩ := hx i hi; obtain ⟨v, hv⟩ := hd _ _ _ h2; rw [hc] at h1; obtain ⟨_, hlen, hcell⟩ := World.cells?_some h1; refine ⟨(v, cs'), hlen, hv, fun j u hu => ?_⟩
   have hj : j < d.sz := by
    have h9 : j < cs'.length := (List.getElem?_eq_some_iff.1 hu).1; omega
   have := hcell j hj; rw [Deep.add_add] at this; rw [this]; exact hu
  rcases Nat.eq_zero_or_pos len with rfl | hpos
  ·exact ⟨[], some a, cap, rfl, Nat.zero_le _, ⟨rfl, Nat.zero_le _, fun h => absurd h (Nat.lt_irrefl _)⟩⟩
  haveI : Inhabited (α × List Value) := ⟨(each 0 (by omega)).choose⟩
  obtain ⟨q, hq⟩ := choose_lt each; (have hlen : ((List.range len).map fun i => (q i).1).length = len := by simp); refine ⟨(List.range len).map fun i => (q i).1, some a, cap, by rw [hlen], by rw [hlen]; exact hl, ?_⟩; rw [hlen]; refine ⟨hlen, Nat.le_trans hl (Nat.le_trans hm (by decide)), fun _ => ⟨a, rfl, fun j p hp => ?_⟩⟩; obtain ⟨hj, hp'⟩ := List.getElem?_eq_some_iff.1 hp; rw [hlen] at hj; simp only [List.getElem_map, List.getElem_range] at hp'; subst hp'; obtain ⟨h1, h2, h3⟩ := hq j (by omega); exact ⟨(q j).2, h1, h2, h3⟩
set_option maxRecDepth 100000 in
theorem CO {t f0t f1t : TypeId} {k0 k1 : IntKind} {f0 f1 : Field} {fuel : Nat} {cs : List Value} {x : DataW H × List MemPlace} (ht : Try.prog.underlying t = some (.struct #[f0, f1])) (hc : Try.prog.cellsOf t = 2) (o0 : f0.offset = 0) (o1 : f1.offset = 1) (t0 : f0.type = f0t) (t1 : f1.type = f1t) (c0 : Try.prog.cellsOf f0t = 1) (c1 : Try.prog.cellsOf f1t = 1)
 (u0 : Try.prog.underlying f0t = some (.int k0)) (u1 : Try.prog.underlying f1t = some (.int k1)) (h : DataW.trod enc Try.prog w base spare held fuel t cs = some x) : ∃ a b, cs = [.int k0 a, .int k1 b] := by
 obtain ⟨xs, n, _, _, hl, hxl, hf⟩ := DataW.trod_struct ht h; rw [hc] at hl
 match xs, hxl, cs, hl with
 | [y0, y1], _, [v0, v1], _ =>
  have g0 := hf 0 f0 rfl; have g1 := hf 1 f1 rfl; simp [o0, o1, t0, t1, c0, c1] at g0 g1; obtain ⟨a, e0, _⟩ := DataW.trod_int u0 g0; obtain ⟨b, e1, _⟩ := DataW.trod_int u1 g1; simp only [List.cons.injEq, and_true] at e0 e1; exact ⟨a, b, by rw [e0, e1]⟩
theorem UV : EX enc w base spare held k27 27 := fun fuel cs x h => by
 obtain ⟨a, b, rfl⟩ := CO Try.underlying27 (by kernel_rfl) rfl rfl rfl rfl (by kernel_rfl) (by kernel_rfl) Try.underlying3 Try.underlying3 h; exact ⟨⟨a, b⟩, O9 w ⟨a, b⟩⟩
theorem TY : EX enc w base spare held k86 86 := fun fuel cs x h => by
 obtain ⟨a, b, rfl⟩ := CO Try.underlying86 (by kernel_rfl) rfl rfl rfl rfl (by kernel_rfl) (by kernel_rfl) Try.underlying5 Try.underlying3 h; exact ⟨⟨a, b⟩, Rz w ⟨a, b⟩⟩
set_option maxRecDepth 100000 in
theorem Um : EX enc w base spare held k66 66 := fun fuel cs x h => by
 obtain ⟨xs, n, _, _, hl, hxl, hf⟩ := DataW.trod_struct Try.underlying66 h; rw [show Try.prog.cellsOf 66 = 3 by kernel_rfl] at hl
 match xs, hxl, cs, hl with
 | [y0, y1], _, [v0, v1, v2], _ =>
  have g0 := hf 0 _ rfl; have g1 := hf 1 _ rfl; simp [show Try.prog.cellsOf 63 = 2 by kernel_rfl, show Try.prog.cellsOf 64 = 1 by kernel_rfl] at g0 g1; obtain ⟨a, b, e0⟩ := CO Try.underlying63 (by kernel_rfl) rfl rfl rfl rfl (by kernel_rfl) (by kernel_rfl) Try.underlying3 Try.underlying3 g0; obtain ⟨l, A, c, e1, hlc, hC⟩ := qC 86 Try.underlying64 (by kernel_rfl) TY _ _ _ g1; simp only [List.cons.injEq, and_true] at e0 e1; obtain ⟨rfl, rfl⟩ := e0; subst e1; exact ⟨⟨⟨a, b⟩, l⟩, Rc w ⟨⟨a, b⟩, l⟩ hlc hC⟩
set_option maxRecDepth 100000 in
theorem TW {fuel : Nat} {cs : List Value} {x : DataW H × List MemPlace} (h : DataW.trod enc Try.prog w base spare held fuel 25 cs = some x) :
 ∃ (A : Option Addr) (c : Nat) (hs : List S66) (W S t : Int) (B : Option Addr) (d : Nat) (sq : List (List S27)), cs = [.slice A hs.length c, .int .i64 W, .int .i64 S, .int .i64 t, .slice B sq.length d] ∧ Kd.C k66 w A hs.length hs ∧ hs.length ≤ c ∧ Kd.C (Kd.slice 27 k27) w B sq.length sq ∧ sq.length ≤ d := by
 obtain ⟨xs, n, _, _, hl, hxl, hf⟩ := DataW.trod_struct Try.underlying25 h; rw [show Try.prog.cellsOf 25 = 5 by kernel_rfl] at hl
 match xs, hxl, cs, hl with
 | [y0, y1, y2, y3, y4], _, [v0, v1, v2, v3, v4], _ =>
  have g0 := hf 0 _ rfl; have g1 := hf 1 _ rfl; have g2 := hf 2 _ rfl; have g3 := hf 3 _ rfl; have g4 := hf 4 _ rfl; simp [show Try.prog.cellsOf 22 = 1 by kernel_rfl, show Try.prog.cellsOf 23 = 1 by kernel_rfl, show Try.prog.cellsOf 3 = 1 by kernel_rfl] at g0 g1 g2 g3 g4; obtain ⟨hs, A, c, e0, hlc, hC⟩ := qC 66 Try.underlying22 (by kernel_rfl) Um _ _ _ g0; obtain ⟨W, e1, _⟩ := DataW.trod_int Try.underlying3 g1; obtain ⟨S, e2, _⟩ := DataW.trod_int Try.underlying3 g2; obtain ⟨t, e3, _⟩ := DataW.trod_int Try.underlying3 g3; obtain ⟨sq, B, d, e4, hld, hD⟩ := qC 39 Try.underlying23 (by kernel_rfl) (qC 27 Try.underlying39 (by kernel_rfl) UV) _ _ _ g4; simp only [List.cons.injEq, and_true] at e0 e1 e2 e3 e4; exact ⟨A, c, hs, W, S, t, B, d, sq, by rw [e0, e1, e2, e3, e4], hC, hlc, hD, hld⟩
end
end Go.Proofs.Ytihedeofkhapiaa.Pr
end
