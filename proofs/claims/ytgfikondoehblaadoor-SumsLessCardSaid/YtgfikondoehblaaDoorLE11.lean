/- Part 11 of 21 of the proof of: SumsLess: for every slice of numbers, the law returns true: without the entries that Struck names an account made of them adds up, and without fewer ones, or as many that come before, it does not; no condition beyond the statement's own. -/
import Derived.Test.YtgfikondoehblaaDoorRows
import Derived.ProofKit
import Derived.OpenShut
import Derived.LaidMore
import Derived.Test.YtgfikondoehblaaDoorLE10
set_option linter.unusedVariables false
set_option linter.unusedSimpArgs false
set_option linter.unusedSectionVars false
section
namespace Go.Proofs.YtgfikondoehblaaDoor.Pr
open Go.RowKit Go.Shelf Go.ChangeShapes Go.WideShapes Go.ChangeAt
abbrev laidS {H : Type} : List (String × DataW H) := [("cippus/sums.signs", Rows.laid_cippus_sums_signs)]
theorem gSigns : Tryd.prog.globalNamed "cippus/sums.signs" = some 0 := by kernel_rfl
theorem tSigns : (Tryd.prog.globals[0]?).map (·.type) = some 96 := by kernel_rfl
theorem cellsS : Tryd.prog.cellsOf 95 = 3 := by kernel_rfl
theorem cellsA : Tryd.prog.cellsOf 96 = 21 := by kernel_rfl
theorem cells8 : Tryd.prog.cellsOf 5 = 1 := by kernel_rfl
theorem cells64 : Tryd.prog.cellsOf 3 = 1 := by kernel_rfl
theorem cells_sign {H : Type} {enc : TypeId × Value → H} {w : World} {sp : Nat → Bool} {held : Bool} {base fuel : Nat} {x y z : Value} {d : DataW H} {p : List MemPlace} {a b c : Int}
    (h : DataW.trod enc Tryd.prog w base sp held fuel 95 [x, y, z] = some (d, p)) (hd : d = .agg [.lit (.int .u8 a), .lit (.int .i64 b), .lit (.int .i64 c)]) :
    x = .int .u8 a ∧ y = .int .i64 b ∧ z = .int .i64 c := by
  obtain ⟨xs, m, rfl, hx, hl, hn, hf⟩ := DataW.trod_struct Tryd.underlying95 h
  simp only [Prod.mk.injEq] at hx
  obtain ⟨hx1, _⟩ := hx
  rw [hd] at hx1
  have h0 : DataW.trod enc Tryd.prog w base sp held m 5 (([x, y, z].drop 0).take (Tryd.prog.cellsOf 5)) = xs[0]? := hf 0 _ rfl
  have h1 : DataW.trod enc Tryd.prog w base sp held m 3 (([x, y, z].drop 1).take (Tryd.prog.cellsOf 3)) = xs[1]? := hf 1 _ rfl
  have h2 : DataW.trod enc Tryd.prog w base sp held m 3 (([x, y, z].drop 2).take (Tryd.prog.cellsOf 3)) = xs[2]? := hf 2 _ rfl
  rw [cells8] at h0
  rw [cells64] at h1 h2
  match xs, hn, hx1, h0, h1, h2 with
  | [x0, x1, x2], _, hx1, h0, h1, h2 =>
    simp only [List.map_cons, List.map_nil, DataW.agg.injEq, List.cons.injEq, and_true] at hx1
    obtain ⟨e0, e1, e2⟩ := hx1
    obtain ⟨n0, c0, r0, _⟩ := DataW.trod_int Tryd.underlying5 (show DataW.trod _ Tryd.prog w base _ held m 5 [x] = some x0 from h0)
    obtain ⟨n1, c1, r1, _⟩ := DataW.trod_int Tryd.underlying3 (show DataW.trod _ Tryd.prog w base _ held m 3 [y] = some x1 from h1)
    obtain ⟨n2, c2, r2, _⟩ := DataW.trod_int Tryd.underlying3 (show DataW.trod _ Tryd.prog w base _ held m 3 [z] = some x2 from h2)
    subst r0 r1 r2
    simp only [DataW.lit.injEq, Lit.int.injEq, true_and] at e0 e1 e2
    subst e0 e1 e2
    simp only [List.cons.injEq, and_true] at c0 c1 c2
    exact ⟨c0, c1, c2⟩
theorem list21 : ∀ {l : List Value}, l.length = 21 → ∃ a b c d e f g h i j k m n o p q r s t u v, l = [a, b, c, d, e, f, g, h, i, j, k, m, n, o, p, q, r, s, t, u, v]
  | [a, b, c, d, e, f, g, h, i, j, k, m, n, o, p, q, r, s, t, u, v], _ => ⟨a, b, c, d, e, f, g, h, i, j, k, m, n, o, p, q, r, s, t, u, v, rfl⟩
theorem signs_of_laid {W : World} (h : laidMetH Tryd.prog laidS W) : SignsAt W := by
  rw [MakeChecks.laidMetH_plain _ _ _ (by kernel_rfl)] at h
  obtain ⟨ps, ⟨g0, t0, cs0, f0, p0, q0, hg0, ht0, hv0, hd0, _, _⟩, _, _⟩ := h
  obtain rfl := Option.some.inj (gSigns.symm.trans hg0)
  obtain rfl := Option.some.inj (tSigns.symm.trans ht0)
  have hcs : ∃ t fr, W.heap[0]? = some (.cells cs0 t fr) := by
    simp only [World.var?, hg0, Option.bind_some] at hv0
    split at hv0
    · rename_i h1
      obtain rfl := Option.some.inj hv0
      exact ⟨_, _, h1⟩
    · cases hv0
  obtain ⟨xs, m, rfl, hx, hl, hn, hel⟩ := DataW.trod_array Tryd.underlying96 hd0
  rw [cellsA] at hl
  rw [cellsS] at hel
  obtain ⟨l⟩ := cs0
  dsimp only at hl hel
  obtain ⟨a, b, c, d, e, f, g, h, i, j, k, m', n, o, p, q, r, s, t, u, v, rfl⟩ := list21 hl
  simp only [Prod.mk.injEq] at hx
  obtain ⟨hx1, _⟩ := hx
  have k0 := hel 0 (by decide)
  have k1 := hel 1 (by decide)
  have k2 := hel 2 (by decide)
  have k3 := hel 3 (by decide)
  have k4 := hel 4 (by decide)
  have k5 := hel 5 (by decide)
  have k6 := hel 6 (by decide)
  match xs, hn, hx1, k0, k1, k2, k3, k4, k5, k6 with
  | [x0, x1, x2, x3, x4, x5, x6], _, hx1, k0, k1, k2, k3, k4, k5, k6 =>
    unfold Rows.laid_cippus_sums_signs at hx1
    simp only [List.map_cons, List.map_nil, DataW.agg.injEq, List.cons.injEq, and_true] at hx1
    obtain ⟨e0, e1, e2, e3, e4, e5, e6⟩ := hx1
    obtain ⟨rfl, rfl, rfl⟩ := cells_sign (d := x0.1) (p := x0.2) (show DataW.trod _ Tryd.prog W 0 _ _ m _ [a, b, c] = some (x0.1, x0.2) from k0) e0.symm
    obtain ⟨rfl, rfl, rfl⟩ := cells_sign (d := x1.1) (p := x1.2) (show DataW.trod _ Tryd.prog W 0 _ _ m _ [d, e, f] = some (x1.1, x1.2) from k1) e1.symm
    obtain ⟨rfl, rfl, rfl⟩ := cells_sign (d := x2.1) (p := x2.2) (show DataW.trod _ Tryd.prog W 0 _ _ m _ [g, h, i] = some (x2.1, x2.2) from k2) e2.symm
    obtain ⟨rfl, rfl, rfl⟩ := cells_sign (d := x3.1) (p := x3.2) (show DataW.trod _ Tryd.prog W 0 _ _ m _ [j, k, m'] = some (x3.1, x3.2) from k3) e3.symm
    obtain ⟨rfl, rfl, rfl⟩ := cells_sign (d := x4.1) (p := x4.2) (show DataW.trod _ Tryd.prog W 0 _ _ m _ [n, o, p] = some (x4.1, x4.2) from k4) e4.symm
    obtain ⟨rfl, rfl, rfl⟩ := cells_sign (d := x5.1) (p := x5.2) (show DataW.trod _ Tryd.prog W 0 _ _ m _ [q, r, s] = some (x5.1, x5.2) from k5) e5.symm
    obtain ⟨rfl, rfl, rfl⟩ := cells_sign (d := x6.1) (p := x6.2) (show DataW.trod _ Tryd.prog W 0 _ _ m _ [t, u, v] = some (x6.1, x6.2) from k6) e6.symm
    obtain ⟨t', fr, hh⟩ := hcs
    exact ⟨⟨t', fr, hh⟩⟩
theorem door_met (os : Os) (args : Array Value) : laidMetH Tryd.prog laidS ((World.doorLaid Tryd.prog 400 os).forCall (fun _ _ => 0) ⟨#[], args, []⟩).memory :=
  laidMetH_of_parts3 (fuel := 8) (laidMet_of_run' 8 (by kernel_rfl) (by kernel_rfl)) (by kernel_rfl) (by kernel_rfl)
end Go.Proofs.YtgfikondoehblaaDoor.Pr
end
