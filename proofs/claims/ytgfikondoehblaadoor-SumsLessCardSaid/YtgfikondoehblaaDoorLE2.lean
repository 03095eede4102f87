/- Part 2 of 21 of the proof of: SumsLess: for every slice of numbers, the law returns true: without the entries that Struck names an account made of them adds up, and without fewer ones, or as many that come before, it does not; no condition beyond the statement's own. -/
import Derived.Laws.AppendOwn
import Derived.Below
import Derived.OwnWalk
set_option linter.unusedVariables false
set_option linter.unusedSimpArgs false
set_option linter.unusedSectionVars false
section
namespace Go.Proofs.SumKeep
open Go.RowKit
structure Turns (O : Nat → Prop) (w w' : World) : Prop where
  os : w'.os = w.os
  tape : w'.tape = w.tape
  output : w'.output = w.output
  size : w.heap.size ≤ w'.heap.size
  block : ∀ k, k < w.heap.size → ¬ O k → w'.heap[k]? = w.heap[k]?
theorem Turns.refl (O : Nat → Prop) (w : World) : Turns O w w := ⟨rfl, rfl, rfl, Nat.le_refl _, fun _ _ _ => rfl⟩
theorem Turns.trans {O : Nat → Prop} {a b c : World} (h : Turns O a b) (k : Turns O b c) : Turns O a c :=
  ⟨k.os.trans h.os, k.tape.trans h.tape, k.output.trans h.output, Nat.le_trans h.size k.size, fun i hi hn => (k.block i (Nat.lt_of_lt_of_le hi h.size) hn).trans (h.block i hi hn)⟩
theorem Turns.then {O O' : Nat → Prop} {a b c : World} (h : Turns O a b) (k : Turns O' b c) (hO : ∀ i, i < a.heap.size → O' i → O i) : Turns O a c :=
  ⟨k.os.trans h.os, k.tape.trans h.tape, k.output.trans h.output, Nat.le_trans h.size k.size, fun i hi hn => (k.block i (Nat.lt_of_lt_of_le hi h.size) (fun h' => hn (hO i hi h'))).trans (h.block i hi hn)⟩
theorem Turns.mono {O O' : Nat → Prop} {a b : World} (h : Turns O a b) (hO : ∀ i, i < a.heap.size → O i → O' i) : Turns O' a b :=
  ⟨h.os, h.tape, h.output, h.size, fun i hi hn => h.block i hi (fun h' => hn (hO i hi h'))⟩
theorem Turns.of_below {B : Nat} {w w' : World} (h : Below B w w') : Turns (fun k => B ≤ k) w w' := ⟨h.os, h.tape, h.output, h.size, fun k _ hn => h.block k (by omega)⟩
theorem Turns.of_new {O : Nat → Prop} {w w' : World} (h : Below w.heap.size w w') : Turns O w w' := ⟨h.os, h.tape, h.output, h.size, fun k hk _ => h.block k hk⟩
theorem Turns.of_grown {O : Nat → Prop} {w w' : World} {row : Option Nat} (h : w.grownBy w' row) (hO : ∀ k, row = some k → O k) : Turns O w w' :=
  ⟨h.os, h.tape, h.output, h.size, fun k hk hn => h.block k hk (fun e => hn (hO k e.symm))⟩
theorem Turns.alloc {O : Nat → Prop} {a w : World} (h : Turns O a w) (o : Obj) : Turns O a (w.alloc o) :=
  h.trans ⟨rfl, rfl, rfl, by simp, fun k hk _ => Below.heap_alloc _ _ _ hk⟩
theorem Turns.drew {O : Nat → Prop} {a w : World} (h : Turns O a w) : Turns O a w.drew := ⟨h.os, h.tape, h.output, h.size, h.block⟩
theorem Turns.setCell {O : Nat → Prop} {a w : World} (h : Turns O a w) (p : Addr) (u : Value) (hp : p.block < a.heap.size → O p.block) : Turns O a (w.setCell p u) :=
  ⟨h.os, h.tape, h.output, Nat.le_trans h.size (by simp [World.setCell]), fun k hk hn => (Below.heap_setCell _ _ _ _ (fun e => by subst e; exact hn (hp hk))).trans (h.block k hk hn)⟩
theorem Turns.below {O : Nat → Prop} {w w' : World} {B : Nat} (h : Turns O w w') (hO : ∀ k, O k → B ≤ k) (hB : B ≤ w.heap.size) : Below B w w' :=
  ⟨h.os, h.tape, h.output, h.size, fun k hk => h.block k (by omega) (fun h' => by have := hO k h'; omega)⟩
theorem Turns.cell {O : Nat → Prop} {w w' : World} (h : Turns O w w') {p : Addr} {v : Value} (hc : w.cell? p = some v) (hn : ¬ O p.block) : w'.cell? p = some v :=
  (World.cell?_of_block (w := w) (h.block p.block (World.block_lt_of_cell? w p hc) hn)).trans hc
end Go.Proofs.SumKeep
end
