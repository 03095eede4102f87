/- Part 21 of 36 of the proof of: SightLooks: for every line and slice of numbers, the law returns true: the program tells which letter would be best to be known, and how many letters may still fit then, as the reference does, with the same error, and changes nothing; no condition beyond the statement's own. -/
import Derived.Test.YtihedeofkhapiaaProg
import Derived.Below
import Derived.Deep.Draws
import Derived.Deep.AppendLies
import Derived.Maps.AppendAt
import Derived.OwnWalk
import Derived.Laws.BytesArg
import Derived.Laws.MakeOwn
import Derived.Laws.OwnMore
import Derived.Deep.OwnRows
import Derived.Tactics
import Derived.Lib.ConvBytes
import Derived.Laws.Slices
import Derived.WalkKit
import Derived.KernelRfl
import Derived.RowKit3
import Derived.Deep.LoopGhost
import Derived.Deep.QuietTactic
import Derived.BigQuiet
import Derived.WideLaws
import Derived.Deep.DeepCutAuto
import Derived.Deep.CutBlock
import Derived.Deep.RegionHeld3
import Derived.Laws.Rows
import Derived.Lib.AppendStr
import Derived.ArgAppend
import Derived.Laws.IdiomCopy
import Derived.OrdersHeld
import Derived.Laws.BitsLemmas
import Derived.RowKit
import Derived.Test.YtihedeofkhapiaaSO4
import Derived.Test.YtihedeofkhapiaaSO18
import Derived.Test.YtihedeofkhapiaaSO19
import Derived.Test.YtihedeofkhapiaaSO20
set_option linter.unusedVariables false
set_option linter.unusedSimpArgs false
section
namespace Go.Proofs.Ytihedeofkhapiaa.Pr
open Go.RowKit Go.Proofs.YtihedeofkhapiaaW.PrintWords Go.Proofs.YtihedeofkhapiaaW.PrintLast Go.Proofs.YtihedeofkhapiaaW.PrintMore
attribute [local go_sem] nQ nT qp qo oH oI qJ qx
def acQ : Option Int → Value
 | none => .nilIface
 | some c => .iface 0 (.int .i64 c)
theorem NK : acQ none = .nilIface := rfl
theorem NF (c : Int) : acQ (some c) = .iface 0 (.int .i64 c) := rfl
theorem info3 : (Try.prog.info? 3).map (fun i => (i.zero, i.size, i.bytes)) = some (some (.int .i64 0), 1, 8) := by kernel_rfl
theorem info5 : (Try.prog.info? 5).map (fun i => (i.zero, i.size, i.bytes)) = some (some (.int .u8 0), 1, 1) := by kernel_rfl
theorem aaI : (Try.prog.info? 9).map (fun i => (i.zero, i.size, i.bytes)) = some (some (.string ⟨#[]⟩), 1, 16) := by kernel_rfl
theorem Pp : (Try.prog.info? 27).map (fun i => (i.zero, i.size, i.bytes)) = some (some (.agg #[(.int .i64 0), (.int .i64 0)]), 2, 16) := by kernel_rfl
theorem Re : (Try.prog.info? 39).map (fun i => (i.zero, i.size, i.bytes)) = some (some (.slice none 0 0), 1, 24) := by kernel_rfl
theorem Rc : (Try.prog.info? 66).map (fun i => (i.zero, i.size, i.bytes)) = some (some (.agg #[(.int .i64 0), (.int .i64 0), (.slice none 0 0)]), 3, 40) := by kernel_rfl
theorem Py : (Try.prog.info? 86).map (fun i => (i.zero, i.size, i.bytes)) = some (some (.agg #[(.int .u8 0), (.int .i64 0)]), 2, 16) := by kernel_rfl
theorem Br : (Try.prog.info? 126).map (fun i => (i.zero, i.size, i.bytes)) = some (some (.agg #[(.int .i64 0), (.int .u8 0)]), 2, 16) := by kernel_rfl
structure S63 where
 f0 : Int
 f1 : Int
def z63 : S63 := ⟨(0 : Int), (0 : Int)⟩
def k63 : Kd S63 := Kd.iso (Kd.pair (Kd.int .i64) (Kd.int .i64)) (fun x : S63 => (x.f0, x.f1))
theorem Ih {w : World} {x : S63} {cs : List Value} (h : k63.K w x cs) : cs = [.int .i64 x.f0, .int .i64 x.f1] := by
 obtain ⟨_, _, rfl, rfl, rfl⟩ := h; exact rfl
theorem NV {w : World} {base : Nat} {ok : Nat → Prop} {x : S63} {cs : List Value} (h : k63.M w base ok x cs) : cs = [.int .i64 x.f0, .int .i64 x.f1] := by
 obtain ⟨_, _, rfl, rfl, rfl⟩ := h; exact rfl
theorem RV (w : World) (x : S63)  : k63.K w x [.int .i64 x.f0, .int .i64 x.f1] := ⟨[.int .i64 x.f0], [.int .i64 x.f1], rfl, rfl, rfl⟩
theorem TY (w : World) (base : Nat) (ok : Nat → Prop) (x : S63)  : k63.M w base ok x [.int .i64 x.f0, .int .i64 x.f1] := ⟨[.int .i64 x.f0], [.int .i64 x.f1], rfl, rfl, rfl⟩
theorem afJ (W : World) (ok : Nat → Prop) (x : S63) : Kd.FK k63 W ok x [.int .i64 x.f0, .int .i64 x.f1] := fun W2 _ => RV W2 x
def RZ (xs : List S63) (i : Int) : S63 := xs.getD i.toNat z63
theorem agC {w : World} {A : Option Addr} {n : Nat} {xs : List S63} (h : Kd.C k63 w A n xs) (i : Int) (h0 : 0 ≤ i) (h1 : i < n) : ∃ ad , A = some ad ∧ w.cell? (ad.add (i.toNat * 2)) = some (.int .i64 (RZ xs i).f0) ∧ w.cell? ⟨(ad.add (i.toNat * 2)).block, (ad.add (i.toNat * 2)).off + 1, none⟩ = some (.int .i64 (RZ xs i).f1) := by
 obtain ⟨ad, c, e, _, hK, hc0⟩ := Kd.vK h z63 i h0 h1; have hc : ∀ j u, c[j]? = some u → w.cell? (ad.add (i.toNat * 2 + j)) = some u := hc0; obtain rfl := Ih hK; exact ⟨ad, e, hc 0 _ rfl, by rw [← qb _ _ 1 (by omega)]; exact hc 1 _ rfl⟩
structure S86 where
 f0 : Int
 f1 : Int
def z86 : S86 := ⟨(0 : Int), (0 : Int)⟩
def k86 : Kd S86 := Kd.iso (Kd.pair (Kd.int .u8) (Kd.int .i64)) (fun x : S86 => (x.f0, x.f1))
theorem P9 {w : World} {x : S86} {cs : List Value} (h : k86.K w x cs) : cs = [.int .u8 x.f0, .int .i64 x.f1] := by
 obtain ⟨_, _, rfl, rfl, rfl⟩ := h; exact rfl
theorem ZV {w : World} {base : Nat} {ok : Nat → Prop} {x : S86} {cs : List Value} (h : k86.M w base ok x cs) : cs = [.int .u8 x.f0, .int .i64 x.f1] := by
 obtain ⟨_, _, rfl, rfl, rfl⟩ := h; exact rfl
theorem RH (w : World) (x : S86)  : k86.K w x [.int .u8 x.f0, .int .i64 x.f1] := ⟨[.int .u8 x.f0], [.int .i64 x.f1], rfl, rfl, rfl⟩
theorem uA (w : World) (base : Nat) (ok : Nat → Prop) (x : S86)  : k86.M w base ok x [.int .u8 x.f0, .int .i64 x.f1] := ⟨[.int .u8 x.f0], [.int .i64 x.f1], rfl, rfl, rfl⟩
theorem afk (W : World) (ok : Nat → Prop) (x : S86) : Kd.FK k86 W ok x [.int .u8 x.f0, .int .i64 x.f1] := fun W2 _ => RH W2 x
def ai (xs : List S86) (i : Int) : S86 := xs.getD i.toNat z86
theorem mX {w : World} {A : Option Addr} {n : Nat} {xs : List S86} (h : Kd.C k86 w A n xs) (i : Int) (h0 : 0 ≤ i) (h1 : i < n) : ∃ ad , A = some ad ∧ w.cell? (ad.add (i.toNat * 2)) = some (.int .u8 (ai xs i).f0) ∧ w.cell? ⟨(ad.add (i.toNat * 2)).block, (ad.add (i.toNat * 2)).off + 1, none⟩ = some (.int .i64 (ai xs i).f1) := by
 obtain ⟨ad, c, e, _, hK, hc0⟩ := Kd.vK h z86 i h0 h1; have hc : ∀ j u, c[j]? = some u → w.cell? (ad.add (i.toNat * 2 + j)) = some u := hc0; obtain rfl := P9 hK; exact ⟨ad, e, hc 0 _ rfl, by rw [← qb _ _ 1 (by omega)]; exact hc 1 _ rfl⟩
def Mi (xs : List (List S86)) (i : Int) : (List S86) := xs.getD i.toNat ([] : List S86)
theorem aiD {w : World} {A : Option Addr} {n : Nat} {xs : List (List S86)} (h : Kd.C (Kd.slice 86 k86) w A n xs) (i : Int) (h0 : 0 ≤ i) (h1 : i < n) : ∃ ad A0 c0, A = some ad ∧ w.cell? (ad.add i.toNat) = some (.slice A0 (Mi xs i).length c0) ∧ (Mi xs i).length ≤ c0 ∧ k86.C w A0 (Mi xs i).length (Mi xs i) := by
 obtain ⟨ad, c, e, _, hK, hc0⟩ := Kd.vK h ([] : List S86) i h0 h1; have hc : ∀ j u, c[j]? = some u → w.cell? (ad.add (i.toNat * 1 + j)) = some u := hc0; obtain ⟨A0, c0, rfl, l0, g0⟩ := hK; exact ⟨ad, A0, c0, e, by have hq := hc 0 _ rfl; rwa [Nat.mul_one, Nat.add_zero] at hq, l0, g0⟩
structure S66 where
 f0 : S63
 f1 : (List S86)
def z66 : S66 := ⟨z63, ([] : List S86)⟩
def k66 : Kd S66 := Kd.iso (Kd.pair k63 (Kd.slice 86 k86)) (fun x : S66 => (x.f0, x.f1))
theorem Cf {w : World} {x : S66} {cs : List Value} (h : k66.K w x cs) : ∃ A2 c2, cs = [.int .i64 x.f0.f0, .int .i64 x.f0.f1, .slice A2 x.f1.length c2] ∧ x.f1.length ≤ c2 ∧ k86.C w A2 x.f1.length x.f1 := by
 obtain ⟨_, _, rfl, s0, ⟨A2, c2, rfl, l2, g2⟩⟩ := h; obtain rfl := Ih s0; exact ⟨A2, c2, rfl, l2, g2⟩
theorem ZT {w : World} {base : Nat} {ok : Nat → Prop} {x : S66} {cs : List Value} (h : k66.M w base ok x cs) : ∃ v2, cs = [.int .i64 x.f0.f0, .int .i64 x.f0.f1, v2] ∧ k86.R 86 w base ok v2 x.f1 := by
 obtain ⟨_, _, rfl, s0, ⟨v2, rfl, g2⟩⟩ := h; obtain rfl := NV s0; exact ⟨v2, rfl, g2⟩
theorem QJ (w : World) (x : S66) {A2 : Option Addr} {c2 : Nat} (l2 : x.f1.length ≤ c2) (g2 : k86.C w A2 x.f1.length x.f1) : k66.K w x [.int .i64 x.f0.f0, .int .i64 x.f0.f1, .slice A2 x.f1.length c2] := ⟨[.int .i64 x.f0.f0, .int .i64 x.f0.f1], [.slice A2 x.f1.length c2], rfl, (RV w x.f0 ), ⟨A2, c2, rfl, l2, g2⟩⟩
theorem U4 (w : World) (base : Nat) (ok : Nat → Prop) (x : S66) {v2 : Value} (g2 : k86.R 86 w base ok v2 x.f1) : k66.M w base ok x [.int .i64 x.f0.f0, .int .i64 x.f0.f1, v2] := ⟨[.int .i64 x.f0.f0, .int .i64 x.f0.f1], [v2], rfl, (TY w base ok x.f0 ), ⟨v2, rfl, g2⟩⟩
theorem NN {W : World} {ok : Nat → Prop} {x : S66} {cs : List Value} (h : Kd.FK k66 W ok x cs) : ∃ A2 c2, cs = [.int .i64 x.f0.f0, .int .i64 x.f0.f1, .slice A2 x.f1.length c2] ∧ x.f1.length ≤ c2 ∧ Kd.F k86 W ok A2 x.f1.length x.f1 := by
 obtain ⟨A2, c2, rfl, l2, _⟩ := Cf (Kd.qc h); exact ⟨A2, c2, rfl, l2, (fun W' hW => by obtain ⟨A2_, c2_, he, l2_, g2_⟩ := Cf (h W' hW); injection (Option.some.inj (show some (Value.slice A2 x.f1.length c2) = some (Value.slice A2_ x.f1.length c2_) from congrArg (fun l => l[2]?) he)) with ha_ _ _; rw [ha_]; exact g2_)⟩
theorem G5 (W : World) (ok : Nat → Prop) (x : S66) {A2 : Option Addr} {c2 : Nat} (l2 : x.f1.length ≤ c2) (g2 : Kd.F k86 W ok A2 x.f1.length x.f1) : Kd.FK k66 W ok x [.int .i64 x.f0.f0, .int .i64 x.f0.f1, .slice A2 x.f1.length c2] := fun W2 hW => QJ W2 x l2 (g2 W2 hW)
def ah (xs : List S66) (i : Int) : S66 := xs.getD i.toNat z66
theorem qm {w : World} {A : Option Addr} {n : Nat} {xs : List S66} (h : Kd.C k66 w A n xs) (i : Int) (h0 : 0 ≤ i) (h1 : i < n) : ∃ ad A2 c2, A = some ad ∧ w.cell? (ad.add (i.toNat * 3)) = some (.int .i64 (ah xs i).f0.f0) ∧ w.cell? ⟨(ad.add (i.toNat * 3)).block, (ad.add (i.toNat * 3)).off + 1, none⟩ = some (.int .i64 (ah xs i).f0.f1) ∧ w.cell? ⟨(ad.add (i.toNat * 3)).block, (ad.add (i.toNat * 3)).off + 2, none⟩ = some (.slice A2 (ah xs i).f1.length c2) ∧ (ah xs i).f1.length ≤ c2 ∧ k86.C w A2 (ah xs i).f1.length (ah xs i).f1 := by
 obtain ⟨ad, c, e, _, hK, hc0⟩ := Kd.vK h z66 i h0 h1; have hc : ∀ j u, c[j]? = some u → w.cell? (ad.add (i.toNat * 3 + j)) = some u := hc0; obtain ⟨A2, c2, rfl, l2, g2⟩ := Cf hK; exact ⟨ad, A2, c2, e, hc 0 _ rfl, by rw [← qb _ _ 1 (by omega)]; exact hc 1 _ rfl, by rw [← qb _ _ 2 (by omega)]; exact hc 2 _ rfl, l2, g2⟩
structure S27 where
 f0 : Int
 f1 : Int
def z27 : S27 := ⟨(0 : Int), (0 : Int)⟩
def k27 : Kd S27 := Kd.iso (Kd.pair (Kd.int .i64) (Kd.int .i64)) (fun x : S27 => (x.f0, x.f1))
theorem Sl {w : World} {x : S27} {cs : List Value} (h : k27.K w x cs) : cs = [.int .i64 x.f0, .int .i64 x.f1] := by
 obtain ⟨_, _, rfl, rfl, rfl⟩ := h; exact rfl
theorem ZU {w : World} {base : Nat} {ok : Nat → Prop} {x : S27} {cs : List Value} (h : k27.M w base ok x cs) : cs = [.int .i64 x.f0, .int .i64 x.f1] := by
 obtain ⟨_, _, rfl, rfl, rfl⟩ := h; exact rfl
theorem P7 (w : World) (x : S27)  : k27.K w x [.int .i64 x.f0, .int .i64 x.f1] := ⟨[.int .i64 x.f0], [.int .i64 x.f1], rfl, rfl, rfl⟩
theorem yT (w : World) (base : Nat) (ok : Nat → Prop) (x : S27)  : k27.M w base ok x [.int .i64 x.f0, .int .i64 x.f1] := ⟨[.int .i64 x.f0], [.int .i64 x.f1], rfl, rfl, rfl⟩
theorem aeg (W : World) (ok : Nat → Prop) (x : S27) : Kd.FK k27 W ok x [.int .i64 x.f0, .int .i64 x.f1] := fun W2 _ => P7 W2 x
def eB (xs : List S27) (i : Int) : S27 := xs.getD i.toNat z27
theorem vB {w : World} {A : Option Addr} {n : Nat} {xs : List S27} (h : Kd.C k27 w A n xs) (i : Int) (h0 : 0 ≤ i) (h1 : i < n) : ∃ ad , A = some ad ∧ w.cell? (ad.add (i.toNat * 2)) = some (.int .i64 (eB xs i).f0) ∧ w.cell? ⟨(ad.add (i.toNat * 2)).block, (ad.add (i.toNat * 2)).off + 1, none⟩ = some (.int .i64 (eB xs i).f1) := by
 obtain ⟨ad, c, e, _, hK, hc0⟩ := Kd.vK h z27 i h0 h1; have hc : ∀ j u, c[j]? = some u → w.cell? (ad.add (i.toNat * 2 + j)) = some u := hc0; obtain rfl := Sl hK; exact ⟨ad, e, hc 0 _ rfl, by rw [← qb _ _ 1 (by omega)]; exact hc 1 _ rfl⟩
def cu (xs : List (List S27)) (i : Int) : (List S27) := xs.getD i.toNat ([] : List S27)
theorem xz {w : World} {A : Option Addr} {n : Nat} {xs : List (List S27)} (h : Kd.C (Kd.slice 27 k27) w A n xs) (i : Int) (h0 : 0 ≤ i) (h1 : i < n) : ∃ ad A0 c0, A = some ad ∧ w.cell? (ad.add i.toNat) = some (.slice A0 (cu xs i).length c0) ∧ (cu xs i).length ≤ c0 ∧ k27.C w A0 (cu xs i).length (cu xs i) := by
 obtain ⟨ad, c, e, _, hK, hc0⟩ := Kd.vK h ([] : List S27) i h0 h1; have hc : ∀ j u, c[j]? = some u → w.cell? (ad.add (i.toNat * 1 + j)) = some u := hc0; obtain ⟨A0, c0, rfl, l0, g0⟩ := hK; exact ⟨ad, A0, c0, e, by have hq := hc 0 _ rfl; rwa [Nat.mul_one, Nat.add_zero] at hq, l0, g0⟩
def iY (xs : List (List Int)) (i : Int) : (List Int) := xs.getD i.toNat ([] : List Int)
theorem LG {w : World} {A : Option Addr} {n : Nat} {xs : List (List Int)} (h : Kd.C (Kd.slice 5 (Kd.int .u8)) w A n xs) (i : Int) (h0 : 0 ≤ i) (h1 : i < n) : ∃ ad A0 c0, A = some ad ∧ w.cell? (ad.add i.toNat) = some (.slice A0 (iY xs i).length c0) ∧ (iY xs i).length ≤ c0 ∧ (Kd.int .u8).C w A0 (iY xs i).length (iY xs i) := by
 obtain ⟨ad, c, e, _, hK, hc0⟩ := Kd.vK h ([] : List Int) i h0 h1; have hc : ∀ j u, c[j]? = some u → w.cell? (ad.add (i.toNat * 1 + j)) = some u := hc0; obtain ⟨A0, c0, rfl, l0, g0⟩ := hK; exact ⟨ad, A0, c0, e, by have hq := hc 0 _ rfl; rwa [Nat.mul_one, Nat.add_zero] at hq, l0, g0⟩
structure kL where
 f0 : Int
 f1 : Int
def QB : kL := ⟨(0 : Int), (0 : Int)⟩
def qO : Kd kL := Kd.iso (Kd.pair (Kd.int .i64) (Kd.int .u8)) (fun x : kL => (x.f0, x.f1))
theorem M3 {w : World} {x : kL} {cs : List Value} (h : qO.K w x cs) : cs = [.int .i64 x.f0, .int .u8 x.f1] := by
 obtain ⟨_, _, rfl, rfl, rfl⟩ := h; exact rfl
theorem Ye {w : World} {base : Nat} {ok : Nat → Prop} {x : kL} {cs : List Value} (h : qO.M w base ok x cs) : cs = [.int .i64 x.f0, .int .u8 x.f1] := by
 obtain ⟨_, _, rfl, rfl, rfl⟩ := h; exact rfl
theorem Ui (w : World) (x : kL)  : qO.K w x [.int .i64 x.f0, .int .u8 x.f1] := ⟨[.int .i64 x.f0], [.int .u8 x.f1], rfl, rfl, rfl⟩
theorem yV (w : World) (base : Nat) (ok : Nat → Prop) (x : kL)  : qO.M w base ok x [.int .i64 x.f0, .int .u8 x.f1] := ⟨[.int .i64 x.f0], [.int .u8 x.f1], rfl, rfl, rfl⟩
theorem acB (W : World) (ok : Nat → Prop) (x : kL) : Kd.FK qO W ok x [.int .i64 x.f0, .int .u8 x.f1] := fun W2 _ => Ui W2 x
def wP (xs : List kL) (i : Int) : kL := xs.getD i.toNat QB
theorem TR {w : World} {A : Option Addr} {n : Nat} {xs : List kL} (h : Kd.C qO w A n xs) (i : Int) (h0 : 0 ≤ i) (h1 : i < n) : ∃ ad , A = some ad ∧ w.cell? (ad.add (i.toNat * 2)) = some (.int .i64 (wP xs i).f0) ∧ w.cell? ⟨(ad.add (i.toNat * 2)).block, (ad.add (i.toNat * 2)).off + 1, none⟩ = some (.int .u8 (wP xs i).f1) := by
 obtain ⟨ad, c, e, _, hK, hc0⟩ := Kd.vK h QB i h0 h1; have hc : ∀ j u, c[j]? = some u → w.cell? (ad.add (i.toNat * 2 + j)) = some u := hc0; obtain rfl := M3 hK; exact ⟨ad, e, hc 0 _ rfl, by rw [← qb _ _ 1 (by omega)]; exact hc 1 _ rfl⟩
end Go.Proofs.Ytihedeofkhapiaa.Pr
end
section
namespace Go.Proofs.Ytihedeofkhapiaa.Pr
open Go.RowKit Go.Proofs.YtihedeofkhapiaaW.PrintWords Go.Proofs.YtihedeofkhapiaaW.PrintLast Go.Proofs.YtihedeofkhapiaaW.PrintMore
def ba (n k : Nat) : Array Bool := ((List.range n).map k.testBit).toArray
variable {P : Program} {ops : Array Oper} {Q : Exit → Act → World → Prop} {md : Region.Mode} {S : World → Prop} {ds : List Nat} {T : Bool × List (List Nat × List Nat)} {B : List Nat} {oi oj : Oper} {v : Value} {fuel : Nat} {l : Array Bool} {a a' : Act} {w : World}
theorem fU (i : Nat) (N : Tmp) (l' : Array Bool) (hT : mD md ops = T) (h : bQ P md ops Q S ds fuel l' a' w)
 (hi : ops[i]? = some oi := by exact rfl) (hN : oi.dst = some N := by exact rfl) (hc : YQ T l.toList l'.toList i = true := by kernel_rfl)
 (hQ : ∀ c a w, Q (.panic c) (a.put oi.dst v) w → Q (.panic c) a w := by exact fun _ _ _ h => h) (hw : Region.wanted oi (yielded ops a.tmps) = true := by rfl)
 (hv : ∀ w, (execOp a.eval oi).run P w = .ok (.value v) w := by intro w'; go_simp; with_reducible rfl)
 (ha : a.put (some N) v = a' := by simp only [Act.put, List.setIfInBounds_toArray, List.set_cons_zero, List.set_cons_succ, pV, ui]; rfl) : bQ P md ops Q S ds (fuel + 1) l a w :=
 Jc l' hi hN (Yt hT hc) hQ (Or.inl ⟨hw, hv⟩) ha h
theorem uq (i : Nat) (N : Tmp) (l' : Array Bool) (hT : mD md ops = T) (hB : lY T.2 B = true) (hS : S w) (h : bQ P md ops Q S ds fuel l' a' w)
 (hi : ops[i]? = some oi := by exact rfl) (hN : oi.dst = some N := by exact rfl) (hc : Qj T B ds l.toList l'.toList i = true := by kernel_rfl)
 (hQ : ∀ c a w, Q (.panic c) (a.put oi.dst v) w → Q (.panic c) a w := by exact fun _ _ _ h => h) (hw : Region.wanted oi (yielded ops a.tmps) = true := by rfl)
 (hv : ∀ w, S w → (execOp a.eval oi).run P w = .ok (.value v) w := by intro w'; try simp only [and_imp]; intros; go_simp; with_reducible rfl)
 (ha : a.put (some N) v = a' := by simp only [Act.put, List.setIfInBounds_toArray, List.set_cons_zero, List.set_cons_succ, pV, ui]; rfl) : bQ P md ops Q S ds (fuel + 1) l a w :=
 Dl l' hi hN (Pk hT hB hc) hQ (Or.inl ⟨hw, hv⟩) hS ha h
theorem on_ (i : Nat) (N : Option Tmp) (l' : Array Bool) (hT : mD md ops = T)
 (h : ∀ K : Act → World → Prop, Shut (∀ a' w', S w' → (S w' → bQ P md ops Q S ds fuel l' a' w') → K a' w') → if Region.wanted oi (yielded ops a.tmps) = true then Oper.wp P oi a w K Q else K (a.put N undef) w)
 (hi : ops[i]? = some oi := by exact rfl) (hN : oi.dst = N := by exact rfl) (hc : (tQ T.2 l.toList == [i] && l.toList.set i true == l'.toList) = true := by kernel_rfl) (hd : i ∉ ds := by decide) : bQ P md ops Q S ds (fuel + 1) l a w :=
 Y6 l' hi hN (PM hT hc) hd h
theorem JN (i : Nat) (N : Option Tmp) (l' : Array Bool) (hT : mD md ops = T)
 (h : ∀ K : Act → World → Prop, Shut (∀ a' w', bQ P md ops Q S ds fuel l' a' w' → K a' w') → if Region.wanted oi (yielded ops a.tmps) = true then Oper.wp P oi a w K Q else K (a.put N undef) w)
 (hi : ops[i]? = some oi := by exact rfl) (hN : oi.dst = N := by exact rfl) (hc : (tQ T.2 l.toList == [i] && l.toList.set i true == l'.toList) = true := by kernel_rfl) (hd : i ∈ ds := by decide) : bQ P md ops Q S ds (fuel + 1) l a w :=
 Z0 l' hi hN (PM hT hc) hd h
theorem Dz (i j : Nat) (Ni Nj : Tmp) (li lj : Array Bool) (hT : mD md ops = T)
 (h1 : ∀ K : Act → World → Prop, Shut (∀ a' w', S w' → (S w' → bQ P md ops Q S ds fuel li a' w') → K a' w') → if Region.wanted oi (yielded ops a.tmps) = true then Oper.wp P oi a w K Q else K (a.put (some Ni) undef) w)
 (h2 : ∀ K : Act → World → Prop, Shut (∀ a' w', S w' → (S w' → bQ P md ops Q S ds fuel lj a' w') → K a' w') → if Region.wanted oj (yielded ops a.tmps) = true then Oper.wp P oj a w K Q else K (a.put (some Nj) undef) w)
 (hi : ops[i]? = some oi := by exact rfl) (hj : ops[j]? = some oj := by exact rfl) (hNi : oi.dst = some Ni := by exact rfl) (hNj : oj.dst = some Nj := by exact rfl)
 (hc : (tQ T.2 l.toList == [i, j] && l.toList.set i true == li.toList && l.toList.set j true == lj.toList) = true := by kernel_rfl) (hdi : i ∉ ds := by decide) (hdj : j ∉ ds := by decide) : bQ P md ops Q S ds (fuel + 1) l a w :=
 ahu li lj hi hj hNi hNj (YG hT hc) hdi hdj h1 h2
theorem mF (h : bQ P md ops Q S ds fuel l a' w) (ha : a = a' := by show Act.put _ (some _) _ = _; simp only [Act.put, List.setIfInBounds_toArray, List.set_cons_zero, List.set_cons_succ, pV, ui]; rfl) : bQ P md ops Q S ds fuel l a w := Mg ha h
theorem aki (h : bQ P md ops Q S ds fuel l a' w) (ha : a = a' := by simp only [Act.put, List.setIfInBounds_toArray, List.set_cons_zero, List.set_cons_succ, pV, ui]; rfl) : bQ P md ops Q S ds fuel l a w := Mg ha h
theorem Ep (h : bQ P md ops Q S ds fuel l a' w) (ha : a = a' := by simp only [BI, Act.put, List.setIfInBounds_toArray, List.set_cons_zero, List.set_cons_succ, pV, ui]; rfl) : bQ P md ops Q S ds fuel l a w := Mg ha h
theorem Ba (h : bQ P md ops Q S ds fuel l a' w) (ha : a = a' := by simp only [BI, Act.put, List.setIfInBounds_toArray, List.set_cons_zero, List.set_cons_succ]; done) : bQ P md ops Q S ds fuel l a w := Mg ha h
theorem Ew {n : Nat} (hT : mD md ops = T) (h : Q .normal a w) (hc : (tQ T.2 l.toList == []) = true := by kernel_rfl) : bQ P md ops Q S ds n l a w := Oq (UL hT hc) h
theorem nb_ {w : World} {g gb : Nat} {o : Obj} (hg : gb = w.heap.size) (h : w.heap[g]? = some o) : g ≠ gb := by rw [hg]; exact Nat.ne_of_lt (bW h)
theorem mH {w : World} {g : Nat} {t : TypeId} {a0 a1 : Value} (h : w.heap[g]? = some (.cells #[a0, a1] t (0, 0))) : w.cell? ⟨g, 0, none⟩ = some a0 ∧ w.cell? ⟨g, 1, none⟩ = some a1 ∧ w.frozen? ⟨g, 0, none⟩ = false ∧ w.frozen? ⟨g, 1, none⟩ = false := ⟨(af h 0).trans rfl, (af h 1).trans rfl, aN h 0, aN h 1⟩
theorem cells3 {w : World} {g : Nat} {t : TypeId} {a0 a1 a2 : Value} (h : w.heap[g]? = some (.cells #[a0, a1, a2] t (0, 0))) : w.cell? ⟨g, 0, none⟩ = some a0 ∧ w.cell? ⟨g, 1, none⟩ = some a1 ∧ w.cell? ⟨g, 2, none⟩ = some a2 ∧ w.frozen? ⟨g, 0, none⟩ = false ∧ w.frozen? ⟨g, 1, none⟩ = false ∧ w.frozen? ⟨g, 2, none⟩ = false := ⟨(af h 0).trans rfl, (af h 1).trans rfl, (af h 2).trans rfl, aN h 0, aN h 1, aN h 2⟩
theorem ahA {w : World} {g : Nat} {t : TypeId} {a0 a1 a2 a3 : Value} (h : w.heap[g]? = some (.cells #[a0, a1, a2, a3] t (0, 0))) : w.cell? ⟨g, 0, none⟩ = some a0 ∧ w.cell? ⟨g, 1, none⟩ = some a1 ∧ w.cell? ⟨g, 2, none⟩ = some a2 ∧ w.cell? ⟨g, 3, none⟩ = some a3 ∧ w.frozen? ⟨g, 0, none⟩ = false ∧ w.frozen? ⟨g, 1, none⟩ = false ∧ w.frozen? ⟨g, 2, none⟩ = false ∧ w.frozen? ⟨g, 3, none⟩ = false := ⟨(af h 0).trans rfl, (af h 1).trans rfl, (af h 2).trans rfl, (af h 3).trans rfl, aN h 0, aN h 1, aN h 2, aN h 3⟩
theorem cells5 {w : World} {g : Nat} {t : TypeId} {a0 a1 a2 a3 a4 : Value} (h : w.heap[g]? = some (.cells #[a0, a1, a2, a3, a4] t (0, 0))) : w.cell? ⟨g, 0, none⟩ = some a0 ∧ w.cell? ⟨g, 1, none⟩ = some a1 ∧ w.cell? ⟨g, 2, none⟩ = some a2 ∧ w.cell? ⟨g, 3, none⟩ = some a3 ∧ w.cell? ⟨g, 4, none⟩ = some a4 ∧ w.frozen? ⟨g, 0, none⟩ = false ∧ w.frozen? ⟨g, 1, none⟩ = false ∧ w.frozen? ⟨g, 2, none⟩ = false ∧ w.frozen? ⟨g, 3, none⟩ = false ∧ w.frozen? ⟨g, 4, none⟩ = false := ⟨(af h 0).trans rfl, (af h 1).trans rfl, (af h 2).trans rfl, (af h 3).trans rfl, (af h 4).trans rfl, aN h 0, aN h 1, aN h 2, aN h 3, aN h 4⟩
theorem ahD {w : World} {g : Nat} {t : TypeId} {a0 a1 a2 a3 a4 a5 : Value} (h : w.heap[g]? = some (.cells #[a0, a1, a2, a3, a4, a5] t (0, 0))) : w.cell? ⟨g, 0, none⟩ = some a0 ∧ w.cell? ⟨g, 1, none⟩ = some a1 ∧ w.cell? ⟨g, 2, none⟩ = some a2 ∧ w.cell? ⟨g, 3, none⟩ = some a3 ∧ w.cell? ⟨g, 4, none⟩ = some a4 ∧ w.cell? ⟨g, 5, none⟩ = some a5 ∧ w.frozen? ⟨g, 0, none⟩ = false ∧ w.frozen? ⟨g, 1, none⟩ = false ∧ w.frozen? ⟨g, 2, none⟩ = false ∧ w.frozen? ⟨g, 3, none⟩ = false ∧ w.frozen? ⟨g, 4, none⟩ = false ∧ w.frozen? ⟨g, 5, none⟩ = false := ⟨(af h 0).trans rfl, (af h 1).trans rfl, (af h 2).trans rfl, (af h 3).trans rfl, (af h 4).trans rfl, (af h 5).trans rfl, aN h 0, aN h 1, aN h 2, aN h 3, aN h 4, aN h 5⟩
end Go.Proofs.Ytihedeofkhapiaa.Pr
end
section
namespace Go.Proofs.Ytihedeofkhapiaa.Pr
open Go.RowKit Go.Proofs.YtihedeofkhapiaaW.PrintWords Go.Proofs.YtihedeofkhapiaaW.PrintLast Go.Proofs.YtihedeofkhapiaaW.PrintMore
attribute [local go_sem] nQ nT qp qo oH oI qJ qx
def aQ (w0 W : World) (g : Nat) (f0 : Int) (f1 : Int) : Prop := W.heap[g]? = some (.cells #[.int .u64 f0, .int .u64 f1] 91 (0, 0)) ∧ w0.heap.size ≤ g
theorem aQ.grown {w0 W : World} {g : Nat} {f0 : Int} {f1 : Int} {W1 : World} {row : Option Nat} (h : aQ w0 W g f0 f1) (hw : W.grownBy W1 row) (hne : some g ≠ row) : aQ w0 W1 g f0 f1 := by
 obtain ⟨hb, hg⟩ := h; exact ⟨bP hb hw hne, hg⟩
theorem aQ.MM {w0 W : World} {g : Nat} {f0 : Int} {f1 : Int} {α : Type} {d : Kd α} {e : Nat} {base : Nat} {ok : Nat → Prop} {v : Value} {xs : List α} (h : aQ w0 W g f0 f1) (ho : Kd.N d e W base ok v xs) (ht : e ≠ 91) : some g ≠ v.ownBlock := by
 obtain ⟨hb, hg⟩ := h; exact Kd.BN ho hb ht
theorem aQ.fresh {w0 W : World} {g : Nat} {f0 : Int} {f1 : Int} (h : aQ w0 W g f0 f1) : ∀ k, W.heap.size ≤ k → k ≠ g := by
 obtain ⟨hb, hg⟩ := h; exact Kd.ky hb
theorem aQ.below {w0 W : World} {g : Nat} {f0 : Int} {f1 : Int} {W1 : World} (h : aQ w0 W g f0 f1) (hw : Below W.heap.size W W1) : aQ w0 W1 g f0 f1 := h.grown (jr hw none) (by simp)
theorem aQ.alloc {w0 W : World} {g : Nat} {f0 : Int} {f1 : Int} (h : aQ w0 W g f0 f1) (o : Obj) : aQ w0 (W.alloc o) g f0 f1 := h.below (aD (Below.refl _ _) o)
theorem aQ.drewN {w0 W : World} {g : Nat} {f0 : Int} {f1 : Int} (h : aQ w0 W g f0 f1) (m : Nat) : aQ w0 (W.drewN m) g f0 f1 := h
theorem aQ.drew {w0 W : World} {g : Nat} {f0 : Int} {f1 : Int} (h : aQ w0 W g f0 f1) : aQ w0 W.drew g f0 f1 := h
theorem aQ.at_ {w0 W : World} {g : Nat} {f0 : Int} {f1 : Int} {w' : World} {m : Nat} (hq : W.drewN m = w') (h : aQ w0 W g f0 f1) : aQ w0 w' g f0 f1 := by subst hq; exact aQ.drewN h m
theorem aQ.apart {w0 W : World} {g : Nat} {f0 : Int} {f1 : Int} {α : Type} {d : Kd α} {e : Nat} {base : Nat} {ok : Nat → Prop} {v : Value} {xs : List α} (h : aQ w0 W g f0 f1) (ho : d.R e W base ok v xs) (ht : ∀ q, q ∈ e :: d.E → q ≠ 91) : d.R e W base (fun k => ok k ∧ k ≠ g) v xs := by
 obtain ⟨hb, hg⟩ := h; exact Kd.dY ho hb ht
theorem aQ.own_ne {w0 W : World} {g : Nat} {f0 : Int} {f1 : Int} {α : Type} {d : Kd α} {e : Nat} {base : Nat} {ok : Nat → Prop} {v : Value} {xs : List α} (h : aQ w0 W g f0 f1) (ho : d.R e W base ok v xs) (ht : e ≠ 91) : some g ≠ v.ownBlock := by
 obtain ⟨hb, hg⟩ := h; exact Kd.mQ ho hb ht
theorem aQ.ahQ {w0 W : World} {g : Nat} {f0 : Int} {f1 : Int} {α : Type} {d : Kd α} {e : Nat} {base : Nat} {ok : Nat → Prop} {v : Value} {xs : List α} (h : aQ w0 W g f0 f1) (ho : d.S e W base ok v xs) (ht : ∀ q, q ∈ e :: d.E → q ≠ 91) : d.S e W base (fun k => ok k ∧ k ≠ g) v xs := by
 obtain ⟨hb, hg⟩ := h; exact Kd.wT ho hb ht
theorem aQ.aeZ {w0 W : World} {g : Nat} {f0 : Int} {f1 : Int} {α : Type} {d : Kd α} {e : Nat} {base : Nat} {ok : Nat → Prop} {v : Value} {xs : List α} (h : aQ w0 W g f0 f1) (ho : d.S e W base ok v xs) (ht : e ≠ 91) : some g ≠ v.ownBlock := by
 obtain ⟨hb, hg⟩ := h; exact Kd.Qv ho hb ht
theorem aQ.lt {w0 W : World} {g : Nat} {f0 : Int} {f1 : Int} (h : aQ w0 W g f0 f1) : g < W.heap.size := by
 obtain ⟨hb, hg⟩ := h; exact bW hb
theorem aQ.ge {w0 W : World} {g : Nat} {f0 : Int} {f1 : Int} (h : aQ w0 W g f0 f1) : w0.heap.size ≤ g := by
 obtain ⟨hb, hg⟩ := h; exact hg
theorem aQ.ahR {w0 W : World} {g : Nat} {f0 : Int} {f1 : Int} {a : Nat} {cs : Array Value} {t : TypeId} {fr : Nat × Nat} (h : aQ w0 W g f0 f1) (hb2 : W.heap[a]? = some (.cells cs t fr)) (ht : t ≠ 91) : g ≠ a := by
 obtain ⟨hb, hg⟩ := h; rintro rfl; rw [hb] at hb2; injection hb2 with hb2; injection hb2 with _ ht2; exact ht ht2.symm
theorem aQ.far {w0 W : World} {g : Nat} {f0 : Int} {f1 : Int} {p : Addr} (h : aQ w0 W g f0 f1) (hne : g ≠ p.block) (u : Value) : aQ w0 (W.setCell p u) g f0 f1 := by
 obtain ⟨hb, hg⟩ := h; exact ⟨bA hb hne u, hg⟩
theorem zK {W : World} {g : Nat} {f0 : Int} {f1 : Int} (h : W.heap[g]? = some (.cells #[.int .u64 f0, .int .u64 f1] 91 (0, 0))) : W.cell? ⟨g, 0, none⟩ = some (.int .u64 f0) := (af h 0).trans rfl
theorem aQ.acE {w0 W : World} {g : Nat} {f0 : Int} {f1 : Int} (h : aQ w0 W g f0 f1) (x : Int) : aQ w0 (W.setCell ⟨g, 0, none⟩ (.int .u64 x)) g x f1 := by
 obtain ⟨hb, hg⟩ := h; exact ⟨by simpa using Bi hb 0 (.int .u64 x), hg⟩
theorem zP {W : World} {g : Nat} {f0 : Int} {f1 : Int} (h : W.heap[g]? = some (.cells #[.int .u64 f0, .int .u64 f1] 91 (0, 0))) : W.cell? ⟨g, 1, none⟩ = some (.int .u64 f1) := (af h 1).trans rfl
theorem aQ.OV {w0 W : World} {g : Nat} {f0 : Int} {f1 : Int} (h : aQ w0 W g f0 f1) (x : Int) : aQ w0 (W.setCell ⟨g, 1, none⟩ (.int .u64 x)) g f0 x := by
 obtain ⟨hb, hg⟩ := h; exact ⟨by simpa using Bi hb 1 (.int .u64 x), hg⟩
theorem aQ.new (w0 W : World) (f0 : Int) (f1 : Int) (hB : Below w0.heap.size w0 W) : aQ w0 (W.alloc (.cells #[.int .u64 f0, .int .u64 f1] 91)) W.heap.size f0 f1 := ⟨by simpa using heap_alloc_new W _, hB.size⟩
end Go.Proofs.Ytihedeofkhapiaa.Pr
end
section
namespace Go.Proofs.Ytihedeofkhapiaa.Pr
open Go.RowKit Go.Proofs.YtihedeofkhapiaaW.PrintWords Go.Proofs.YtihedeofkhapiaaW.PrintLast Go.Proofs.YtihedeofkhapiaaW.PrintMore
class inductive UpC : World → World → Prop
 | refl (w : World) : UpC w w
 | alloc {w w' : World} (o : Obj) (h : UpC w w') : UpC w (w'.alloc o)
 | drewN {w w' : World} (n : Nat) (h : UpC w w') : UpC w (w'.drewN n)
 | drew {w w' : World} (h : UpC w w') : UpC w w'.drew
instance UpC.iA {w w' : World} {o : Obj} [h : UpC w w'] : UpC w (w'.alloc o) := .alloc o h
instance UpC.iN {w w' : World} {n : Nat} [h : UpC w w'] : UpC w (w'.drewN n) := .drewN n h
instance UpC.iD {w w' : World} [h : UpC w w'] : UpC w w'.drew := .drew h
instance (priority := high) UpC.iR {w : World} : UpC w w := .refl w
theorem bU {w w' : World} {g : Nat} {o : Obj} (hb : w.heap[g]? = some o) [h : UpC w w'] : w'.heap[g]? = some o := by
 induction h with
 | refl => exact hb
 | alloc o _ ih => exact cz ih _
 | drewN n _ ih => exact fC ih _
 | drew _ ih => exact dP ih
theorem rU {α : Type} {d : Kd α} {e : Nat} {w w' : World} {base : Nat} {ok : Nat → Prop} {v : Value} {xs : List α} (hb : Kd.R d e w base ok v xs) [h : UpC w w'] : Kd.R d e w' base ok v xs := by
 induction h with
 | refl => exact hb
 | alloc o _ ih => exact Kd.Wh ih _
 | drewN n _ ih => exact Kd.Uu ih _
 | drew _ ih => exact Kd.uK ih
theorem nU {α : Type} {d : Kd α} {e : Nat} {w w' : World} {base : Nat} {ok : Nat → Prop} {v : Value} {xs : List α} (hb : Kd.N d e w base ok v xs) [h : UpC w w'] : Kd.N d e w' base ok v xs := by
 induction h with
 | refl => exact hb
 | alloc o _ ih => exact Kd.UH ih _
 | drewN n _ ih => exact Kd.Vh ih _
 | drew _ ih => exact Kd.vw ih
theorem vU {α : Type} {d : Kd α} {e : Nat} {w w' : World} {base : Nat} {ok : Nat → Prop} {v : Value} {xs : List α} (hb : Kd.V d e w base ok v xs) [h : UpC w w'] : Kd.V d e w' base ok v xs := by
 induction h with
 | refl => exact hb
 | alloc o _ ih => exact Kd.TV ih _
 | drewN n _ ih => exact Kd.Vi ih _
 | drew _ ih => exact Kd.Fu ih
theorem iU {w0 w w' : World} {g : Nat} {x y : Int} (hb : aQ w0 w g x y) [h : UpC w w'] : aQ w0 w' g x y := by
 induction h with
 | refl => exact hb
 | alloc o _ ih => exact aQ.alloc ih _
 | drewN n _ ih => exact aQ.drewN ih _
 | drew _ ih => exact aQ.drew ih
theorem kU {w0 w w' : World} {g : Nat} (hb : aj w0 w g none) [h : UpC w w'] : aj w0 w' g none := by
 induction h with
 | refl => exact hb
 | alloc o _ ih => exact JU ih _
 | drewN n _ ih => exact uN ih _
 | drew _ ih => exact rz ih
theorem lU {w0 w w' : World} (hb : Below w0.heap.size w0 w) [h : UpC w w'] : Below w0.heap.size w0 w' := by
 induction h with
 | refl => exact hb
 | alloc o _ ih => exact aD ih _
 | drewN n _ ih => exact dn ih _
 | drew _ ih => exact gP ih
def Fa (s0_0 s0_1 : Int) : Int := Go.bits .xor .u64 (Go.bits .xor .u64 (Go.bits .xor .u64 (Go.bits .xor .u64 s0_0 (IntKind.u64.wrap (s0_0 * 8388608))) s0_1) ((Go.bits .xor .u64 s0_0 (IntKind.u64.wrap (s0_0 * 8388608))) / 131072)) (s0_1 / 67108864)
def dZ.f (s0_0 : Int) (s0_1 : Int) : Option (Int × Int × Int) := if Go.bits .or .u64 s0_1 (Fa s0_0 s0_1) = 0 then some (IntKind.u64.wrap (1 + s0_1), s0_1, 1) else some (IntKind.u64.wrap (Fa s0_0 s0_1 + s0_1), s0_1, Fa s0_0 s0_1)
def D9 (s0_0 s0_1 : Int) : Int × Int := (s0_1, if Go.bits .or .u64 s0_1 (Fa s0_0 s0_1) = 0 then 1 else Fa s0_0 s0_1)
theorem QA (a b : Int) : ∃ r, dZ.f a b = some (r, (D9 a b).1, (D9 a b).2) := by
 unfold dZ.f D9; split
 ·exact ⟨_, rfl⟩
 ·exact ⟨_, rfl⟩
theorem JL {P : Program} {c : Code} {Q : Exit → Act → World → Prop} {a : Act} {w0 w W : World} {g : Nat} {x y : Int} (hI : aQ w0 W g x y) (hB : Below w0.heap.size w0 W) (hK : aj w W g none)
 (k : ∀ W', aQ w0 W' g x y → Below w0.heap.size w0 W' → aj w W' g none → Code.wp P c Q a W') : Code.wp P c Q a W := k W hI hB hK
set_option maxHeartbeats 8000000 in
set_option maxRecDepth 100000 in
theorem dZ.calls (g : Nat) (s0_0 : Int) (s0_1 : Int) (r1 : Int) (r2 : Int) (r3 : Int) (w0 w : World) (hI : aQ w0 w g s0_0 s0_1) (hB : Below w0.heap.size w0 w) (h : dZ.f s0_0 s0_1 = some (r1, r2, r3)) :
 Calls Try.prog 53 #[.pointer (some ⟨g, 0, none⟩)] w fun e w' => e = .returned (.int .u64 r1) ∧ aQ w0 w' g r2 r3 ∧ Below w0.heap.size w0 w' ∧ aj w w' g none := by
 have HI0 := aa.mk hI; have HK := aa.mk (aj.refl w g none); have HB := aa.mk hB; obtain ⟨HGz3, hgz3⟩ := hI; have Ql := zK HGz3; have Si := zP HGz3; have PQ := aN HGz3 0; have O9 := aN HGz3 1; clear HGz3 hgz3 hB; simp only [dZ.f] at h; have Hh := aa.mk h; clear h; go_enter Try.func53, Try.ntmps53; go_wp2; go_quiet (fail); go_wp2; obtain ⟨X, hX⟩ : ∃ X, X = Fa s0_0 s0_1 := ⟨_, rfl⟩; rw [show (Go.bits .xor .u64 (Go.bits .xor .u64 (Go.bits .xor .u64 (Go.bits .xor .u64 s0_0 (IntKind.u64.wrap (s0_0 * 8388608))) s0_1) ((Go.bits .xor .u64 s0_0 (IntKind.u64.wrap (s0_0 * 8388608))) / 131072)) (s0_1 / 67108864)) = X from hX.symm]; rw [← hX] at Hh; clear hX; refine JL (x := s0_1) (y := X) (w0 := w0) (w := w) (g := g) ?_ ?_ ?_ ?_
 ·exact aQ.OV (aQ.acE (aQ.drewN HI0.out _) _) _
 ·exact df (df (dn HB.out _) (aQ.ge HI0.out)) (aQ.ge HI0.out)
 ·exact aj.VV (aj.VV (uN HK.out _) _ _) _ _
 intro W hI2 hB2 hK2; clear Ql Si PQ O9 HI0 HB HK; have HI := aa.mk hI2; have HB := aa.mk hB2; have HK := aa.mk hK2; obtain ⟨HGz3, hgz3⟩ := hI2; have Ql := zK HGz3; have Si := zP HGz3; have PQ := aN HGz3 0; have O9 := aN HGz3 1; clear HGz3 hgz3 hB2 hK2; by_cases c2 : Go.bits .or .u64 s0_1 X = 0
 ·have h := Hh.out; rw [if_pos c2] at h; have JV : (Go.bits .or .u64 s0_1 X == 0) = true := beq_iff_eq.mpr c2; clear c2 Hh; simp only [Option.some.injEq, Prod.mk.injEq] at h; obtain ⟨rfl, rfl, rfl⟩ := h; go_quiet (fail); go_wp2
  go_ret
  exact ⟨rfl, aQ.OV (aQ.drewN HI.out _) _, df (dn HB.out _) (aQ.ge HI.out), aj.VV (uN HK.out _) _ _⟩
 ·have h := Hh.out; rw [if_neg c2] at h; have JV : (Go.bits .or .u64 s0_1 X == 0) = false := beq_eq_false_iff_ne.mpr c2; clear c2 Hh; simp only [Option.some.injEq, Prod.mk.injEq] at h; obtain ⟨rfl, rfl, rfl⟩ := h; go_quiet (fail); go_wp2
  go_ret
  exact ⟨rfl, aQ.drewN HI.out _, dn HB.out _, uN HK.out _⟩
end Go.Proofs.Ytihedeofkhapiaa.Pr
end
section
namespace Go.Proofs.Ytihedeofkhapiaa.Pr
open Go.RowKit Go.Proofs.YtihedeofkhapiaaW.PrintWords Go.Proofs.YtihedeofkhapiaaW.PrintLast Go.Proofs.YtihedeofkhapiaaW.PrintMore
attribute [local go_sem] nQ nT qp qo oH oI qJ qx
def aZ.f (s0_0 : Int) (s0_1 : Int) (a1 : Int) : Option (Int × Int × Int) := if a1 < 2 then (some (0, s0_0, s0_1)) else ((dZ.f s0_0 s0_1).bind fun D6 => (if (IntKind.u64.wrap (a1)) = 0 then (none) else (some (wrap64 (Int.tmod (D6.1 / 2048) (IntKind.u64.wrap (a1))), D6.2.1, D6.2.2))))
set_option maxHeartbeats 8000000 in
set_option maxRecDepth 100000 in
theorem aZ.calls (g : Nat) (s0_0 : Int) (s0_1 : Int) (a1 : Int) (r1 : Int) (r2 : Int) (r3 : Int) (w0 w : World) (hI : aQ w0 w g s0_0 s0_1) (hB : Below w0.heap.size w0 w) (h : aZ.f s0_0 s0_1 a1 = some (r1, r2, r3)) :
 Calls Try.prog 33 #[.pointer (some ⟨g, 0, none⟩), .int .i64 a1] w fun e w' => e = .returned (.int .i64 r1) ∧ aQ w0 w' g r2 r3 ∧ Below w0.heap.size w0 w' ∧ aj w w' g none := by
 have HI0 := aa.mk hI; have HK := aa.mk (aj.refl w g none); have HL := aa.mk hB.size; clear hI; have HW0 := aa.mk hB.size; have HB := aa.mk hB; clear hB; have H : (if a1 < 2 then (some (0, s0_0, s0_1)) else ((dZ.f s0_0 s0_1).bind fun D6 => (if (IntKind.u64.wrap (a1)) = 0 then (none) else (some (wrap64 (Int.tmod (D6.1 / 2048) (IntKind.u64.wrap (a1))), D6.2.1, D6.2.2))))) = some (r1, r2, r3) := h; clear h; by_cases c3 : a1 < 2
 ·rw [if_pos c3] at H; have vD : decide (a1 < 2) = true := decide_eq_true c3; clear c3; simp only [Option.some.injEq, Prod.mk.injEq] at H; obtain ⟨rfl, rfl, rfl⟩ := H; go_enter Try.func33, Try.ntmps33; go_wp2
  go_ret
  exact ⟨by rfl, by exact HI0.out, by exact HB.out, by exact HK.out⟩
 ·rw [if_neg c3] at H; have vD : decide (a1 < 2) = false := decide_eq_false c3; clear c3; replace H := Option.bind_eq_some_iff.mp H; obtain ⟨⟨ahp, ahl, agu⟩, A40, H⟩ := H; dsimp only at H; have A4 := aa.mk A40; clear A40; by_cases c5 : (IntKind.u64.wrap (a1)) = 0
  ·rw [if_pos c5] at H; exact absurd H (by simp)
  ·rw [if_neg c5] at H; have GV : ((IntKind.u64.wrap (a1)) == 0) = false := beq_eq_false_iff_ne.mpr c5; have O5 : ((IntKind.u64.wrap (a1)) != 0) = true := bne_iff_ne.mpr c5; simp only [Option.some.injEq, Prod.mk.injEq] at H; obtain ⟨rfl, rfl, rfl⟩ := H; go_enter Try.func33, Try.ntmps33; go_wp2_with (((with_reducible refine bH (f := 53) rfl ?_); refine eO (some 8) rfl rfl Try.func53 (by kernel_rfl) rfl #[.pointer (some ⟨g, 0, none⟩)] rfl (by (simp only [List.map_toArray, List.map_cons, List.map_nil]); rfl) ?_; (with_reducible refine (dZ.calls g s0_0 s0_1 ahp ahl agu w0 _ ?side1 ?side2 A4.out).mono ?_); (case side1 => exact HI0.out); (case side2 => exact HB.out); rintro e w6 ⟨rfl, hi, hb, hk⟩; refine ⟨_, rfl, ?_⟩; replace HK := aa.mk (aj.trans (by exact HK.out) hk (.inl rfl)); replace HB := aa.mk (hb); replace HI0 := aa.mk (hi); clear hb; clear hk; (clear hi)))
   go_ret
   exact ⟨by rfl, by exact HI0.out, by exact HB.out, by exact HK.out⟩
def dA.f (s0_0 : Int) (s0_1 : Int) (a1 : Int) (a2 : Int) : Option (Bool × Int × Int) := (aZ.f s0_0 s0_1 a2).bind fun DT => (some (decide (DT.1 < a1), DT.2.1, DT.2.2))
set_option maxHeartbeats 8000000 in
set_option maxRecDepth 100000 in
theorem dA.calls (g : Nat) (s0_0 : Int) (s0_1 : Int) (a1 : Int) (a2 : Int) (r1 : Bool) (r2 : Int) (r3 : Int) (w0 w : World) (hI : aQ w0 w g s0_0 s0_1) (hB : Below w0.heap.size w0 w) (h : dA.f s0_0 s0_1 a1 a2 = some (r1, r2, r3)) :
 Calls Try.prog 32 #[.pointer (some ⟨g, 0, none⟩), .int .i64 a1, .int .i64 a2] w fun e w' => e = .returned (.bool r1) ∧ aQ w0 w' g r2 r3 ∧ Below w0.heap.size w0 w' ∧ aj w w' g none := by
 have HI0 := aa.mk hI; have HK := aa.mk (aj.refl w g none); have HL := aa.mk hB.size; clear hI; have HW0 := aa.mk hB.size; have HB := aa.mk hB; clear hB; have H : ((aZ.f s0_0 s0_1 a2).bind fun DT => (some (decide (DT.1 < a1), DT.2.1, DT.2.2))) = some (r1, r2, r3) := h; clear h; replace H := Option.bind_eq_some_iff.mp H; obtain ⟨⟨ag8, ahr, ahB⟩, A40, H⟩ := H; dsimp only at H; have A4 := aa.mk A40; clear A40; simp only [Option.some.injEq, Prod.mk.injEq] at H; obtain ⟨rfl, rfl, rfl⟩ := H; go_enter Try.func32, Try.ntmps32; go_wp2_with (((with_reducible refine bH (f := 33) rfl ?_); refine eO (some 9) rfl rfl Try.func33 (by kernel_rfl) rfl #[.pointer (some ⟨g, 0, none⟩), .int .i64 a2] rfl (by (simp only [List.map_toArray, List.map_cons, List.map_nil]); rfl) ?_; (with_reducible refine (aZ.calls g s0_0 s0_1 a2 ag8 ahr ahB w0 _ ?side1 ?side2 A4.out).mono ?_); (case side1 => exact HI0.out); (case side2 => exact HB.out); rintro e w5 ⟨rfl, hi, hb, hk⟩; refine ⟨_, rfl, ?_⟩; replace HK := aa.mk (aj.trans (by exact HK.out) hk (.inl rfl)); replace HB := aa.mk (hb); replace HI0 := aa.mk (hi); clear hb; clear hk; (clear hi)))
 go_ret
 exact ⟨by rfl, by exact HI0.out, by exact HB.out, by exact HK.out⟩
def bZ.f (s0_0 : Int) (s0_1 : Int) (a1 : Int) (a2 : Int) : Option (Int × Int × Int) := (aZ.f s0_0 s0_1 (wrap64 ((wrap64 (a2 - a1)) + 1))).bind fun Cg => (some (wrap64 (a1 + Cg.1), Cg.2.1, Cg.2.2))
set_option maxHeartbeats 8000000 in
set_option maxRecDepth 100000 in
theorem bZ.calls (g : Nat) (s0_0 : Int) (s0_1 : Int) (a1 : Int) (a2 : Int) (r1 : Int) (r2 : Int) (r3 : Int) (w0 w : World) (hI : aQ w0 w g s0_0 s0_1) (hB : Below w0.heap.size w0 w) (h : bZ.f s0_0 s0_1 a1 a2 = some (r1, r2, r3)) :
 Calls Try.prog 50 #[.pointer (some ⟨g, 0, none⟩), .int .i64 a1, .int .i64 a2] w fun e w' => e = .returned (.int .i64 r1) ∧ aQ w0 w' g r2 r3 ∧ Below w0.heap.size w0 w' ∧ aj w w' g none := by
 have HI0 := aa.mk hI; have HK := aa.mk (aj.refl w g none); have HL := aa.mk hB.size; clear hI; have HW0 := aa.mk hB.size; have HB := aa.mk hB; clear hB; have H : ((aZ.f s0_0 s0_1 (wrap64 ((wrap64 (a2 - a1)) + 1))).bind fun Cg => (some (wrap64 (a1 + Cg.1), Cg.2.1, Cg.2.2))) = some (r1, r2, r3) := h; clear h; replace H := Option.bind_eq_some_iff.mp H; obtain ⟨⟨agB, ah3, agD⟩, A40, H⟩ := H; dsimp only at H; have A4 := aa.mk A40; clear A40; simp only [Option.some.injEq, Prod.mk.injEq] at H; obtain ⟨rfl, rfl, rfl⟩ := H; go_enter Try.func50, Try.ntmps50; go_wp2_with (((with_reducible refine bH (f := 33) rfl ?_); refine eO (some 13) rfl rfl Try.func33 (by kernel_rfl) rfl #[.pointer (some ⟨g, 0, none⟩), .int .i64 (wrap64 ((wrap64 (a2 - a1)) + 1))] rfl (by (simp only [List.map_toArray, List.map_cons, List.map_nil]); rfl) ?_; (with_reducible refine (aZ.calls g s0_0 s0_1 (wrap64 ((wrap64 (a2 - a1)) + 1)) agB ah3 agD w0 _ ?side1 ?side2 A4.out).mono ?_); (case side1 => exact HI0.out); (case side2 => exact HB.out); rintro e w5 ⟨rfl, hi, hb, hk⟩; refine ⟨_, rfl, ?_⟩; replace HK := aa.mk (aj.trans (by exact HK.out) hk (.inl rfl)); replace HB := aa.mk (hb); replace HI0 := aa.mk (hi); clear hb; clear hk; (clear hi)))
 go_ret
 exact ⟨by rfl, by exact HI0.out, by exact HB.out, by exact HK.out⟩
mutual
def aJ.l0 : Nat → Int → Int → Int → Int → Int → Int → List (S86) → Option (Int × Int × (List (S86)) × Int × Int)
 | 0, _, _, _, _, _, _, _ => none
 | k + 1, x7, x8, lJ, lF, xP, yf, wG => if x8 > 0 then (aJ.j1 k x7 x8 (decide (x7 < 26)) lJ lF xP yf wG) else (aJ.j1 k x7 x8 false lJ lF xP yf wG)
def aJ.j1 : Nat → Int → Int → Bool → Int → Int → Int → Int → List (S86) → Option (Int × Int × (List (S86)) × Int × Int)
 | 0, _, _, _, _, _, _, _, _ => none
 | k + 1, x7, x8, x27, lJ, lF, xP, yf, wG => if x27 = true then ((aZ.f lJ lF (mn 4 (wrap64 (26 - x7)))).bind fun zb => ((bZ.f zb.2.1 zb.2.2 1 31).bind fun DN => (if wG.length < 8796093022208 then (aJ.l0 k (wrap64 ((wrap64 (x7 + zb.1)) + 1)) (wrap64 (x8 - 1)) DN.2.1 DN.2.2 xP yf (wG ++ [(⟨(wrap64 (65 + (wrap64 (x7 + zb.1)))) % 256, DN.1⟩ : S86)])) else (none)))) else (some (xP, yf, wG, lJ, lF))
end
def aJ.f (k : Nat) (s0_0 : Int) (s0_1 : Int) (a1 : Int) : Option (Int × Int × (List (S86)) × Int × Int) := (bZ.f s0_0 s0_1 (-600) 300).bind fun yu => ((aZ.f yu.2.1 yu.2.2 200).bind fun CZ => ((bZ.f CZ.2.1 CZ.2.2 1 a1).bind fun BG => (aJ.l0 k 0 BG.1 BG.2.1 BG.2.2 yu.1 (wrap64 (yu.1 + CZ.1)) ([] : List (S86)))))
theorem aJ.gK : ∀ k, (∀ y0 y1 y2 y3 y4 y5 y6, LeO (aJ.l0 k y0 y1 y2 y3 y4 y5 y6) (aJ.l0 (k + 1) y0 y1 y2 y3 y4 y5 y6)) ∧ (∀ y0 y1 y2 y3 y4 y5 y6 y7, LeO (aJ.j1 k y0 y1 y2 y3 y4 y5 y6 y7) (aJ.j1 (k + 1) y0 y1 y2 y3 y4 y5 y6 y7))
 | 0 => ⟨fun _ _ _ _ _ _ _ r h => by simp [aJ.l0] at h, fun _ _ _ _ _ _ _ _ r h => by simp [aJ.j1] at h⟩
 | k + 1 => by
  obtain ⟨ih0, ih1⟩ := aJ.gK k; refine ⟨?_, ?_⟩
  ·intro y0 y1 y2 y3 y4 y5 y6; unfold aJ.l0
   repeat' first | (with_reducible exact ih1 _ _ _ _ _ _ _ _) | (with_reducible refine LeO.ite ?_ ?_)
  ·intro y0 y1 y2 y3 y4 y5 y6 y7; unfold aJ.j1
   repeat' first | (with_reducible exact ih0 _ _ _ _ _ _ _) | (with_reducible exact LeO.refl _) | (with_reducible refine LeO.ite ?_ ?_) | (with_reducible refine LeO.bind ?_ (fun _ => ?_))
theorem aJ.mono : ∀ a0 a1 a2 k, LeO (aJ.f k a0 a1 a2) (aJ.f (k + 1) a0 a1 a2) := by
 intro a0 a1 a2 k; obtain ⟨ih0, ih1⟩ := aJ.gK k; unfold aJ.f
 repeat' first | (with_reducible exact ih0 _ _ _ _ _ _ _) | (with_reducible exact LeO.refl _) | (with_reducible refine LeO.bind ?_ (fun _ => ?_))
def aJ.T8 : Bool × List (List Nat × List Nat) := (true, [([], []), ([0], [0]), ([], []), ([2], [2]), ([3], [3]), ([], []), ([5], [5]), ([4, 6], [4, 6]), ([7], [7]), ([1, 8, 6], [1, 8]), ([0, 1, 2, 3, 4, 5, 6, 7, 8, 9], []), ([10, 9, 9, 0, 1, 2, 3, 4, 5, 6, 7, 8, 9], [9, 10])])
def aJ.B8 : List Nat := [0, 1, 0, 4, 12, 0, 32, 124, 252, 511, 1023, 2047]
theorem aJ.Yv : mD .any (opsOf Try.f51 8) = aJ.T8 := by kernel_rfl
theorem aJ.Rt : lY aJ.T8.2 aJ.B8 = true := by kernel_rfl
set_option maxHeartbeats 8000000 in
set_option maxRecDepth 100000 in
theorem aJ.calls (k : Nat) (g : Nat) (s0_0 : Int) (s0_1 : Int) (a1 : Int) (r1 : Int) (r2 : Int) (r3 : List (S86)) (r4 : Int) (r5 : Int) (w0 w : World) (hI : aQ w0 w g s0_0 s0_1) (hB : Below w0.heap.size w0 w) (h : aJ.f k s0_0 s0_1 a1 = some (r1, r2, r3, r4, r5)) :
 Calls Try.prog 51 #[.pointer (some ⟨g, 0, none⟩), .int .i64 a1] w fun e w' => ∃ v2_ : Value, e = .returned (.agg #[.int .i64 r1, .int .i64 r2, v2_]) ∧ Kd.R k86 86 w' w.heap.size (fun _ => True) v2_ r3 ∧ aQ w0 w' g r4 r5 ∧ Below w0.heap.size w0 w' ∧ aj w w' g none := by
 have hu66 := Try.underlying66; have hu63 := Try.underlying63; have hu86 := Try.underlying86; have HI0 := aa.mk hI; have HK := aa.mk (aj.refl w g none); have HL := aa.mk hB.size; clear hI; have HW0 := aa.mk hB.size; have HB := aa.mk hB; clear hB; have H : ((bZ.f s0_0 s0_1 (-600) 300).bind fun yu => ((aZ.f yu.2.1 yu.2.2 200).bind fun CZ => ((bZ.f CZ.2.1 CZ.2.2 1 a1).bind fun BG => (aJ.l0 k 0 BG.1 BG.2.1 BG.2.2 yu.1 (wrap64 (yu.1 + CZ.1)) ([] : List (S86)))))) = some (r1, r2, r3, r4, r5) := h; clear h; replace H := Option.bind_eq_some_iff.mp H; obtain ⟨⟨pF, Z5, abl⟩, A30, H⟩ := H; dsimp only at H; have A3 := aa.mk A30; clear A30; replace H := Option.bind_eq_some_iff.mp H; obtain ⟨⟨xQ, ZM, Zw⟩, A40, H⟩ := H; dsimp only at H; have A4 := aa.mk A40; clear A40; replace H := Option.bind_eq_some_iff.mp H; obtain ⟨⟨ab7, ac5, aaP⟩, A50, H⟩ := H; dsimp only at H; have A5 := aa.mk A50; clear A50; have H' := aa.mk H; clear H; go_enter Try.func51, Try.ntmps51; (go_wp2_with (first | ((with_reducible refine dm (N := 4) rfl ?_); refine dD ?hg (N := 4) ?hd (cs := #[.int .i64 0, .int .i64 0, .slice none 0 0]) (t := 66) ?hr ?_; (case hd => rfl); (case hg => rfl); (case hr => (go_simp; done)); intro vZ hg w6 hbox hb; replace HB := aa.mk (ax (by exact HB.out) hb); have kN := aa.mk (hbox); have abB := aa.mk ((by rw [hg]; exact (bV (w := w) (g := g) (row := none) (by exact HK.out)) : w.heap.size ≤ vZ)); have abq := aa.mk ((Nat.le_trans HW0.out (by rw [hg]; exact (bV (w := w) (g := g) (row := none) (by exact HK.out)) : w.heap.size ≤ vZ) : w0.heap.size ≤ vZ)); replace HK := aa.mk (aj.trans (by exact HK.out) (aj.of_below hb g none) (.inl rfl)); have FL := aa.mk ((by rw [hg]; exact Nat.ne_of_lt (aQ.lt (show aQ w0 _ g s0_0 s0_1 from by exact HI0.out)) : g ≠ vZ)); have wY := aa.mk FL.out.symm; replace HI0 := aa.mk (aQ.below (by exact HI0.out) hb); clear hb hbox hg) | ((with_reducible refine bH (f := 50) rfl ?_); refine eO (some 11) rfl rfl Try.func50 (by kernel_rfl) rfl #[.pointer (some ⟨g, 0, none⟩), .int .i64 (-600), .int .i64 300] rfl (by (simp only [List.map_toArray, List.map_cons, List.map_nil]); rfl) ?_; (with_reducible refine (bZ.calls g s0_0 s0_1 (-600) 300 pF Z5 abl w0 _ ?side1 ?side2 A3.out).mono ?_); (case side1 => exact HI0.out); (case side2 => exact HB.out); rintro e w7 ⟨rfl, hi, hb, hk⟩; refine ⟨_, rfl, ?_⟩; replace kN := aa.mk (aj.blk hk (bU kN.out) wY.out (by simp)); replace HK := aa.mk (aj.trans (by exact HK.out) hk (.inl rfl)); replace HB := aa.mk (hb); replace HI0 := aa.mk (hi); clear hb; clear hk; (clear hi)) | ((with_reducible refine bH (f := 33) rfl ?_); refine eO (some 15) rfl rfl Try.func33 (by kernel_rfl) rfl #[.pointer (some ⟨g, 0, none⟩), .int .i64 200] rfl (by (simp only [List.map_toArray, List.map_cons, List.map_nil]); rfl) ?_; (with_reducible refine (aZ.calls g Z5 abl 200 xQ ZM Zw w0 _ ?side1 ?side2 A4.out).mono ?_); (case side1 => exact HI0.out); (case side2 => exact HB.out); rintro e w8 ⟨rfl, hi, hb, hk⟩; refine ⟨_, rfl, ?_⟩; replace kN := aa.mk (aj.blk hk (bU kN.out) wY.out (by simp)); replace HK := aa.mk (aj.trans (by exact HK.out) hk (.inl rfl)); replace HB := aa.mk (hb); replace HI0 := aa.mk (hi); clear hb; clear hk; (clear hi)) | ((with_reducible refine dm (N := 6) rfl ?_); refine dD ?hg (N := 6) ?hd (cs := #[.int .i64 0, .int .i64 0, .slice none 0 0]) (t := 66) ?hr ?_; (case hd => rfl); (case hg => rfl); (case hr => (go_simp; done)); intro uX hg w9 hbox hb; replace HB := aa.mk (ax (by exact HB.out) hb); have jv := aa.mk (hbox); have Xw := aa.mk ((by rw [hg]; exact (bV (w := w) (g := g) (row := none) (by exact HK.out)) : w.heap.size ≤ uX)); have WG := aa.mk ((Nat.le_trans HW0.out (by rw [hg]; exact (bV (w := w) (g := g) (row := none) (by exact HK.out)) : w.heap.size ≤ uX) : w0.heap.size ≤ uX)); replace HK := aa.mk (aj.trans (by exact HK.out) (aj.of_below hb g none) (.inl rfl)); have oP := aa.mk (nb_ hg (bU kN.out)); have zF := aa.mk oP.out.symm; replace kN := aa.mk (au (bU kN.out) hb); have yD := aa.mk ((by rw [hg]; exact Nat.ne_of_lt (aQ.lt (show aQ w0 _ g ZM Zw from by exact HI0.out)) : g ≠ uX)); have zi := aa.mk yD.out.symm; replace HI0 := aa.mk (aQ.below (by exact HI0.out) hb); clear hb hbox hg; have aiO := zF.out; have ajn := oP.out; have aa2 := zi.out; have ac2 := yD.out; obtain ⟨Gt, FF, MQ, Fy, FQ, Mj⟩ := cells3 jv.out) | ((with_reducible refine bH (f := 50) rfl ?_); refine eO (some 21) rfl rfl Try.func50 (by kernel_rfl) rfl #[.pointer (some ⟨g, 0, none⟩), .int .i64 1, .int .i64 a1] rfl (by (simp only [List.map_toArray, List.map_cons, List.map_nil]); rfl) ?_; (with_reducible refine (bZ.calls g ZM Zw 1 a1 ab7 ac5 aaP w0 _ ?side1 ?side2 A5.out).mono ?_); (case side1 => repeat ((with_reducible first | exact HI0.out | refine aQ.far ?_ yD.out _))); (case side2 => repeat ((with_reducible first | exact HB.out | refine df ?_ WG.out))); rintro e w13 ⟨rfl, hi, hb, hk⟩; refine ⟨_, rfl, ?_⟩; replace kN := aa.mk (aj.blk hk (g' := vZ) (o := .cells #[.int .i64 0, .int .i64 0, .slice none 0 0] 66 (0, 0)) (by refine bA ?_ oP.out _; refine bA ?_ oP.out _; refine bA ?_ oP.out _; exact kN.out) wY.out (by simp)); replace jv := aa.mk (aj.blk hk (g' := uX) (o := .cells #[.int .i64 pF, .int .i64 (wrap64 (pF + xQ)), .slice none 0 0] 66 (0, 0)) (by refine bS (cs := #[.int .i64 pF, .int .i64 (wrap64 (pF + xQ)), .slice none 0 0]) ?_ 2 _ rfl; refine bS (cs := #[.int .i64 pF, .int .i64 0, .slice none 0 0]) ?_ 1 _ rfl; refine bS (cs := #[.int .i64 0, .int .i64 0, .slice none 0 0]) ?_ 0 _ rfl; exact jv.out) zi.out (by simp)); replace HK := aa.mk (aj.trans (by repeat ((with_reducible first | exact HK.out | refine mf ?_ Xw.out _))) hk (.inl rfl)); replace HB := aa.mk (hb); replace HI0 := aa.mk (hi); clear hb; clear hk; (clear hi)))); (go_loopg [7, 8] k (fun kq v7 v8 w' => ∃ (xg : Int) (Eh : Int) (kS : Int) (kR : Int) (kC : List (S86)) (rf : Value), v7 = .int .i64 xg ∧ v8 = .int .i64 Eh ∧ aa (aJ.l0 kq xg Eh kS kR pF (wrap64 (pF + xQ)) kC = some (r1, r2, r3, r4, r5)) ∧ aa (kq ≤ k) ∧ aa (Kd.R k86 86 w' w.heap.size (fun _ => True) rf kC) ∧ aa (w'.heap[vZ]? = some (.cells #[.int .i64 0, .int .i64 0, (.slice none 0 0)] 66 (0, 0))) ∧ aa (w'.heap[uX]? = some (.cells #[.int .i64 pF, .int .i64 (wrap64 (pF + xQ)), rf] 66 (0, 0))) ∧ aa (aQ w0 w' g kS kR) ∧ aa (aj w w' g none) ∧ aa (Below w0.heap.size w0 w'))); case atStart => exact ⟨(0), (ab7), (ac5), (aaP), (([] : List (S86))), (.slice none 0 0), (by rfl), (by rfl), H', ⟨Nat.le_refl _⟩, ⟨by exact Kd.ul _ _ _ _ _⟩, ⟨by exact kN.out⟩, ⟨by exact jv.out⟩, ⟨by exact HI0.out⟩, ⟨by exact HK.out⟩, ⟨by exact HB.out⟩⟩
 case round =>
  clear H' Gt FF MQ Fy FQ Mj; obtain ⟨xg, Eh, kS, kR, kC, rf, rfl, rfl, HA, HK1, gU, kN, jv, HI0, HK, HB⟩ := hrel
  cases gk with
  | zero => exact absurd HA.out (by simp [aJ.l0])
  | succ k1 =>
   have H := HA.out; clear HA; simp only [aJ.l0] at H; have XQ := aa.mk H; clear H; (go_upto_region 5 with (fail)); go_cut [27] (fun v27 wc => ∃ (kq : Nat) (Gp : Bool), v27 = .bool Gp ∧ aa (aJ.j1 kq xg Eh Gp kS kR pF (wrap64 (pF + xQ)) kC = some (r1, r2, r3, r4, r5)) ∧ aa (kq ≤ k1) ∧ aa (Kd.R k86 86 wc w.heap.size (fun _ => True) rf kC) ∧ aa (wc.heap[vZ]? = some (.cells #[.int .i64 0, .int .i64 0, (.slice none 0 0)] 66 (0, 0))) ∧ aa (wc.heap[uX]? = some (.cells #[.int .i64 pF, .int .i64 (wrap64 (pF + xQ)), rf] 66 (0, 0))) ∧ aa (aQ w0 wc g kS kR) ∧ aa (aj w wc g none) ∧ aa (Below w0.heap.size w0 wc))
   case first =>
    have H := XQ.out; clear XQ; by_cases c15 : Eh > 0
    ·rw [if_pos c15] at H; have LM : decide (0 < Eh) = true := decide_eq_true c15; clear c15; (skip); have H' := aa.mk H; clear H; go_wp2; go_meet; case rel => exact ⟨_, (decide (xg < 26)), (by rfl), H', ⟨by have := HK1.out; omega⟩, ⟨by exact gU.out⟩, ⟨by exact kN.out⟩, ⟨by exact jv.out⟩, ⟨by exact HI0.out⟩, ⟨by exact HK.out⟩, ⟨by exact HB.out⟩⟩
    ·rw [if_neg c15] at H; have LM : decide (0 < Eh) = false := decide_eq_false c15; clear c15; (skip); have H' := aa.mk H; clear H; go_wp2; go_meet; case rel => exact ⟨_, (false), (by rfl), H', ⟨by have := HK1.out; omega⟩, ⟨by exact gU.out⟩, ⟨by exact kN.out⟩, ⟨by exact jv.out⟩, ⟨by exact HI0.out⟩, ⟨by exact HK.out⟩, ⟨by exact HB.out⟩⟩
   case rest =>
    clear XQ; obtain ⟨kq, Gp, rfl, HA, HJ13, gU, kN, jv, HI0, HK, HB⟩ := hcut
    cases kq with
    | zero => exact absurd HA.out (by simp [aJ.j1])
    | succ kj13 =>
     have H := HA.out; clear HA; simp only [aJ.j1] at H; by_cases c16 : Gp = true
     ·subst c16; rw [if_pos rfl] at H; obtain ⟨Td, WE⟩ : ∃ j_ : Int, (mn 4 (wrap64 (26 - xg))) = j_ := ⟨_, rfl⟩; (replace H : ((aZ.f kS kR (Td)).bind fun zb => ((bZ.f zb.2.1 zb.2.2 1 31).bind fun DN => (if kC.length < 8796093022208 then (aJ.l0 kj13 (wrap64 ((wrap64 (xg + zb.1)) + 1)) (wrap64 (Eh - 1)) DN.2.1 DN.2.2 pF (wrap64 (pF + xQ)) (kC ++ [(⟨(wrap64 (65 + (wrap64 (xg + zb.1)))) % 256, DN.1⟩ : S86)])) else (none)))) = some (r1, r2, r3, r4, r5) := by (rw [WE] at H; exact H)); have ah6 : (if (wrap64 (26 - xg)) < 4 then (wrap64 (26 - xg)) else 4) = Td := WE; replace H := Option.bind_eq_some_iff.mp H; obtain ⟨⟨KV, Yi, YA⟩, ach, H⟩ := H; dsimp only at H; have A18 := aa.mk ach; clear ach; replace H := Option.bind_eq_some_iff.mp H; obtain ⟨⟨PI, Zu, Yb⟩, OI, H⟩ := H; dsimp only at H; have A19 := aa.mk OI; clear OI; by_cases c20 : kC.length < 8796093022208
      ·rw [if_pos c20] at H; have Qr := aa.mk c20; clear c20; obtain ⟨U7, QD⟩ : ∃ y_ : List (S86), y_ = (kC ++ [(⟨(wrap64 (65 + (wrap64 (xg + KV)))) % 256, PI⟩ : S86)]) := ⟨_, rfl⟩; (replace H : (aJ.l0 kj13 (wrap64 ((wrap64 (xg + KV)) + 1)) (wrap64 (Eh - 1)) Zu Yb pF (wrap64 (pF + xQ)) U7) = some (r1, r2, r3, r4, r5) := by (rw [QD]; with_reducible exact H)); have aaZ := aa.mk QD; clear QD; have H' := aa.mk H; clear H; (go_wp2_with (((with_reducible refine bH (f := 33) rfl ?_); refine eO (some 35) rfl rfl Try.func33 (by kernel_rfl) rfl #[.pointer (some ⟨g, 0, none⟩), .int .i64 Td] rfl (by (simp only [List.map_toArray, List.map_cons, List.map_nil]); rfl) ?_; (with_reducible refine (aZ.calls g kS kR Td KV Yi YA w0 _ ?side1 ?side2 A18.out).mono ?_); (case side1 => exact HI0.out); (case side2 => exact HB.out); rintro e w21 ⟨rfl, hi, hb, hk⟩; refine ⟨_, rfl, ?_⟩; replace gU := aa.mk (Kd.cO (Kd.lQ (aQ.apart (show aQ w0 _ g kS kR from by exact HI0.out) (rU gU.out) (by decide)) hk (fun _ h => h.2)) (fun _ h => h.1)); replace kN := aa.mk (aj.blk hk (bU kN.out) wY.out (by simp)); replace jv := aa.mk (aj.blk hk (bU jv.out) zi.out (by simp)); replace HK := aa.mk (aj.trans (by exact HK.out) hk (.inl rfl)); replace HB := aa.mk (hb); replace HI0 := aa.mk (hi); clear hb; clear hk; (clear hi)))); replace gU := aa.mk (Kd.uK gU.out); replace kN := aa.mk (dP kN.out); replace jv := aa.mk (dP jv.out); replace HI0 := aa.mk (aQ.drew HI0.out); replace HK := aa.mk (rz HK.out); replace HB := aa.mk (gP HB.out); refine qK (n := 12) (S := fun w' => w'.cell? ⟨uX, 0, none⟩ = some (.int .i64 pF) ∧ w'.cell? ⟨uX, 1, none⟩ = some (.int .i64 (wrap64 (pF + xQ))) ∧ w'.cell? ⟨uX, 2, none⟩ = some (rf)) (ds := [11]) (ba 12 0) (by kernel_rfl) rfl rfl ⟨(af jv.out 0).trans rfl, (af jv.out 1).trans rfl, (af jv.out 2).trans rfl⟩ (fun bR => ?_); refine mo aJ.Yv aJ.Rt (fun HT_ HW_ => ?_); generalize w21.drew = w22 at gU kN jv HI0 HK HB bR ⊢; refine fU 0 37 (ba 12 1) HT_.out ?_
       refine fU 2 39 (ba 12 5) HT_.out ?_
       refine fU 3 40 (ba 12 13) HT_.out ?_
       refine fU 4 41 (ba 12 29) HT_.out ?_
       refine fU 5 42 (ba 12 61) HT_.out ?_
       refine uq 1 38 (ba 12 63) HT_.out HW_.out bR ?_
       refine on_ 6 (some 43) (ba 12 127) HT_.out (fun K hK => ?_); refine yN Try.func50 (by kernel_rfl) rfl #[.pointer (some ⟨g, 0, none⟩), .int .i64 1, .int .i64 31] (by rfl) rfl rfl (by (simp only [List.map_toArray, List.map_cons, List.map_nil]); rfl) ?_; (with_reducible refine (bZ.calls g Yi YA 1 31 PI Zu Yb w0 _ ?side1 ?side2 A19.out).mono ?_); (case side1 => exact HI0.out); (case side2 => exact HB.out); rintro e w23 ⟨rfl, hi, hb, hk⟩; refine ⟨_, rfl, ?_⟩; replace gU := aa.mk (Kd.cO (Kd.lQ (aQ.apart (show aQ w0 _ g Yi YA from by exact HI0.out) (rU gU.out) (by decide)) hk (fun _ h => h.2)) (fun _ h => h.1)); replace kN := aa.mk (aj.blk hk (bU kN.out) wY.out (by simp)); replace jv := aa.mk (aj.blk hk (bU jv.out) zi.out (by simp)); replace HK := aa.mk (aj.trans (by exact HK.out) hk (.inl rfl)); replace HB := aa.mk (hb); replace HI0 := aa.mk (hi); (clear hb); (skip); (clear hk); (clear hi); refine hK.out _ _ ⟨(af jv.out 0).trans rfl, (af jv.out 1).trans rfl, (af jv.out 2).trans rfl⟩ (fun bR => ?_); clear hK K; refine mF ?_
       refine fU 7 44 (ba 12 255) HT_.out ?_
       refine on_ 8 (some 45) (ba 12 511) HT_.out (fun K hK => ?_); refine CQ (w1 := ?_) (v := ?_) (by rfl) rfl ?_ ?_; rotate_left 2
       ·go_simp; constructor
        ·rfl
        ·rfl
       refine hK.out _ _ ⟨(af (cz jv.out _) 0).trans rfl, (af (cz jv.out _) 1).trans rfl, (af (cz jv.out _) 2).trans rfl⟩ (fun bR => ?_); clear hK K; refine mF ?_
       refine on_ 9 (some 46) (ba 12 1023) HT_.out (fun K hK => ?_); refine Kd.xD k86 w.heap.size (by rfl) (.tmp 38) (.tmp 45) 64 86 (.agg #[(.int .u8 0), (.int .i64 0)]) 16 rfl Try.underlying64 Py rfl (by decide) (by omega) rf kC (⟨(wrap64 (65 + (wrap64 (xg + KV)))) % 256, PI⟩ : S86) [.int .u8 ((wrap64 (65 + (wrap64 (xg + KV)))) % 256), .int .i64 PI] (fun _ => True) (fun _ => False) rfl rfl ?aP (fun _ hk => hk.elim) ?aF ?aO (Below.refl _ _) ?aS ?aL ?_; (case aP => exact uA _ _ _ (⟨(wrap64 (65 + (wrap64 (xg + KV)))) % 256, PI⟩ : S86)); (case aF => exact (fun _ _ => trivial)); (case aO => exact (rU gU.out)); (case aS => exact (bV (w := w) (g := g) (row := none) (by exact HK.out))); (case aL => have := Qr.out; omega); intro ajV w24 ho hb hg hat; rw [← aaZ.out] at ho; replace kN := aa.mk (bP (bU kN.out) hg (Kd.mQ gU.out kN.out (by decide))); replace jv := aa.mk (bP (bU jv.out) hg (Kd.mQ gU.out jv.out (by decide))); replace HI0 := aa.mk (aQ.grown (by exact HI0.out) hg (aQ.own_ne HI0.out gU.out (by decide))); replace HB := aa.mk (lK (by exact HB.out) HL.out hb); replace HK := aa.mk (aj.trans (by exact HK.out) (aj.pR hg g) (Kd.wX gU.out)); have XN := aa.mk (ho); clear gU ho hb hg hat; obtain ⟨Ue, Ut, Zj⟩ := Kd.fO XN.out; (subst Zj); refine hK.out _ _ ⟨(af jv.out 0).trans rfl, (af jv.out 1).trans rfl, (af jv.out 2).trans rfl⟩ (fun bR => ?_); clear hK K; refine mF ?_
       refine fU 10 47 (ba 12 2047) HT_.out ?_
       refine JN 11 none (ba 12 4095) HT_.out (fun K hK => ?_); have hs26 : w24.cell? ⟨uX, 2, none⟩ = some (rf) := (af jv.out 2).trans rfl; have hfs26 := aN jv.out 2; have hns26_0 := oP.out; have hms26_0 := zF.out; refine zl (w1 := ?_) (by rfl) rfl ?_ ?_; rotate_left
       ·go_simp; rfl
       refine hK.out _ _ ?_; clear hK K; refine Ew HT_.out ?_; go_wp2; go_roundg kj13; (case measure => have := HK1.out; have := HJ13.out; omega); case rel => exact ⟨(wrap64 ((wrap64 (xg + KV)) + 1)), (wrap64 (Eh - 1)), (Zu), (Yb), (U7), (.slice Ue U7.length Ut), (by rfl), (by rfl), H', ⟨by have := HK1.out; have := HJ13.out; omega⟩, ⟨by exact Kd.cO (Kd.lH (p := ⟨uX, 2, none⟩) (Kd.dY XN.out jv.out (by decide)) (fun _ hk => hk.2) (.slice Ue U7.length Ut)) (fun _ hk => trivial)⟩, ⟨by refine bA ?_ oP.out _; exact kN.out⟩, ⟨by refine bS (cs := #[.int .i64 pF, .int .i64 (wrap64 (pF + xQ)), rf]) ?_ 2 _ rfl; exact jv.out⟩, ⟨by repeat ((with_reducible first | exact HI0.out | refine aQ.far ?_ yD.out _))⟩, ⟨by repeat ((with_reducible first | exact HK.out | refine mf ?_ Xw.out _))⟩, ⟨by repeat ((with_reducible first | exact HB.out | refine df ?_ WG.out))⟩⟩
      ·rw [if_neg c20] at H; exact absurd H (by simp)
     ·replace c16 := Bool.eq_false_iff.mpr c16; subst c16; rw [if_neg (show ¬ (false = true) by decide)] at H; simp only [Option.some.injEq, Prod.mk.injEq] at H; obtain ⟨rfl, rfl, rfl, rfl, rfl⟩ := H; have ai5 := zF.out; have aja := oP.out; have ai7 := zi.out; have aiq := yD.out; obtain ⟨UK, V9, UY, Uw, Vd, SS⟩ := cells3 jv.out; have aib := wY.out; have ai8 := FL.out; obtain ⟨Uo, Vt, VF, UF, Wj, Uz⟩ := cells3 kN.out; obtain ⟨aaA, adi, agJ⟩ := Kd.fO gU.out; subst agJ; go_wp2; refine bodyPost_ret (results_cell_row rfl _ _ vZ 66 #[.int .i64 pF, .int .i64 (wrap64 (pF + xQ)), .slice aaA kC.length adi] (0, 0) _ rfl (by refine bS (cs := #[.int .i64 pF, .int .i64 (wrap64 (pF + xQ)), .slice none 0 0]) ?_ 2 _ rfl; refine bS (cs := #[.int .i64 pF, .int .i64 0, .slice none 0 0]) ?_ 1 _ rfl; refine bS (cs := #[.int .i64 0, .int .i64 0, .slice none 0 0]) ?_ 0 _ rfl; exact kN.out) Try.underlying66 rfl (by kernel_rfl)) rfl ?_; exact ⟨_, by rfl, by exact Kd.cO (Kd.lH (p := ⟨vZ, 2, none⟩) (Kd.lH (p := ⟨vZ, 1, none⟩) (Kd.lH (p := ⟨vZ, 0, none⟩) (Kd.dY gU.out kN.out (by decide)) (fun _ hk => hk.2) (.int .i64 pF)) (fun _ hk => hk.2) (.int .i64 (wrap64 (pF + xQ)))) (fun _ hk => hk.2) (.slice aaA kC.length adi)) (fun _ hk => trivial), by repeat ((with_reducible first | exact HI0.out | refine aQ.far ?_ FL.out _)), by repeat ((with_reducible first | exact HB.out | refine df ?_ abq.out)), by repeat ((with_reducible first | exact HK.out | refine mf ?_ abB.out _))⟩
def dO.f (s0_0 : Int) (s0_1 : Int) (l1 : List Int) : Option (Int × Int × Int) := if (l1.length : Int) = 0 then (some (0, s0_0, s0_1)) else ((aZ.f s0_0 s0_1 (l1.length : Int)).bind fun vX => (if 0 ≤ vX.1 then (if vX.1 < (l1.length : Int) then (some (rd l1 vX.1, vX.2.1, vX.2.2)) else (none)) else (none)))
set_option maxHeartbeats 8000000 in
set_option maxRecDepth 100000 in
theorem dO.calls (g : Nat) (s0_0 : Int) (s0_1 : Int) (A1 : Option Addr) (c1 : Nat) (l1 : List Int) (r1 : Int) (r2 : Int) (r3 : Int) (w0 w : World) (hI : aQ w0 w g s0_0 s0_1) (hB : Below w0.heap.size w0 w) (hr1 : Kd.C (Kd.int .i64) w A1 l1.length l1) (hc1 : l1.length ≤ c1) (hf1 : ∀ ad, A1 = some ad → 0 < l1.length → ad.block ≠ g) (h : dO.f s0_0 s0_1 l1 = some (r1, r2, r3)) :
 Calls Try.prog 52 #[.pointer (some ⟨g, 0, none⟩), .slice A1 l1.length c1] w fun e w' => e = .returned (.int .i64 r1) ∧ aQ w0 w' g r2 r3 ∧ Below w0.heap.size w0 w' ∧ aj w w' g none := by
 have HR1 := aa.mk hr1; have HC1 := aa.mk hc1; clear hr1 hc1; have HI0 := aa.mk hI; have HK := aa.mk (aj.refl w g none); have HL := aa.mk hB.size; clear hI; have HW0 := aa.mk hB.size; have HB := aa.mk hB; clear hB; have H : (if (l1.length : Int) = 0 then (some (0, s0_0, s0_1)) else ((aZ.f s0_0 s0_1 (l1.length : Int)).bind fun vX => (if 0 ≤ vX.1 then (if vX.1 < (l1.length : Int) then (some (rd l1 vX.1, vX.2.1, vX.2.2)) else (none)) else (none)))) = some (r1, r2, r3) := h; clear h; by_cases c3 : (l1.length : Int) = 0
 ·rw [if_pos c3] at H; have vD : ((l1.length : Int) == 0) = true := beq_iff_eq.mpr c3; have Em : ((l1.length : Int) != 0) = false := bne_eq_false_iff_eq.mpr c3; clear c3; simp only [Option.some.injEq, Prod.mk.injEq] at H; obtain ⟨rfl, rfl, rfl⟩ := H; go_enter Try.func52, Try.ntmps52; go_wp2
  go_ret
  exact ⟨by rfl, by exact HI0.out, by exact HB.out, by exact HK.out⟩
 ·rw [if_neg c3] at H; have vD : ((l1.length : Int) == 0) = false := beq_eq_false_iff_ne.mpr c3; have Em : ((l1.length : Int) != 0) = true := bne_iff_ne.mpr c3; (have ajT : ¬ (l1 = []) := fun h_ => c3 (by rw [h_]; rfl)); replace H := Option.bind_eq_some_iff.mp H; obtain ⟨⟨Hf, ahX, ahN⟩, A40, H⟩ := H; dsimp only at H; have A4 := aa.mk A40; clear A40; by_cases c5 : 0 ≤ Hf
  ·rw [if_pos c5] at H; have GV : decide (0 ≤ Hf) = true := decide_eq_true c5; clear c5; by_cases c6 : Hf < (l1.length : Int)
   ·rw [if_pos c6] at H; have agx : decide (Hf < (l1.length : Int)) = true := decide_eq_true c6; clear c6; simp only [Option.some.injEq, Prod.mk.injEq] at H; obtain ⟨rfl, rfl, rfl⟩ := H; go_enter Try.func52, Try.ntmps52; go_wp2_with (((with_reducible refine bH (f := 33) rfl ?_); refine eO (some 12) rfl rfl Try.func33 (by kernel_rfl) rfl #[.pointer (some ⟨g, 0, none⟩), .int .i64 (l1.length : Int)] rfl (by (simp only [List.map_toArray, List.map_cons, List.map_nil]); rfl) ?_; (with_reducible refine (aZ.calls g s0_0 s0_1 (l1.length : Int) Hf ahX ahN w0 _ ?side1 ?side2 A4.out).mono ?_); (case side1 => exact HI0.out); (case side2 => exact HB.out); rintro e w7 ⟨rfl, hi, hb, hk⟩; refine ⟨_, rfl, ?_⟩; replace HK := aa.mk (aj.trans (by exact HK.out) hk (.inl rfl)); replace HB := aa.mk (hb); replace HI0 := aa.mk (hi); clear hb; clear hk; clear hi; have Za : 0 ≤ (Hf : Int) := of_decide_eq_true (by with_reducible assumption); have Ym : Hf < (l1.length : Int) := of_decide_eq_true (by with_reducible assumption); obtain ⟨ajb, e377, K9⟩ := Kd.zn HR1.out Hf Za Ym; cases e377; replace K9 := Nb HK.out K9 (by (rw [add_block]; exact hf1 _ rfl (by omega))); replace Za := eq_true Za; replace Ym := eq_true Ym))
    go_ret
    exact ⟨by rfl, by exact HI0.out, by exact HB.out, by exact HK.out⟩
   ·rw [if_neg c6] at H; exact absurd H (by simp)
  ·rw [if_neg c5] at H; exact absurd H (by simp)
mutual
def ag.l0 : Nat → Int → Int → Int → Int → Int → List (S66) → Int → Int → Int → Option ((List (S66)) × Int × Int × Int × (List (List (S27))) × Int × ByteArray × List Int × Int × Int)
 | 0, _, _, _, _, _, _, _, _, _ => none
 | k + 1, x2, x3, x11, lJ, lF, gQ, iK, iI, jm => if x11 > 0 then ((aJ.f k lJ lF x2).bind fun IL => ((some (([(⟨(⟨IL.1, IL.2.1⟩ : S63), IL.2.2.1⟩ : S66)] : List (S66)) : List (S66))).bind fun DL => (if gQ.length + DL.length < 3518437208883 then (ag.l0 k x2 x3 (wrap64 (x11 - 1)) IL.2.2.2.1 IL.2.2.2.2 (gQ ++ DL) iK iI jm) else (none)))) else ((aZ.f lJ lF (gQ.length : Int)).bind fun Fg => (if 0 ≤ Fg.1 then (if Fg.1 < (gQ.length : Int) then ((bZ.f Fg.2.1 Fg.2.2 1 x3).bind fun Dt => (ag.l1 k ((ah gQ Fg.1).f1) 0 Dt.1 Dt.2.1 Dt.2.2 gQ iK iI jm ([] : List (List (S27))) Fg.1 (⟨#[]⟩ : ByteArray) ([] : List Int))) else (none)) else (none)))
def ag.l1 : Nat → List (S86) → Int → Int → Int → Int → List (S66) → Int → Int → Int → List (List (S27)) → Int → ByteArray → List Int → Option ((List (S66)) × Int × Int × Int × (List (List (S27))) × Int × ByteArray × List Int × Int × Int)
 | 0, _, _, _, _, _, _, _, _, _, _, _, _, _ => none
 | k + 1, x13, x14, x15, lJ, lF, gQ, iK, iI, jm, jE, jQ, jF, jH => if x15 > 0 then ((aZ.f lJ lF (x13.length : Int)).bind fun BR => (if 0 ≤ BR.1 then (if BR.1 < (x13.length : Int) then ((aZ.f BR.2.1 BR.2.2 (wrap64 (iK + 1))).bind fun Cx => ((aZ.f Cx.2.1 Cx.2.2 (wrap64 (iI + 1))).bind fun vN => (ag.l2 k x13 x14 x15 ((ai x13 BR.1).f1) Cx.1 vN.1 0 vN.2.1 vN.2.2 gQ iK iI jm jE jQ jF jH ((ai x13 BR.1).f0) ((ai x13 BR.1).f1)))) else (none)) else (none))) else ((dO.f lJ lF (([0, 0, 1, 2] : List Int))).bind fun Co => (some (gQ, iK, iI, mn 40 (wrap64 (x14 + Co.1)), jE, jQ, jF, jH, Co.2.1, Co.2.2)))
def ag.l2 : Nat → List (S86) → Int → Int → Int → Int → Int → Int → Int → Int → List (S66) → Int → Int → Int → List (List (S27)) → Int → ByteArray → List Int → Int → Int → Option ((List (S66)) × Int × Int × Int × (List (List (S27))) × Int × ByteArray × List Int × Int × Int)
 | 0, _, _, _, _, _, _, _, _, _, _, _, _, _, _, _, _, _, _, _ => none
 | k + 1, x13, x14, x15, x17, x18, x19, x20, lJ, lF, gQ, iK, iI, jm, jE, jQ, jF, jH, kV, jP => if x20 < 5 then (if 0 ≤ x20 then (if (Go.bits .and .i64 (shr .i64 jP x20) 1) = 1 then (if x18 > 0 then ((dA.f lJ lF 1 3).bind fun DF => (ag.j3 k x13 x14 x15 x17 x18 x19 x20 ((Go.bits .and .i64 (shr .i64 jP x20) 1) == 1) DF.1 DF.2.1 DF.2.2 gQ iK iI jm jE jQ jF jH kV jP)) else (ag.j3 k x13 x14 x15 x17 x18 x19 x20 ((Go.bits .and .i64 (shr .i64 jP x20) 1) == 1) false lJ lF gQ iK iI jm jE jQ jF jH kV jP)) else (ag.j3 k x13 x14 x15 x17 x18 x19 x20 ((Go.bits .and .i64 (shr .i64 jP x20) 1) == 1) false lJ lF gQ iK iI jm jE jQ jF jH kV jP)) else (none)) else ((dO.f lJ lF (([0, 1, 1, 2, 3] : List Int))).bind fun Cq => (ag.l3 k x13 x14 x15 x17 ([] : List (S27)) Cq.1 Cq.2.1 Cq.2.2 gQ iK iI jm jE jQ jF jH kV jP))
def ag.j3 : Nat → List (S86) → Int → Int → Int → Int → Int → Int → Bool → Bool → Int → Int → List (S66) → Int → Int → Int → List (List (S27)) → Int → ByteArray → List Int → Int → Int → Option ((List (S66)) × Int × Int × Int × (List (List (S27))) × Int × ByteArray × List Int × Int × Int)
 | 0, _, _, _, _, _, _, _, _, _, _, _, _, _, _, _, _, _, _, _, _, _ => none
 | k + 1, x13, x14, x15, x17, x18, x19, x20, x21, agG, lJ, lF, gQ, iK, iI, jm, jE, jQ, jF, jH, kV, jP => if agG = true then (if 0 ≤ x20 then (if x21 = true then (ag.l2 k x13 (wrap64 (x14 + 1)) x15 (wrap64 (x17 - (shl .i64 1 x20))) (wrap64 (x18 - 1)) x19 (wrap64 (x20 + 1)) lJ lF gQ iK iI jm jE jQ jF jH kV jP) else (if x19 > 0 then ((dA.f lJ lF 1 3).bind fun qG => (if qG.1 = true then (ag.l2 k x13 (wrap64 ((wrap64 (x14 + 1)) + 1)) x15 (wrap64 ((wrap64 (x17 - (shl .i64 1 x20))) + (shl .i64 1 x20))) (wrap64 (x18 - 1)) (wrap64 (x19 - 1)) (wrap64 (x20 + 1)) qG.2.1 qG.2.2 gQ iK iI jm jE jQ jF jH kV jP) else (ag.l2 k x13 (wrap64 (x14 + 1)) x15 (wrap64 (x17 - (shl .i64 1 x20))) (wrap64 (x18 - 1)) x19 (wrap64 (x20 + 1)) qG.2.1 qG.2.2 gQ iK iI jm jE jQ jF jH kV jP))) else (ag.l2 k x13 (wrap64 (x14 + 1)) x15 (wrap64 (x17 - (shl .i64 1 x20))) (wrap64 (x18 - 1)) x19 (wrap64 (x20 + 1)) lJ lF gQ iK iI jm jE jQ jF jH kV jP))) else (none)) else (if x21 = true then (ag.l2 k x13 x14 x15 x17 x18 x19 (wrap64 (x20 + 1)) lJ lF gQ iK iI jm jE jQ jF jH kV jP) else (if x19 > 0 then ((dA.f lJ lF 1 3).bind fun vQ => (if vQ.1 = true then (if 0 ≤ x20 then (ag.l2 k x13 (wrap64 (x14 + 1)) x15 (wrap64 (x17 + (shl .i64 1 x20))) x18 (wrap64 (x19 - 1)) (wrap64 (x20 + 1)) vQ.2.1 vQ.2.2 gQ iK iI jm jE jQ jF jH kV jP) else (none)) else (ag.l2 k x13 x14 x15 x17 x18 x19 (wrap64 (x20 + 1)) vQ.2.1 vQ.2.2 gQ iK iI jm jE jQ jF jH kV jP))) else (ag.l2 k x13 x14 x15 x17 x18 x19 (wrap64 (x20 + 1)) lJ lF gQ iK iI jm jE jQ jF jH kV jP)))
def ag.l3 : Nat → List (S86) → Int → Int → Int → List (S27) → Int → Int → Int → List (S66) → Int → Int → Int → List (List (S27)) → Int → ByteArray → List Int → Int → Int → Option ((List (S66)) × Int × Int × Int × (List (List (S27))) × Int × ByteArray × List Int × Int × Int)
 | 0, _, _, _, _, _, _, _, _, _, _, _, _, _, _, _, _, _, _ => none
 | k + 1, x13, x14, x15, x17, x22, x23, lJ, lF, gQ, iK, iI, jm, jE, jQ, jF, jH, kV, jP => if x23 > 0 then ((aZ.f lJ lF 32).bind fun Qc => ((dO.f Qc.2.1 Qc.2.2 (([31, 15, Qc.1] : List Int))).bind fun sK => ((some (([(⟨sK.1, Go.bits .and .i64 x17 sK.1⟩ : S27)] : List (S27)) : List (S27))).bind fun tO => (if x22.length + tO.length < 8796093022208 then (ag.l3 k x13 x14 x15 x17 (x22 ++ tO) (wrap64 (x23 - 1)) sK.2.1 sK.2.2 gQ iK iI jm jE jQ jF jH kV jP) else (none))))) else ((some (([kV] : List Int) : List Int)).bind fun jk => (if jF.size + (strOfNums jk).size ≤ 9223372036854775807 then ((some (([x17] : List Int) : List Int)).bind fun mG => (if jH.length + mG.length < 17592186044416 then ((some (([x22] : List (List (S27))) : List (List (S27)))).bind fun tJ => (if jE.length + tJ.length < 5864062014805 then (ag.l1 k x13 x14 (wrap64 (x15 - 1)) lJ lF gQ iK iI jm (jE ++ tJ) jQ (jF ++ (strOfNums jk)) (jH ++ mG)) else (none))) else (none))) else (none)))
end
def ag.f (k : Nat) (s0_0 : Int) (s0_1 : Int) (a1 : Int) (a2 : Int) (a3 : Int) : Option ((List (S66)) × Int × Int × Int × (List (List (S27))) × Int × ByteArray × List Int × Int × Int) := (aZ.f s0_0 s0_1 3).bind fun CG => ((aZ.f CG.2.1 CG.2.2 3).bind fun vM => ((bZ.f vM.2.1 vM.2.2 1 a1).bind fun rV => (ag.l0 k a2 a3 rV.1 rV.2.1 rV.2.2 ([] : List (S66)) CG.1 vM.1 0)))
theorem ag.gK : ∀ k, (∀ y0 y1 y2 y3 y4 y5 y6 y7 y8, LeO (ag.l0 k y0 y1 y2 y3 y4 y5 y6 y7 y8) (ag.l0 (k + 1) y0 y1 y2 y3 y4 y5 y6 y7 y8)) ∧ (∀ y0 y1 y2 y3 y4 y5 y6 y7 y8 y9 y10 y11 y12, LeO (ag.l1 k y0 y1 y2 y3 y4 y5 y6 y7 y8 y9 y10 y11 y12) (ag.l1 (k + 1) y0 y1 y2 y3 y4 y5 y6 y7 y8 y9 y10 y11 y12)) ∧ (∀ y0 y1 y2 y3 y4 y5 y6 y7 y8 y9 y10 y11 y12 y13 y14 y15 y16 y17 y18, LeO (ag.l2 k y0 y1 y2 y3 y4 y5 y6 y7 y8 y9 y10 y11 y12 y13 y14 y15 y16 y17 y18) (ag.l2 (k + 1) y0 y1 y2 y3 y4 y5 y6 y7 y8 y9 y10 y11 y12 y13 y14 y15 y16 y17 y18)) ∧ (∀ y0 y1 y2 y3 y4 y5 y6 y7 y8 y9 y10 y11 y12 y13 y14 y15 y16 y17 y18 y19 y20, LeO (ag.j3 k y0 y1 y2 y3 y4 y5 y6 y7 y8 y9 y10 y11 y12 y13 y14 y15 y16 y17 y18 y19 y20) (ag.j3 (k + 1) y0 y1 y2 y3 y4 y5 y6 y7 y8 y9 y10 y11 y12 y13 y14 y15 y16 y17 y18 y19 y20)) ∧ (∀ y0 y1 y2 y3 y4 y5 y6 y7 y8 y9 y10 y11 y12 y13 y14 y15 y16 y17, LeO (ag.l3 k y0 y1 y2 y3 y4 y5 y6 y7 y8 y9 y10 y11 y12 y13 y14 y15 y16 y17) (ag.l3 (k + 1) y0 y1 y2 y3 y4 y5 y6 y7 y8 y9 y10 y11 y12 y13 y14 y15 y16 y17))
 | 0 => ⟨fun _ _ _ _ _ _ _ _ _ r h => by simp [ag.l0] at h, fun _ _ _ _ _ _ _ _ _ _ _ _ _ r h => by simp [ag.l1] at h, fun _ _ _ _ _ _ _ _ _ _ _ _ _ _ _ _ _ _ _ r h => by simp [ag.l2] at h, fun _ _ _ _ _ _ _ _ _ _ _ _ _ _ _ _ _ _ _ _ _ r h => by simp [ag.j3] at h, fun _ _ _ _ _ _ _ _ _ _ _ _ _ _ _ _ _ _ r h => by simp [ag.l3] at h⟩
 | k + 1 => by
  obtain ⟨ih0, ih1, ih2, ih3, ih4⟩ := ag.gK k; refine ⟨?_, ?_, ?_, ?_, ?_⟩; all_goals intros; (first | unfold ag.l0 | unfold ag.l1 | unfold ag.l2 | unfold ag.j3 | unfold ag.l3); repeat' first | (with_reducible exact ih0 _ _ _ _ _ _ _ _ _) | (with_reducible exact ih1 _ _ _ _ _ _ _ _ _ _ _ _ _) | (with_reducible exact ih2 _ _ _ _ _ _ _ _ _ _ _ _ _ _ _ _ _ _ _) | (with_reducible exact ih3 _ _ _ _ _ _ _ _ _ _ _ _ _ _ _ _ _ _ _ _ _) | (with_reducible exact ih4 _ _ _ _ _ _ _ _ _ _ _ _ _ _ _ _ _ _) | (with_reducible exact aJ.mono _ _ _ _) | (with_reducible exact LeO.refl _) | (with_reducible exact LeO.none _) | (with_reducible refine LeO.ite ?_ ?_) | (with_reducible refine LeO.bind ?_ (fun _ => ?_)) | exact ih0 _ _ _ _ _ _ _ _ _ | exact ih1 _ _ _ _ _ _ _ _ _ _ _ _ _ | exact ih2 _ _ _ _ _ _ _ _ _ _ _ _ _ _ _ _ _ _ _ | exact ih3 _ _ _ _ _ _ _ _ _ _ _ _ _ _ _ _ _ _ _ _ _ | exact ih4 _ _ _ _ _ _ _ _ _ _ _ _ _ _ _ _ _ _ | exact aJ.mono _ _ _ _ | exact LeO.none _ | refine LeO.ite ?_ ?_ | refine LeO.bind ?_ (fun _ => ?_)
theorem ag.mono : ∀ a0 a1 a2 a3 a4 k, LeO (ag.f k a0 a1 a2 a3 a4) (ag.f (k + 1) a0 a1 a2 a3 a4) := by
 intro a0 a1 a2 a3 a4 k; obtain ⟨ih0, ih1, ih2, ih3, ih4⟩ := ag.gK k; unfold ag.f
 repeat' first
  | (with_reducible exact ih0 _ _ _ _ _ _ _ _ _)
  | (with_reducible exact ih1 _ _ _ _ _ _ _ _ _ _ _ _ _)
  | (with_reducible exact ih2 _ _ _ _ _ _ _ _ _ _ _ _ _ _ _ _ _ _ _)
  | (with_reducible exact ih3 _ _ _ _ _ _ _ _ _ _ _ _ _ _ _ _ _ _ _ _ _)
  | (with_reducible exact ih4 _ _ _ _ _ _ _ _ _ _ _ _ _ _ _ _ _ _)
  | (with_reducible exact aJ.mono _ _ _ _)
  | (with_reducible exact LeO.refl _)
  | (with_reducible exact LeO.none _)
  | (with_reducible refine LeO.ite ?_ ?_)
  | (with_reducible refine LeO.bind ?_ (fun _ => ?_))
  | exact ih0 _ _ _ _ _ _ _ _ _
  | exact ih1 _ _ _ _ _ _ _ _ _ _ _ _ _
  | exact ih2 _ _ _ _ _ _ _ _ _ _ _ _ _ _ _ _ _ _ _
  | exact ih3 _ _ _ _ _ _ _ _ _ _ _ _ _ _ _ _ _ _ _ _ _
  | exact ih4 _ _ _ _ _ _ _ _ _ _ _ _ _ _ _ _ _ _
  | exact aJ.mono _ _ _ _
  | exact LeO.none _
  | refine LeO.ite ?_ ?_
  | refine LeO.bind ?_ (fun _ => ?_)
def eG.f (a0 : Int) (a1 : Int) (a2 : Int) : Option (Bool) := if a1 ≤ a0 then (some (decide (a0 ≤ a2))) else (some false)
set_option maxHeartbeats 8000000 in
set_option maxRecDepth 100000 in
theorem eG.calls (a0 : Int) (a1 : Int) (a2 : Int) (r : Bool) (w : World) (h : eG.f a0 a1 a2 = some r) :
 Calls Try.prog 64 #[.int .i64 a0, .int .i64 a1, .int .i64 a2] w fun e w' => e = .returned (.bool r) ∧ eZ w w' := by
 have H : (if a1 ≤ a0 then (some (decide (a0 ≤ a2))) else (some false)) = some r := h; clear h; by_cases c4 : a1 ≤ a0
 ·rw [if_pos c4] at H; have GX : decide (a1 ≤ a0) = true := decide_eq_true c4; clear c4; obtain rfl := Option.some.inj H; go_enter Try.func64, Try.ntmps64; go_wp2
  go_ret
  exact ⟨by rfl, by exact eZ.refl _⟩
 ·rw [if_neg c4] at H; have GX : decide (a1 ≤ a0) = false := decide_eq_false c4; clear c4; obtain rfl := Option.some.inj H; go_enter Try.func64, Try.ntmps64; go_wp2
  go_ret
  exact ⟨by rfl, by exact eZ.refl _⟩
mutual
def aA.j0 : Nat → Bool → Int → Int → List (S86) → Option (Int)
 | 0, _, _, _, _ => none
 | k + 1, x5, sU, sI, nK => if x5 = true then (some 1) else (if sU > sI then (some 5) else (if (nK.length : Int) = 0 then (some 7) else (if (nK.length : Int) > 8 then (some 6) else (aA.l0 k nK (nK.length : Int) 0 sU sI nK))))
def aA.l0 : Nat → List (S86) → Int → Int → Int → Int → List (S86) → Option (Int)
 | 0, _, _, _, _, _, _ => none
 | k + 1, x35, x36, x37, sU, sI, nK => if x37 < x36 then (if 0 ≤ x37 then (if x37 < (x35.length : Int) then (if ((ai x35 x37).f0) < 65 then (aA.j2 k x37 x35 x36 x37 (decide (((ai x35 x37).f0) < 65)) sU sI nK ((ai x35 x37).f0) ((ai x35 x37).f1)) else (aA.j2 k x37 x35 x36 x37 (decide (((ai x35 x37).f0) > 90)) sU sI nK ((ai x35 x37).f0) ((ai x35 x37).f1))) else (none)) else (none)) else (some 0)
def aA.j2 : Nat → Int → List (S86) → Int → Int → Bool → Int → Int → List (S86) → Int → Int → Option (Int)
 | 0, _, _, _, _, _, _, _, _, _, _ => none
 | k + 1, x3, x35, x36, x37, x42, sU, sI, nK, TI, VN => if x42 = true then (some 8) else ((eG.f VN 1 1023).bind fun Y9 => (if Y9 = true then (if x3 > 0 then (if 0 ≤ (wrap64 (x3 - 1)) then (if (wrap64 (x3 - 1)) < (nK.length : Int) then (if TI ≤ ((ai nK (wrap64 (x3 - 1))).f0) then (some 5) else (aA.l0 k x35 x36 (wrap64 (x37 + 1)) sU sI nK)) else (none)) else (none)) else (aA.l0 k x35 x36 (wrap64 (x37 + 1)) sU sI nK)) else (some 1)))
end
def aA.f (k : Nat) (gu : Int) (aY : Int) (fQ : List (S86)) : Option (Int) := (eG.f gu (-3000) 3000).bind fun IJ => (if IJ = true then ((eG.f aY (-3000) 3000).bind fun M4 => (aA.j0 k (!M4) gu aY fQ)) else (aA.j0 k (!IJ) gu aY fQ))
theorem aA.gK : ∀ k, (∀ y0 y1 y2 y3, LeO (aA.j0 k y0 y1 y2 y3) (aA.j0 (k + 1) y0 y1 y2 y3)) ∧ (∀ y0 y1 y2 y3 y4 y5, LeO (aA.l0 k y0 y1 y2 y3 y4 y5) (aA.l0 (k + 1) y0 y1 y2 y3 y4 y5)) ∧ (∀ y0 y1 y2 y3 y4 y5 y6 y7 y8 y9, LeO (aA.j2 k y0 y1 y2 y3 y4 y5 y6 y7 y8 y9) (aA.j2 (k + 1) y0 y1 y2 y3 y4 y5 y6 y7 y8 y9))
 | 0 => ⟨fun _ _ _ _ r h => by simp [aA.j0] at h, fun _ _ _ _ _ _ r h => by simp [aA.l0] at h, fun _ _ _ _ _ _ _ _ _ _ r h => by simp [aA.j2] at h⟩
 | k + 1 => by
  obtain ⟨ih0, ih1, ih2⟩ := aA.gK k; refine ⟨?_, ?_, ?_⟩
  ·intro y0 y1 y2 y3; unfold aA.j0
   repeat' first | (with_reducible exact ih1 _ _ _ _ _ _) | (with_reducible exact LeO.refl _) | (with_reducible refine LeO.ite ?_ ?_)
  ·intro y0 y1 y2 y3 y4 y5; unfold aA.l0
   repeat' first | (with_reducible exact ih2 _ _ _ _ _ _ _ _ _ _) | (with_reducible exact LeO.refl _) | (with_reducible refine LeO.ite ?_ ?_)
  ·intro y0 y1 y2 y3 y4 y5 y6 y7 y8 y9; unfold aA.j2
   repeat' first | (with_reducible exact ih1 _ _ _ _ _ _) | (with_reducible exact LeO.refl _) | (with_reducible refine LeO.ite ?_ ?_) | (with_reducible refine LeO.bind ?_ (fun _ => ?_))
theorem aA.mono : ∀ a0 a1 a2 k, LeO (aA.f k a0 a1 a2) (aA.f (k + 1) a0 a1 a2) := by
 intro a0 a1 a2 k; obtain ⟨ih0, ih1, ih2⟩ := aA.gK k; unfold aA.f
 repeat' first | (with_reducible exact ih0 _ _ _ _) | (with_reducible exact LeO.refl _) | (with_reducible refine LeO.ite ?_ ?_) | (with_reducible refine LeO.bind ?_ (fun _ => ?_))
set_option maxHeartbeats 8000000 in
set_option maxRecDepth 100000 in
theorem aA.calls (k : Nat) (gu : Int) (aY : Int) (RS : Option Addr) (Il : Nat) (fQ : List (S86)) (r : Int) (w : World) (WQ : Kd.C k86 w RS fQ.length fQ) (WX : fQ.length ≤ Il) (h : aA.f k gu aY fQ = some r) :
 Calls Try.prog 63 #[.agg #[.int .i64 gu, .int .i64 aY, .slice RS fQ.length Il]] w fun e w' => e = .returned (.int .i64 r) ∧ Below w.heap.size w w' := by
 have hu66 := Try.underlying66; have hu86 := Try.underlying86; have C8 := aa.mk WQ; have aje := aa.mk WX; clear WQ WX; have HB := aa.mk (Below.refl w.heap.size w); have H : ((eG.f gu (-3000) 3000).bind fun IJ => (if IJ = true then ((eG.f aY (-3000) 3000).bind fun M4 => (aA.j0 k (!M4) gu aY fQ)) else (aA.j0 k (!IJ) gu aY fQ))) = some r := h; clear h; replace H := Option.bind_eq_some_iff.mp H; obtain ⟨IJ, A20, H⟩ := H; have A2 := aa.mk A20; clear A20; have HC3 := aa.mk H; clear H; go_enter Try.func63, Try.ntmps63; (go_upto_if 5 with (first | ((with_reducible refine dm (N := 1) rfl ?_); refine dD ?hg (N := 1) ?hd (cs := #[.int .i64 gu, .int .i64 aY, .slice RS fQ.length Il]) (t := 66) ?hr ?_; (case hd => rfl); (case hg => rfl); (case hr => (go_simp; done)); intro yo hg w4 hbox hb; have lG := aa.mk (hbox); have aig := aa.mk ((by rw [hg]; exact (az (by exact HB.out)) : w.heap.size ≤ yo)); have ajd := aa.mk ((by rw [hg]; exact (az (by exact HB.out)) : w.heap.size ≤ yo)); replace HB := aa.mk (ax (by exact HB.out) hb); clear hb hbox hg; obtain ⟨JK, JJ, JM, KR, KM, Ke⟩ := cells3 lG.out) | (go_at_call 64; (with_reducible refine (eG.calls gu (-3000) 3000 IJ _ A2.out).mono ?_); rintro e w' ⟨rfl, ⟨nd, rfl⟩⟩))); (skip); go_cut [5] (fun v5 wc => ∃ (kq : Nat) (VI : Bool), v5 = .bool VI ∧ aa (aA.j0 kq VI gu aY fQ = some r) ∧ aa (kq ≤ k) ∧ aa (wc.heap[yo]? = some (.cells #[.int .i64 gu, .int .i64 aY, (.slice RS fQ.length Il)] 66 (0, 0))) ∧ aa (Below w.heap.size w wc))
 case first =>
  have H := HC3.out; clear HC3; by_cases c6 : IJ = true
  ·subst c6; rw [if_pos rfl] at H; replace H := Option.bind_eq_some_iff.mp H; obtain ⟨M4, A70, H⟩ := H; have A7 := aa.mk A70; clear A70; have H' := aa.mk H; clear H; obtain ⟨CL, CO, FB, Cc, Cs, Gm⟩ := cells3 lG.out; (go_wp2_with ((go_at_call 64; (with_reducible refine (eG.calls aY (-3000) 3000 M4 _ A7.out).mono ?_); rintro e w' ⟨rfl, ⟨nd, rfl⟩⟩))); go_meet; case rel => exact ⟨_, (!M4), (by rfl), H', ⟨by omega⟩, ⟨by (with_reducible repeat (refine fC ?_ _)); exact lG.out⟩, ⟨by exact lU HB.out⟩⟩
  ·replace c6 := Bool.eq_false_iff.mpr c6; subst c6; rw [if_neg (show ¬ (false = true) by decide)] at H; have H' := aa.mk H; clear H; go_wp2; go_meet; case rel => exact ⟨_, (!false), (by rfl), H', ⟨by omega⟩, ⟨by (with_reducible repeat (refine fC ?_ _)); exact lG.out⟩, ⟨by exact lU HB.out⟩⟩
 case rest =>
  clear HC3 JK JJ JM KR KM Ke; obtain ⟨kq, VI, rfl, HA, HJ2, lG, HB⟩ := hcut
  cases kq with
  | zero => exact absurd HA.out (by simp [aA.j0])
  | succ kj2 =>
   have H := HA.out; clear HA; simp only [aA.j0] at H; by_cases c9 : VI = true
   ·subst c9; rw [if_pos rfl] at H; obtain rfl := Option.some.inj H; go_wp2
    go_ret
    exact ⟨by rfl, by exact HB.out⟩
   ·replace c9 := Bool.eq_false_iff.mpr c9; subst c9; rw [if_neg (show ¬ (false = true) by decide)] at H; by_cases c10 : gu > aY
    ·rw [if_pos c10] at H; have zW : decide (aY < gu) = true := decide_eq_true c10; clear c10; obtain rfl := Option.some.inj H; obtain ⟨afy, aeH, afG, afm, afq, ad5⟩ := cells3 lG.out; go_wp2
     go_ret
     exact ⟨by rfl, by exact HB.out⟩
    ·rw [if_neg c10] at H; have zW : decide (aY < gu) = false := decide_eq_false c10; clear c10; by_cases c12 : (fQ.length : Int) = 0
     ·rw [if_pos c12] at H; have xn : ((fQ.length : Int) == 0) = true := beq_iff_eq.mpr c12; have Mr : ((fQ.length : Int) != 0) = false := bne_eq_false_iff_eq.mpr c12; clear c12; obtain rfl := Option.some.inj H; obtain ⟨UX, V8, afd, Wl, Wu, aeW⟩ := cells3 lG.out; go_wp2
      go_ret
      exact ⟨by rfl, by exact HB.out⟩
     ·rw [if_neg c12] at H; have xn : ((fQ.length : Int) == 0) = false := beq_eq_false_iff_ne.mpr c12; have Mr : ((fQ.length : Int) != 0) = true := bne_iff_ne.mpr c12; (have acd : ¬ (fQ = []) := fun h_ => c12 (by rw [h_]; rfl)); by_cases c14 : (fQ.length : Int) > 8
      ·rw [if_pos c14] at H; have Aq : decide (8 < (fQ.length : Int)) = true := decide_eq_true c14; have Iw : decide (8 < fQ.length) = true := decide_eq_true (by omega); clear c14; obtain rfl := Option.some.inj H; obtain ⟨VW, Uf, Tn, TG, Tc, VG⟩ := cells3 lG.out; go_wp2
       go_ret
       exact ⟨by rfl, by exact HB.out⟩
      ·rw [if_neg c14] at H; have Aq : decide (8 < (fQ.length : Int)) = false := decide_eq_false c14; have Iw : decide (8 < fQ.length) = false := decide_eq_false (by omega); clear c14; have H' := aa.mk H; clear H; obtain ⟨FH, FC, FV, FJ, GY, FP⟩ := cells3 lG.out; go_wp2; (go_loopg [37] kj2 (fun kq v37 w' => ∃ (gG : Int), v37 = .int .i64 gG ∧ aa (aA.l0 kq fQ (fQ.length : Int) gG gu aY fQ = some r) ∧ aa (kq ≤ kj2) ∧ aa (w'.heap[yo]? = some (.cells #[.int .i64 gu, .int .i64 aY, (.slice RS fQ.length Il)] 66 (0, 0))) ∧ aa (Below w.heap.size w w'))); case atStart => exact ⟨(0), (by rfl), H', ⟨Nat.le_refl _⟩, ⟨by (with_reducible skip); exact lG.out⟩, ⟨by exact HB.out⟩⟩
       case round =>
        clear H' zW c12 xn Mr acd Aq Iw FH FC FV FJ GY FP; obtain ⟨gG, rfl, HA, HK2, lG, HB⟩ := hrel
        cases gk with
        | zero => exact absurd HA.out (by simp [aA.l0])
        | succ k2 =>
         have H := HA.out; clear HA; simp only [aA.l0] at H; by_cases c17 : gG < (fQ.length : Int)
         ·rw [if_pos c17] at H; have Ma : decide (gG < (fQ.length : Int)) = true := decide_eq_true c17; clear c17; by_cases c18 : 0 ≤ gG
          ·rw [if_pos c18] at H; have Hz : decide (0 ≤ gG) = true := decide_eq_true c18; clear c18; by_cases c19 : gG < (fQ.length : Int)
           ·rw [if_pos c19] at H; have Wy : decide (gG < (fQ.length : Int)) = true := decide_eq_true c19; clear c19; have Nv := aa.mk H; clear H; have UB : 0 ≤ (gG : Int) := of_decide_eq_true (by with_reducible assumption); have UN : gG < (fQ.length : Int) := of_decide_eq_true (by with_reducible assumption); obtain ⟨xW, e107, Bq, BB⟩ := mX C8.out gG UB UN; cases e107; replace Bq := (HB.out.cell (World.block_lt_of_cell? w _ Bq)).trans Bq; replace BB := (HB.out.cell (World.block_lt_of_cell? w _ BB)).trans BB; replace UB := eq_true UB; replace UN := eq_true UN; (go_upto_if 42 with (((with_reducible refine dm (N := 4) rfl ?_); refine dD ?hg (N := 4) ?hd (cs := #[.int .u8 0, .int .i64 0]) (t := 86) ?hr ?_; (case hd => rfl); (case hg => rfl); (case hr => (go_simp; done)); intro Ic hg w21 hbox hb; have yB := aa.mk (hbox); have aiE := aa.mk ((by rw [hg]; exact (az (by exact HB.out)) : w.heap.size ≤ Ic)); have Xa := aa.mk ((by rw [hg]; exact (az (by exact HB.out)) : w.heap.size ≤ Ic)); replace HB := aa.mk (ax (by exact HB.out) hb); have mi := aa.mk ((by rw [hg]; exact Nat.ne_of_lt (bW (g := yo) (o := .cells #[.int .i64 gu, .int .i64 aY, .slice (some xW) fQ.length Il] 66 (0, 0)) (bU lG.out)) : yo ≠ Ic)); have ru := aa.mk ((by rw [hg]; exact Nat.ne_of_gt (bW (g := yo) (o := .cells #[.int .i64 gu, .int .i64 aY, .slice (some xW) fQ.length Il] 66 (0, 0)) (bU lG.out)) : Ic ≠ yo)); replace lG := aa.mk (au (bU lG.out) hb); clear hb hbox hg; have adn := ru.out; have abQ := mi.out; obtain ⟨L6, MF, Li, Mx⟩ := mH yB.out))); (skip); go_cut [42] (fun v42 wc => ∃ (kq : Nat) (GN : Bool), v42 = .bool GN ∧ aa (aA.j2 kq gG fQ (fQ.length : Int) gG GN gu aY fQ ((ai fQ gG).f0) ((ai fQ gG).f1) = some r) ∧ aa (kq ≤ k2) ∧ aa (wc.heap[yo]? = some (.cells #[.int .i64 gu, .int .i64 aY, (.slice (some xW) fQ.length Il)] 66 (0, 0))) ∧ aa (wc.heap[Ic]? = some (.cells #[.int .u8 ((ai fQ gG).f0), .int .i64 ((ai fQ gG).f1)] 86 (0, 0))) ∧ aa (Below w.heap.size w wc))
            case first =>
             have H := Nv.out; clear Nv; by_cases c24 : ((ai fQ gG).f0) < 65
             ·rw [if_pos c24] at H; have G6 : decide (((ai fQ gG).f0) < 65) = true := decide_eq_true c24; clear c24; (rw [G6]); have H' := aa.mk H; clear H; go_wp2; go_meet; case rel => exact ⟨_, (decide (((ai fQ gG).f0) < 65)), (by simp [*]; done), H', ⟨by have := HJ2.out; have := HK2.out; omega⟩, ⟨by (with_reducible skip); refine bA ?_ mi.out _; (with_reducible skip); refine bA ?_ mi.out _; (with_reducible skip); exact lG.out⟩, ⟨by (with_reducible skip); refine bS (cs := #[.int .u8 ((ai fQ gG).f0), .int .i64 0]) ?_ 1 _ rfl; (with_reducible skip); refine bS (cs := #[.int .u8 0, .int .i64 0]) ?_ 0 _ rfl; (with_reducible skip); exact yB.out⟩, ⟨by repeat ((with_reducible first | exact HB.out | refine df ?_ Xa.out))⟩⟩
             ·rw [if_neg c24] at H; have G6 : decide (((ai fQ gG).f0) < 65) = false := decide_eq_false c24; clear c24; (rw [G6]); have H' := aa.mk H; clear H; have aiP := ru.out; have aih := mi.out; obtain ⟨afB, afK, aeh, aec⟩ := mH yB.out; go_wp2; go_meet; case rel => exact ⟨_, (decide (((ai fQ gG).f0) > 90)), (by rfl), H', ⟨by have := HJ2.out; have := HK2.out; omega⟩, ⟨by (with_reducible skip); refine bA ?_ mi.out _; (with_reducible skip); refine bA ?_ mi.out _; (with_reducible skip); exact lG.out⟩, ⟨by (with_reducible skip); refine bS (cs := #[.int .u8 ((ai fQ gG).f0), .int .i64 0]) ?_ 1 _ rfl; (with_reducible skip); refine bS (cs := #[.int .u8 0, .int .i64 0]) ?_ 0 _ rfl; (with_reducible skip); exact yB.out⟩, ⟨by repeat ((with_reducible first | exact HB.out | refine df ?_ Xa.out))⟩⟩
            case rest =>
             clear Nv Ma Hz Wy L6 MF Li Mx Bq BB UB UN; obtain ⟨kq, GN, rfl, HA, HJ19, lG, yB, HB⟩ := hcut
             cases kq with
             | zero => exact absurd HA.out (by simp [aA.j2])
             | succ kj19 =>
              have H := HA.out; clear HA; simp only [aA.j2] at H; by_cases c27 : GN = true
              ·subst c27; rw [if_pos rfl] at H; obtain rfl := Option.some.inj H; go_wp2
               go_ret
               exact ⟨by rfl, by exact HB.out⟩
              ·replace c27 := Bool.eq_false_iff.mpr c27; subst c27; rw [if_neg (show ¬ (false = true) by decide)] at H; replace H := Option.bind_eq_some_iff.mp H; obtain ⟨Y9, acV, H⟩ := H; have A28 := aa.mk acV; clear acV; by_cases c29 : Y9 = true
               ·subst c29; rw [if_pos rfl] at H; by_cases c30 : gG > 0
                ·rw [if_pos c30] at H; have ZX : decide (0 < gG) = true := decide_eq_true c30; clear c30; obtain ⟨oQ, WI⟩ : ∃ j_ : Int, (wrap64 (gG - 1)) = j_ := ⟨_, rfl⟩; (replace H : (if 0 ≤ (oQ) then (if (oQ) < (fQ.length : Int) then (if ((ai fQ gG).f0) ≤ ((ai fQ (oQ)).f0) then (some 5) else (aA.l0 kj19 fQ (fQ.length : Int) (wrap64 (gG + 1)) gu aY fQ)) else (none)) else (none)) = some r := by (rw [WI] at H; exact H)); (skip); have agX : (IntKind.i64.wrap (gG - 1)) = oQ := (pV _).trans WI; by_cases c32 : 0 ≤ (oQ)
                 ·rw [if_pos c32] at H; have Xb : decide (0 ≤ (oQ)) = true := decide_eq_true c32; clear c32; by_cases c33 : (oQ) < (fQ.length : Int)
                  ·rw [if_pos c33] at H; have O1 : decide ((oQ) < (fQ.length : Int)) = true := decide_eq_true c33; clear c33; by_cases c34 : ((ai fQ gG).f0) ≤ ((ai fQ (oQ)).f0)
                   ·rw [if_pos c34] at H; have ack : decide (((ai fQ gG).f0) ≤ ((ai fQ (oQ)).f0)) = true := decide_eq_true c34; clear c34; obtain rfl := Option.some.inj H; have RO := ru.out; have Sc := mi.out; obtain ⟨Ws, U5, TH, S9⟩ := mH yB.out; (go_wp2_with ((go_at_call 64; (with_reducible refine (eG.calls ((ai fQ gG).f1) 1 1023 true _ A28.out).mono ?_); rintro e w' ⟨rfl, ⟨nd, rfl⟩⟩; obtain ⟨wM, wS, wZ, wV, xc, wL⟩ := cells3 lG.out; have rZ : 0 ≤ ((oQ) : Int) := of_decide_eq_true (by with_reducible assumption); have rJ : (oQ) < (fQ.length : Int) := of_decide_eq_true (by with_reducible assumption); obtain ⟨wC, e110, iG, iP⟩ := mX C8.out (oQ) rZ rJ; obtain rfl : xW = wC := (by injection e110); replace iG := (HB.out.cell (World.block_lt_of_cell? w _ iG)).trans iG; replace iP := (HB.out.cell (World.block_lt_of_cell? w _ iP)).trans iP; replace rZ := eq_true rZ; replace rJ := eq_true rJ))); repeat (go_quiet (first | (go_at_call 64; (with_reducible refine (eG.calls ((ai fQ gG).f1) 1 1023 true _ A28.out).mono ?_); rintro e w' ⟨rfl, ⟨nd, rfl⟩⟩; (try first | exact ⟨rfl, _, World.drewN_drewN _ _ _⟩ | exact ⟨rfl, _, Eq.trans (World.drewN_drewN _ _ _) (congrArg (World.drewN _) (Nat.add_assoc _ _ _))⟩); obtain ⟨wM, wS, wZ, wV, xc, wL⟩ := cells3 lG.out; have rZ : 0 ≤ ((oQ) : Int) := of_decide_eq_true (by first | (with_reducible assumption) | assumption); have rJ : (oQ) < (fQ.length : Int) := of_decide_eq_true (by first | (with_reducible assumption) | assumption); obtain ⟨wC, e110, iG, iP⟩ := mX C8.out (oQ) rZ rJ; obtain rfl : xW = wC := (by injection e110); replace iG := (HB.out.cell (World.block_lt_of_cell? w _ iG)).trans iG; replace iP := (HB.out.cell (World.block_lt_of_cell? w _ iP)).trans iP; replace rZ := eq_true rZ; replace rJ := eq_true rJ)); go_wp2_with (first | (go_at_call 64; (with_reducible refine (eG.calls ((ai fQ gG).f1) 1 1023 true _ A28.out).mono ?_); rintro e w' ⟨rfl, ⟨nd, rfl⟩⟩; (try first | exact ⟨rfl, _, World.drewN_drewN _ _ _⟩ | exact ⟨rfl, _, Eq.trans (World.drewN_drewN _ _ _) (congrArg (World.drewN _) (Nat.add_assoc _ _ _))⟩); obtain ⟨wM, wS, wZ, wV, xc, wL⟩ := cells3 lG.out; have rZ : 0 ≤ ((oQ) : Int) := of_decide_eq_true (by first | (with_reducible assumption) | assumption); have rJ : (oQ) < (fQ.length : Int) := of_decide_eq_true (by first | (with_reducible assumption) | assumption); obtain ⟨wC, e110, iG, iP⟩ := mX C8.out (oQ) rZ rJ; obtain rfl : xW = wC := (by injection e110); replace iG := (HB.out.cell (World.block_lt_of_cell? w _ iG)).trans iG; replace iP := (HB.out.cell (World.block_lt_of_cell? w _ iP)).trans iP; replace rZ := eq_true rZ; replace rJ := eq_true rJ)))
                    go_ret
                    exact ⟨by rfl, by exact lU HB.out⟩
                   ·rw [if_neg c34] at H; have ack : decide (((ai fQ gG).f0) ≤ ((ai fQ (oQ)).f0)) = false := decide_eq_false c34; clear c34; have H' := aa.mk H; clear H; have ai4 := ru.out; have ajx := mi.out; obtain ⟨afj, aeK, ad9, afH⟩ := mH yB.out; (go_wp2_with ((go_at_call 64; (with_reducible refine (eG.calls ((ai fQ gG).f1) 1 1023 true _ A28.out).mono ?_); rintro e w' ⟨rfl, ⟨nd, rfl⟩⟩; obtain ⟨LY, Mv, LJ, LC, LU, Le⟩ := cells3 lG.out; have rZ : 0 ≤ ((oQ) : Int) := of_decide_eq_true (by with_reducible assumption); have rJ : (oQ) < (fQ.length : Int) := of_decide_eq_true (by with_reducible assumption); obtain ⟨wC, e110, iG, iP⟩ := mX C8.out (oQ) rZ rJ; obtain rfl : xW = wC := (by injection e110); replace iG := (HB.out.cell (World.block_lt_of_cell? w _ iG)).trans iG; replace iP := (HB.out.cell (World.block_lt_of_cell? w _ iP)).trans iP; replace rZ := eq_true rZ; replace rJ := eq_true rJ))); (repeat (go_quiet (first | (go_at_call 64; (with_reducible refine (eG.calls ((ai fQ gG).f1) 1 1023 true _ A28.out).mono ?_); rintro e w' ⟨rfl, ⟨nd, rfl⟩⟩; (try first | exact ⟨rfl, _, World.drewN_drewN _ _ _⟩ | exact ⟨rfl, _, Eq.trans (World.drewN_drewN _ _ _) (congrArg (World.drewN _) (Nat.add_assoc _ _ _))⟩); obtain ⟨LY, Mv, LJ, LC, LU, Le⟩ := cells3 lG.out; have rZ : 0 ≤ ((oQ) : Int) := of_decide_eq_true (by first | (with_reducible assumption) | assumption); have rJ : (oQ) < (fQ.length : Int) := of_decide_eq_true (by first | (with_reducible assumption) | assumption); obtain ⟨wC, e110, iG, iP⟩ := mX C8.out (oQ) rZ rJ; obtain rfl : xW = wC := (by injection e110); replace iG := (HB.out.cell (World.block_lt_of_cell? w _ iG)).trans iG; replace iP := (HB.out.cell (World.block_lt_of_cell? w _ iP)).trans iP; replace rZ := eq_true rZ; replace rJ := eq_true rJ)); go_wp2_with (first | (go_at_call 64; (with_reducible refine (eG.calls ((ai fQ gG).f1) 1 1023 true _ A28.out).mono ?_); rintro e w' ⟨rfl, ⟨nd, rfl⟩⟩; (try first | exact ⟨rfl, _, World.drewN_drewN _ _ _⟩ | exact ⟨rfl, _, Eq.trans (World.drewN_drewN _ _ _) (congrArg (World.drewN _) (Nat.add_assoc _ _ _))⟩); obtain ⟨LY, Mv, LJ, LC, LU, Le⟩ := cells3 lG.out; have rZ : 0 ≤ ((oQ) : Int) := of_decide_eq_true (by first | (with_reducible assumption) | assumption); have rJ : (oQ) < (fQ.length : Int) := of_decide_eq_true (by first | (with_reducible assumption) | assumption); obtain ⟨wC, e110, iG, iP⟩ := mX C8.out (oQ) rZ rJ; obtain rfl : xW = wC := (by injection e110); replace iG := (HB.out.cell (World.block_lt_of_cell? w _ iG)).trans iG; replace iP := (HB.out.cell (World.block_lt_of_cell? w _ iP)).trans iP; replace rZ := eq_true rZ; replace rJ := eq_true rJ)))); go_roundg kj19; (case measure => have := HJ2.out; have := HK2.out; have := HJ19.out; omega); case rel => exact ⟨(wrap64 (gG + 1)), (by rfl), H', ⟨by have := HJ2.out; have := HK2.out; have := HJ19.out; omega⟩, ⟨by (with_reducible repeat (refine fC ?_ _)); exact lG.out⟩, ⟨by exact lU HB.out⟩⟩
                  ·rw [if_neg c33] at H; exact absurd H (by simp)
                 ·rw [if_neg c32] at H; exact absurd H (by simp)
                ·rw [if_neg c30] at H; have ZX : decide (0 < gG) = false := decide_eq_false c30; clear c30; have H' := aa.mk H; clear H; have R4 := ru.out; have Qk := mi.out; obtain ⟨aeN, af7, adT, adN⟩ := mH yB.out; (go_wp2_with ((go_at_call 64; (with_reducible refine (eG.calls ((ai fQ gG).f1) 1 1023 true _ A28.out).mono ?_); rintro e w' ⟨rfl, ⟨nd, rfl⟩⟩))); (repeat (go_quiet (first | (go_at_call 64; (with_reducible refine (eG.calls ((ai fQ gG).f1) 1 1023 true _ A28.out).mono ?_); rintro e w' ⟨rfl, ⟨nd, rfl⟩⟩; (try first | exact ⟨rfl, _, World.drewN_drewN _ _ _⟩ | exact ⟨rfl, _, Eq.trans (World.drewN_drewN _ _ _) (congrArg (World.drewN _) (Nat.add_assoc _ _ _))⟩))); go_wp2_with (first | (go_at_call 64; (with_reducible refine (eG.calls ((ai fQ gG).f1) 1 1023 true _ A28.out).mono ?_); rintro e w' ⟨rfl, ⟨nd, rfl⟩⟩; (try first | exact ⟨rfl, _, World.drewN_drewN _ _ _⟩ | exact ⟨rfl, _, Eq.trans (World.drewN_drewN _ _ _) (congrArg (World.drewN _) (Nat.add_assoc _ _ _))⟩))))); go_roundg kj19; (case measure => have := HJ2.out; have := HK2.out; have := HJ19.out; omega); case rel => exact ⟨(wrap64 (gG + 1)), (by rfl), H', ⟨by have := HJ2.out; have := HK2.out; have := HJ19.out; omega⟩, ⟨by (with_reducible repeat (refine fC ?_ _)); exact lG.out⟩, ⟨by exact lU HB.out⟩⟩
               ·replace c29 := Bool.eq_false_iff.mpr c29; subst c29; rw [if_neg (show ¬ (false = true) by decide)] at H; obtain rfl := Option.some.inj H; have RF := ru.out; have OX := mi.out; obtain ⟨aea, aeF, adv, ad3⟩ := mH yB.out; go_wp2_with ((go_at_call 64; (with_reducible refine (eG.calls ((ai fQ gG).f1) 1 1023 false _ A28.out).mono ?_); rintro e w' ⟨rfl, ⟨nd, rfl⟩⟩))
                go_ret
                exact ⟨by rfl, by exact lU HB.out⟩
           ·rw [if_neg c19] at H; exact absurd H (by simp)
          ·rw [if_neg c18] at H; exact absurd H (by simp)
         ·rw [if_neg c17] at H; have Ma : decide (gG < (fQ.length : Int)) = false := decide_eq_false c17; clear c17; obtain rfl := Option.some.inj H; go_wp2
          go_ret
          exact ⟨by rfl, by exact HB.out⟩
def fD.f (a0 : Int) (a1 : Int) : Option (Int) := some (Go.bits .andNot .i64 a0 a1)
set_option maxHeartbeats 8000000 in
set_option maxRecDepth 100000 in
theorem fD.calls (a0 : Int) (a1 : Int) (r : Int) (w : World) (h : fD.f a0 a1 = some r) :
 Calls Try.prog 65 #[.int .i64 a0, .int .i64 a1] w fun e w' => e = .returned (.int .i64 r) ∧ eZ w w' := by
 have H : (some (Go.bits .andNot .i64 a0 a1)) = some r := h; clear h; obtain rfl := Option.some.inj H; go_enter Try.func65, Try.ntmps65; go_wp2
 go_ret
 exact ⟨by first | rfl | (simp; done) | (simp [*]; done), by repeat (first | exact eZ.refl _ | apply eZ.step)⟩
mutual
def aI.l0 : Nat → List (S66) → Int → Int → List (S66) → Int → Int → Int → List (List (S27)) → Option (Int)
 | 0, _, _, _, _, _, _, _, _ => none
 | k + 1, x21, x22, x23, yP, wQ, wI, wN, qY => if x23 < x22 then (if 0 ≤ x23 then (if x23 < (x21.length : Int) then ((aA.f k ((ah x21 x23).f0.f0) ((ah x21 x23).f0.f1) ((ah x21 x23).f1)).bind fun En => (if En = 0 then (aI.l0 k x21 x22 (wrap64 (x23 + 1)) yP wQ wI wN qY) else (some En))) else (none)) else (none)) else ((eG.f wQ 0 10).bind fun Oz => (if Oz = true then ((eG.f wI 0 10).bind fun Ul => (if Ul = true then ((eG.f wN 0 40).bind fun U3 => (aI.j1 k (!U3) yP wQ wI wN qY)) else (aI.j1 k (!Ul) yP wQ wI wN qY))) else (aI.j1 k (!Oz) yP wQ wI wN qY)))
def aI.j1 : Nat → Bool → List (S66) → Int → Int → Int → List (List (S27)) → Option (Int)
 | 0, _, _, _, _, _, _ => none
 | k + 1, x33, yP, wQ, wI, wN, qY => if x33 = true then (some 1) else (if (qY.length : Int) = 0 then (some 7) else (if (qY.length : Int) > 8 then (some 6) else (aI.l1 k qY (qY.length : Int) 0)))
def aI.l1 : Nat → List (List (S27)) → Int → Int → Option (Int)
 | 0, _, _, _ => none
 | k + 1, x57, x58, x59 => if x59 < x58 then (if 0 ≤ x59 then (if x59 < (x57.length : Int) then (if ((cu x57 x59).length : Int) > 4 then (some 6) else (aI.l2 k x57 x58 x59 (cu x57 x59) ((cu x57 x59).length : Int) 0)) else (none)) else (none)) else (some 0)
def aI.l2 : Nat → List (List (S27)) → Int → Int → List (S27) → Int → Int → Option (Int)
 | 0, _, _, _, _, _, _ => none
 | k + 1, x57, x58, x59, x66, x67, x68 => if x68 < x67 then (if 0 ≤ x68 then (if x68 < (x66.length : Int) then ((eG.f ((eB x66 x68).f0) 0 1023).bind fun Po => (if Po = true then ((eG.f ((eB x66 x68).f1) 0 1023).bind fun Ty => (aI.j4 k x57 x58 x59 x66 x67 x68 (!Ty) ((eB x66 x68).f0) ((eB x66 x68).f1))) else (aI.j4 k x57 x58 x59 x66 x67 x68 (!Po) ((eB x66 x68).f0) ((eB x66 x68).f1)))) else (none)) else (none)) else (aI.l1 k x57 x58 (wrap64 (x59 + 1)))
def aI.j4 : Nat → List (List (S27)) → Int → Int → List (S27) → Int → Int → Bool → Int → Int → Option (Int)
 | 0, _, _, _, _, _, _, _, _, _ => none
 | k + 1, x57, x58, x59, x66, x67, x68, x72, Vw, UG => if x72 = true then (some 1) else ((fD.f UG Vw).bind fun GQ => (if GQ = 0 then (aI.l2 k x57 x58 x59 x66 x67 (wrap64 (x68 + 1))) else (some 2)))
end
def aI.f (k : Nat) (aU : List (S66)) (aY : Int) (bI : Int) (bT : Int) (aV : List (List (S27))) : Option (Int) := if (aU.length : Int) = 0 then (some 7) else (if (aU.length : Int) > 4 then (some 6) else (aI.l0 k aU (aU.length : Int) 0 aU aY bI bT aV))
theorem aI.gK : ∀ k, (∀ y0 y1 y2 y3 y4 y5 y6 y7, LeO (aI.l0 k y0 y1 y2 y3 y4 y5 y6 y7) (aI.l0 (k + 1) y0 y1 y2 y3 y4 y5 y6 y7)) ∧ (∀ y0 y1 y2 y3 y4 y5, LeO (aI.j1 k y0 y1 y2 y3 y4 y5) (aI.j1 (k + 1) y0 y1 y2 y3 y4 y5)) ∧ (∀ y0 y1 y2, LeO (aI.l1 k y0 y1 y2) (aI.l1 (k + 1) y0 y1 y2)) ∧ (∀ y0 y1 y2 y3 y4 y5, LeO (aI.l2 k y0 y1 y2 y3 y4 y5) (aI.l2 (k + 1) y0 y1 y2 y3 y4 y5)) ∧ (∀ y0 y1 y2 y3 y4 y5 y6 y7 y8, LeO (aI.j4 k y0 y1 y2 y3 y4 y5 y6 y7 y8) (aI.j4 (k + 1) y0 y1 y2 y3 y4 y5 y6 y7 y8))
 | 0 => ⟨fun _ _ _ _ _ _ _ _ r h => by simp [aI.l0] at h, fun _ _ _ _ _ _ r h => by simp [aI.j1] at h, fun _ _ _ r h => by simp [aI.l1] at h, fun _ _ _ _ _ _ r h => by simp [aI.l2] at h, fun _ _ _ _ _ _ _ _ _ r h => by simp [aI.j4] at h⟩
 | k + 1 => by
  obtain ⟨ih0, ih1, ih2, ih3, ih4⟩ := aI.gK k; refine ⟨?_, ?_, ?_, ?_, ?_⟩
  ·intro y0 y1 y2 y3 y4 y5 y6 y7; unfold aI.l0
   repeat' first | (with_reducible exact ih0 _ _ _ _ _ _ _ _) | (with_reducible exact ih1 _ _ _ _ _ _) | (with_reducible exact aA.mono _ _ _ _) | (with_reducible exact LeO.refl _) | (with_reducible refine LeO.ite ?_ ?_) | (with_reducible refine LeO.bind ?_ (fun _ => ?_))
  ·intro y0 y1 y2 y3 y4 y5; unfold aI.j1
   repeat' first | (with_reducible exact ih2 _ _ _) | (with_reducible exact LeO.refl _) | (with_reducible refine LeO.ite ?_ ?_)
  ·intro y0 y1 y2; unfold aI.l1
   repeat' first | (with_reducible exact ih3 _ _ _ _ _ _) | (with_reducible exact LeO.refl _) | (with_reducible refine LeO.ite ?_ ?_)
  ·intro y0 y1 y2 y3 y4 y5; unfold aI.l2
   repeat' first | (with_reducible exact ih2 _ _ _) | (with_reducible exact ih4 _ _ _ _ _ _ _ _ _) | (with_reducible exact LeO.refl _) | (with_reducible refine LeO.ite ?_ ?_) | (with_reducible refine LeO.bind ?_ (fun _ => ?_))
  ·intro y0 y1 y2 y3 y4 y5 y6 y7 y8; unfold aI.j4
   repeat' first | (with_reducible exact ih3 _ _ _ _ _ _) | (with_reducible exact LeO.refl _) | (with_reducible refine LeO.ite ?_ ?_) | (with_reducible refine LeO.bind ?_ (fun _ => ?_))
theorem aI.mono : ∀ a0 a1 a2 a3 a4 k, LeO (aI.f k a0 a1 a2 a3 a4) (aI.f (k + 1) a0 a1 a2 a3 a4) := by
 intro a0 a1 a2 a3 a4 k; obtain ⟨ih0, ih1, ih2, ih3, ih4⟩ := aI.gK k; unfold aI.f
 repeat' first | (with_reducible exact ih0 _ _ _ _ _ _ _ _) | (with_reducible exact LeO.refl _) | (with_reducible refine LeO.ite ?_ ?_)
set_option maxHeartbeats 8000000 in
set_option maxRecDepth 100000 in
theorem aI.calls (k : Nat) (eD : Option Addr) (dR : Nat) (aU : List (S66)) (aY : Int) (bI : Int) (bT : Int) (ek : Option Addr) (dQ : Nat) (aV : List (List (S27))) (r : Int) (w : World) (mO : Kd.C k66 w eD aU.length aU) (ou : aU.length ≤ dR) (mP : Kd.C (Kd.slice 27 k27) w ek aV.length aV) (oD : aV.length ≤ dQ) (h : aI.f k aU aY bI bT aV = some r) :
 Calls Try.prog 40 #[.agg #[.slice eD aU.length dR, .int .i64 aY, .int .i64 bI, .int .i64 bT, .slice ek aV.length dQ]] w fun e w' => e = .returned (.int .i64 r) ∧ Below w.heap.size w w' := by
 have hu25 := Try.underlying25; have hu66 := Try.underlying66; have hu27 := Try.underlying27; have qR := aa.mk mO; have uu := aa.mk ou; clear mO ou; have qU := aa.mk mP; have uh := aa.mk oD; clear mP oD; have HB := aa.mk (Below.refl w.heap.size w); have H : (if (aU.length : Int) = 0 then (some 7) else (if (aU.length : Int) > 4 then (some 6) else (aI.l0 k aU (aU.length : Int) 0 aU aY bI bT aV))) = some r := h; clear h; by_cases c2 : (aU.length : Int) = 0
 ·rw [if_pos c2] at H; have JV : ((aU.length : Int) == 0) = true := beq_iff_eq.mpr c2; have acR : ((aU.length : Int) != 0) = false := bne_eq_false_iff_eq.mpr c2; clear c2; obtain rfl := Option.some.inj H; go_enter Try.func40, Try.ntmps40; go_wp2_with (((with_reducible refine dm (N := 1) rfl ?_); refine dD ?hg (N := 1) ?hd (cs := #[.slice eD aU.length dR, .int .i64 aY, .int .i64 bI, .int .i64 bT, .slice ek aV.length dQ]) (t := 25) ?hr ?_; (case hd => rfl); (case hg => rfl); (case hr => (go_simp; done)); intro lw hg w3 hbox hb; have gY := aa.mk (hbox); have WC := aa.mk ((by rw [hg]; exact (az (by exact HB.out)) : w.heap.size ≤ lw)); have Xv := aa.mk ((by rw [hg]; exact (az (by exact HB.out)) : w.heap.size ≤ lw)); replace HB := aa.mk (ax (by exact HB.out) hb); clear hb hbox hg; obtain ⟨ahE, ahK, agU, ahj, agP, ah1, ahY, ag6, agS, ahw⟩ := cells5 gY.out))
  go_ret
  exact ⟨by rfl, by exact HB.out⟩
 ·rw [if_neg c2] at H; have JV : ((aU.length : Int) == 0) = false := beq_eq_false_iff_ne.mpr c2; have acR : ((aU.length : Int) != 0) = true := bne_iff_ne.mpr c2; (have agV : ¬ (aU = []) := fun h_ => c2 (by rw [h_]; rfl)); by_cases c5 : (aU.length : Int) > 4
  ·rw [if_pos c5] at H; have GV : decide (4 < (aU.length : Int)) = true := decide_eq_true c5; have O5 : decide (4 < aU.length) = true := decide_eq_true (by omega); clear c5; obtain rfl := Option.some.inj H; go_enter Try.func40, Try.ntmps40; go_wp2_with (((with_reducible refine dm (N := 1) rfl ?_); refine dD ?hg (N := 1) ?hd (cs := #[.slice eD aU.length dR, .int .i64 aY, .int .i64 bI, .int .i64 bT, .slice ek aV.length dQ]) (t := 25) ?hr ?_; (case hd => rfl); (case hg => rfl); (case hr => (go_simp; done)); intro lw hg w6 hbox hb; have gY := aa.mk (hbox); have WC := aa.mk ((by rw [hg]; exact (az (by exact HB.out)) : w.heap.size ≤ lw)); have Xv := aa.mk ((by rw [hg]; exact (az (by exact HB.out)) : w.heap.size ≤ lw)); replace HB := aa.mk (ax (by exact HB.out) hb); clear hb hbox hg; obtain ⟨ah5, ahi, ahJ, ahf, ahG, agH, agR, ahh, agt, agv⟩ := cells5 gY.out))
   go_ret
   exact ⟨by rfl, by exact HB.out⟩
  ·rw [if_neg c5] at H; have GV : decide (4 < (aU.length : Int)) = false := decide_eq_false c5; have O5 : decide (4 < aU.length) = false := decide_eq_false (by omega); clear c5; have H' := aa.mk H; clear H; go_enter Try.func40, Try.ntmps40; (go_wp2_with (((with_reducible refine dm (N := 1) rfl ?_); refine dD ?hg (N := 1) ?hd (cs := #[.slice eD aU.length dR, .int .i64 aY, .int .i64 bI, .int .i64 bT, .slice ek aV.length dQ]) (t := 25) ?hr ?_; (case hd => rfl); (case hg => rfl); (case hr => (go_simp; done)); intro lw hg w8 hbox hb; have gY := aa.mk (hbox); have WC := aa.mk ((by rw [hg]; exact (az (by exact HB.out)) : w.heap.size ≤ lw)); have Xv := aa.mk ((by rw [hg]; exact (az (by exact HB.out)) : w.heap.size ≤ lw)); replace HB := aa.mk (ax (by exact HB.out) hb); clear hb hbox hg; obtain ⟨Q3, Pg, Zo, YE, YX, Rw, QI, X5, Y4, XW⟩ := cells5 gY.out))); (go_loopg [23] k (fun kq v23 w' => ∃ (iy : Int), v23 = .int .i64 iy ∧ aa (aI.l0 kq aU (aU.length : Int) iy aU aY bI bT aV = some r) ∧ aa (kq ≤ k) ∧ aa (w'.heap[lw]? = some (.cells #[(.slice eD aU.length dR), .int .i64 aY, .int .i64 bI, .int .i64 bT, (.slice ek aV.length dQ)] 25 (0, 0))) ∧ aa (Below w.heap.size w w'))); case atStart => exact ⟨(0), (by rfl), H', ⟨Nat.le_refl _⟩, ⟨by (with_reducible skip); exact gY.out⟩, ⟨by exact HB.out⟩⟩
   case round =>
    clear H' c2 JV acR agV GV O5 Q3 Pg Zo YE YX Rw QI X5 Y4 XW; obtain ⟨iy, rfl, HA, HK1, gY, HB⟩ := hrel
    cases gk with
    | zero => exact absurd HA.out (by simp [aI.l0])
    | succ k1 =>
     have H := HA.out; clear HA; simp only [aI.l0] at H; by_cases c10 : iy < (aU.length : Int)
     ·rw [if_pos c10] at H; have zW : decide (iy < (aU.length : Int)) = true := decide_eq_true c10; clear c10; by_cases c11 : 0 ≤ iy
      ·rw [if_pos c11] at H; have EG : decide (0 ≤ iy) = true := decide_eq_true c11; clear c11; by_cases c12 : iy < (aU.length : Int)
       ·rw [if_pos c12] at H; have xn : decide (iy < (aU.length : Int)) = true := decide_eq_true c12; clear c12; replace H := Option.bind_eq_some_iff.mp H; obtain ⟨En, acG, H⟩ := H; have A13 := aa.mk acG; clear acG; by_cases c14 : En = 0
        ·rw [if_pos c14] at H; have Aq : (En == 0) = true := beq_iff_eq.mpr c14; have Iw : (En != 0) = false := bne_eq_false_iff_eq.mpr c14; clear c14; have H' := aa.mk H; clear H; have Jt : 0 ≤ (iy : Int) := of_decide_eq_true (by with_reducible assumption); have KQ : iy < (aU.length : Int) := of_decide_eq_true (by with_reducible assumption); obtain ⟨Ci, A112_2, c112_2, e112, uI, uP, uL, yn, ym⟩ := qm qR.out iy Jt KQ; cases e112; replace uI := (HB.out.cell (World.block_lt_of_cell? w _ uI)).trans uI; replace uP := (HB.out.cell (World.block_lt_of_cell? w _ uP)).trans uP; replace uL := (HB.out.cell (World.block_lt_of_cell? w _ uL)).trans uL; have Gi := aa.mk ym; have Gy := aa.mk yn; clear ym yn; replace Jt := eq_true Jt; replace KQ := eq_true KQ; (go_wp2_with (first | ((with_reducible refine dm (N := 4) rfl ?_); refine dD ?hg (N := 4) ?hd (cs := #[.int .i64 0, .int .i64 0, .slice none 0 0]) (t := 66) ?hr ?_; (case hd => rfl); (case hg => rfl); (case hr => (go_simp; done)); intro vo hg w15 hbox hb; have DW := aa.mk (hbox); have acS := aa.mk ((by rw [hg]; exact (az (by exact HB.out)) : w.heap.size ≤ vo)); have H5 := aa.mk ((by rw [hg]; exact (az (by exact HB.out)) : w.heap.size ≤ vo)); replace HB := aa.mk (ax (by exact HB.out) hb); have nH := aa.mk ((by rw [hg]; exact Nat.ne_of_lt (bW (g := lw) (o := .cells #[.slice (some Ci) aU.length dR, .int .i64 aY, .int .i64 bI, .int .i64 bT, .slice ek aV.length dQ] 25 (0, 0)) (bU gY.out)) : lw ≠ vo)); have zM := aa.mk ((by rw [hg]; exact Nat.ne_of_gt (bW (g := lw) (o := .cells #[.slice (some Ci) aU.length dR, .int .i64 aY, .int .i64 bI, .int .i64 bT, .slice ek aV.length dQ] 25 (0, 0)) (bU gY.out)) : vo ≠ lw)); replace gY := aa.mk (au (bU gY.out) hb); clear hb hbox hg; have aiL := zM.out; have aiu := nH.out; obtain ⟨Lm, LX, LV, MK, Lb, Md⟩ := cells3 DW.out) | ((with_reducible refine bH (f := 63) rfl ?_); refine eO (some 28) rfl rfl Try.func63 (by kernel_rfl) rfl #[.agg #[.int .i64 ((ah aU iy).f0.f0), .int .i64 ((ah aU iy).f0.f1), .slice A112_2 ((ah aU iy).f1).length c112_2]] rfl (by (simp only [List.map_toArray, List.map_cons, List.map_nil]); rfl) ?_; (with_reducible refine (aA.calls k1 ((ah aU iy).f0.f0) ((ah aU iy).f0.f1) _ _ ((ah aU iy).f1) En _ ?side1 ?side2 A13.out).mono ?_); (case side1 => exact Kd.aX Gi.out (by repeat ((with_reducible first | exact HB.out | refine df ?_ H5.out)))); (case side2 => exact Gy.out); rintro e w18 ⟨rfl, hb⟩; refine ⟨_, rfl, ?_⟩; replace gY := aa.mk (au (g := lw) (o := .cells #[.slice (some Ci) aU.length dR, .int .i64 aY, .int .i64 bI, .int .i64 bT, .slice ek aV.length dQ] 25 (0, 0)) (by (with_reducible skip); refine bA ?_ nH.out _; (with_reducible skip); refine bA ?_ nH.out _; (with_reducible skip); refine bA ?_ nH.out _; (with_reducible skip); exact gY.out) hb); replace DW := aa.mk (au (g := vo) (o := .cells #[.int .i64 ((ah aU iy).f0.f0), .int .i64 ((ah aU iy).f0.f1), .slice A112_2 ((ah aU iy).f1).length c112_2] 66 (0, 0)) (by (with_reducible skip); refine bS (cs := #[.int .i64 ((ah aU iy).f0.f0), .int .i64 ((ah aU iy).f0.f1), .slice none 0 0]) ?_ 2 _ rfl; (with_reducible skip); refine bS (cs := #[.int .i64 ((ah aU iy).f0.f0), .int .i64 0, .slice none 0 0]) ?_ 1 _ rfl; (with_reducible skip); refine bS (cs := #[.int .i64 0, .int .i64 0, .slice none 0 0]) ?_ 0 _ rfl; (with_reducible skip); exact DW.out) hb); replace HB := aa.mk (ax (by repeat ((with_reducible first | exact HB.out | refine df ?_ H5.out))) hb); (clear hb)))); go_roundg k1; (case measure => have := HK1.out; omega); case rel => exact ⟨(wrap64 (iy + 1)), (by rfl), H', ⟨by have := HK1.out; omega⟩, ⟨by (with_reducible skip); exact gY.out⟩, ⟨by exact HB.out⟩⟩
        ·rw [if_neg c14] at H; have Aq : (En == 0) = false := beq_eq_false_iff_ne.mpr c14; have Iw : (En != 0) = true := bne_iff_ne.mpr c14; obtain rfl := Option.some.inj H; have Jt : 0 ≤ (iy : Int) := of_decide_eq_true (by with_reducible assumption); have KQ : iy < (aU.length : Int) := of_decide_eq_true (by with_reducible assumption); obtain ⟨Ci, A112_2, c112_2, e112, uI, uP, uL, yn, ym⟩ := qm qR.out iy Jt KQ; cases e112; replace uI := (HB.out.cell (World.block_lt_of_cell? w _ uI)).trans uI; replace uP := (HB.out.cell (World.block_lt_of_cell? w _ uP)).trans uP; replace uL := (HB.out.cell (World.block_lt_of_cell? w _ uL)).trans uL; have Gi := aa.mk ym; have Gy := aa.mk yn; clear ym yn; replace Jt := eq_true Jt; replace KQ := eq_true KQ; go_wp2_with (first | ((with_reducible refine dm (N := 4) rfl ?_); refine dD ?hg (N := 4) ?hd (cs := #[.int .i64 0, .int .i64 0, .slice none 0 0]) (t := 66) ?hr ?_; (case hd => rfl); (case hg => rfl); (case hr => (go_simp; done)); intro vo hg w19 hbox hb; have DW := aa.mk (hbox); have acS := aa.mk ((by rw [hg]; exact (az (by exact HB.out)) : w.heap.size ≤ vo)); have H5 := aa.mk ((by rw [hg]; exact (az (by exact HB.out)) : w.heap.size ≤ vo)); replace HB := aa.mk (ax (by exact HB.out) hb); have nH := aa.mk ((by rw [hg]; exact Nat.ne_of_lt (bW (g := lw) (o := .cells #[.slice (some Ci) aU.length dR, .int .i64 aY, .int .i64 bI, .int .i64 bT, .slice ek aV.length dQ] 25 (0, 0)) (bU gY.out)) : lw ≠ vo)); have zM := aa.mk ((by rw [hg]; exact Nat.ne_of_gt (bW (g := lw) (o := .cells #[.slice (some Ci) aU.length dR, .int .i64 aY, .int .i64 bI, .int .i64 bT, .slice ek aV.length dQ] 25 (0, 0)) (bU gY.out)) : vo ≠ lw)); replace gY := aa.mk (au (bU gY.out) hb); clear hb hbox hg; have ajh := zM.out; have ain := nH.out; obtain ⟨Uh, Tg, TC, VD, UU, SE⟩ := cells3 DW.out) | ((with_reducible refine bH (f := 63) rfl ?_); refine eO (some 28) rfl rfl Try.func63 (by kernel_rfl) rfl #[.agg #[.int .i64 ((ah aU iy).f0.f0), .int .i64 ((ah aU iy).f0.f1), .slice A112_2 ((ah aU iy).f1).length c112_2]] rfl (by (simp only [List.map_toArray, List.map_cons, List.map_nil]); rfl) ?_; (with_reducible refine (aA.calls k1 ((ah aU iy).f0.f0) ((ah aU iy).f0.f1) _ _ ((ah aU iy).f1) En _ ?side1 ?side2 A13.out).mono ?_); (case side1 => exact Kd.aX Gi.out (by repeat ((with_reducible first | exact HB.out | refine df ?_ H5.out)))); (case side2 => exact Gy.out); rintro e w22 ⟨rfl, hb⟩; refine ⟨_, rfl, ?_⟩; replace gY := aa.mk (au (g := lw) (o := .cells #[.slice (some Ci) aU.length dR, .int .i64 aY, .int .i64 bI, .int .i64 bT, .slice ek aV.length dQ] 25 (0, 0)) (by (with_reducible skip); refine bA ?_ nH.out _; (with_reducible skip); refine bA ?_ nH.out _; (with_reducible skip); refine bA ?_ nH.out _; (with_reducible skip); exact gY.out) hb); replace DW := aa.mk (au (g := vo) (o := .cells #[.int .i64 ((ah aU iy).f0.f0), .int .i64 ((ah aU iy).f0.f1), .slice A112_2 ((ah aU iy).f1).length c112_2] 66 (0, 0)) (by (with_reducible skip); refine bS (cs := #[.int .i64 ((ah aU iy).f0.f0), .int .i64 ((ah aU iy).f0.f1), .slice none 0 0]) ?_ 2 _ rfl; (with_reducible skip); refine bS (cs := #[.int .i64 ((ah aU iy).f0.f0), .int .i64 0, .slice none 0 0]) ?_ 1 _ rfl; (with_reducible skip); refine bS (cs := #[.int .i64 0, .int .i64 0, .slice none 0 0]) ?_ 0 _ rfl; (with_reducible skip); exact DW.out) hb); replace HB := aa.mk (ax (by repeat ((with_reducible first | exact HB.out | refine df ?_ H5.out))) hb); (clear hb)))
         go_ret
         exact ⟨by rfl, by exact HB.out⟩
       ·rw [if_neg c12] at H; exact absurd H (by simp)
      ·rw [if_neg c11] at H; exact absurd H (by simp)
     ·rw [if_neg c10] at H; have zW : decide (iy < (aU.length : Int)) = false := decide_eq_false c10; clear c10; replace H := Option.bind_eq_some_iff.mp H; obtain ⟨Oz, aan, H⟩ := H; have A23 := aa.mk aan; clear aan; have Zi := aa.mk H; clear H; obtain ⟨Tv, Wm, Ud, Tj, V3, VH, Te, SK, V4, Ug⟩ := cells5 gY.out; (go_upto_if 33 with (((with_reducible refine bH (f := 64) rfl ?_); refine eO (some 36) rfl rfl Try.func64 (by kernel_rfl) rfl #[.int .i64 aY, .int .i64 0, .int .i64 10] rfl (by (simp only [List.map_toArray, List.map_cons, List.map_nil]); rfl) ?_; (with_reducible refine (eG.calls aY 0 10 Oz _ A23.out).mono ?_); rintro e w' ⟨rfl, ⟨nd, rfl⟩⟩; refine ⟨_, rfl, ?_⟩))); (skip); go_cut [33] (fun v33 wc => ∃ (kq : Nat) (Gx : Bool), v33 = .bool Gx ∧ aa (aI.j1 kq Gx aU aY bI bT aV = some r) ∧ aa (kq ≤ k1) ∧ aa (wc.heap[lw]? = some (.cells #[(.slice eD aU.length dR), .int .i64 aY, .int .i64 bI, .int .i64 bT, (.slice ek aV.length dQ)] 25 (0, 0))) ∧ aa (Below w.heap.size w wc))
      case first =>
       have H := Zi.out; clear Zi; by_cases c26 : Oz = true
       ·subst c26; rw [if_pos rfl] at H; replace H := Option.bind_eq_some_iff.mp H; obtain ⟨Ul, abm, H⟩ := H; have A27 := aa.mk abm; clear abm; by_cases c28 : Ul = true
        ·subst c28; rw [if_pos rfl] at H; replace H := Option.bind_eq_some_iff.mp H; obtain ⟨U3, abb, H⟩ := H; have A29 := aa.mk abb; clear abb; have H' := aa.mk H; clear H; obtain ⟨adG, adB, aeT, afN, aer, ae7, afu, afr, adK, aei⟩ := cells5 gY.out; (go_wp2_with (first | ((with_reducible refine bH (f := 64) rfl ?_); refine eO (some 40) rfl rfl Try.func64 (by kernel_rfl) rfl #[.int .i64 bI, .int .i64 0, .int .i64 10] rfl (by (simp only [List.map_toArray, List.map_cons, List.map_nil]); rfl) ?_; (with_reducible refine (eG.calls bI 0 10 true _ A27.out).mono ?_); rintro e w' ⟨rfl, ⟨nd, rfl⟩⟩; refine ⟨_, rfl, ?_⟩) | ((with_reducible refine bH (f := 64) rfl ?_); refine eO (some 44) rfl rfl Try.func64 (by kernel_rfl) rfl #[.int .i64 bT, .int .i64 0, .int .i64 40] rfl (by (simp only [List.map_toArray, List.map_cons, List.map_nil]); rfl) ?_; (with_reducible refine (eG.calls bT 0 40 U3 _ A29.out).mono ?_); rintro e w' ⟨rfl, ⟨nd, rfl⟩⟩; refine ⟨_, rfl, ?_⟩))); go_meet; case rel => exact ⟨_, (!U3), (by rfl), H', ⟨by have := HK1.out; omega⟩, ⟨by (with_reducible repeat (refine fC ?_ _)); exact gY.out⟩, ⟨by exact lU HB.out⟩⟩
        ·replace c28 := Bool.eq_false_iff.mpr c28; subst c28; rw [if_neg (show ¬ (false = true) by decide)] at H; have H' := aa.mk H; clear H; obtain ⟨Uo, Vt, VF, afz, aeA, UF, Wj, Uz, afa, adQ⟩ := cells5 gY.out; (go_wp2_with (((with_reducible refine bH (f := 64) rfl ?_); refine eO (some 40) rfl rfl Try.func64 (by kernel_rfl) rfl #[.int .i64 bI, .int .i64 0, .int .i64 10] rfl (by (simp only [List.map_toArray, List.map_cons, List.map_nil]); rfl) ?_; (with_reducible refine (eG.calls bI 0 10 false _ A27.out).mono ?_); rintro e w' ⟨rfl, ⟨nd, rfl⟩⟩; refine ⟨_, rfl, ?_⟩))); go_meet; case rel => exact ⟨_, (!false), (by rfl), H', ⟨by have := HK1.out; omega⟩, ⟨by (with_reducible repeat (refine fC ?_ _)); exact gY.out⟩, ⟨by exact lU HB.out⟩⟩
       ·replace c26 := Bool.eq_false_iff.mpr c26; subst c26; rw [if_neg (show ¬ (false = true) by decide)] at H; have H' := aa.mk H; clear H; go_wp2; go_meet; case rel => exact ⟨_, (!false), (by rfl), H', ⟨by have := HK1.out; omega⟩, ⟨by (with_reducible repeat (refine fC ?_ _)); exact gY.out⟩, ⟨by exact lU HB.out⟩⟩
      case rest =>
       clear Zi zW Tv Wm Ud Tj V3 VH Te SK V4 Ug; obtain ⟨kq, Gx, rfl, HA, HJ23, gY, HB⟩ := hcut
       cases kq with
       | zero => exact absurd HA.out (by simp [aI.j1])
       | succ kj23 =>
        have H := HA.out; clear HA; simp only [aI.j1] at H; by_cases c32 : Gx = true
        ·subst c32; rw [if_pos rfl] at H; obtain rfl := Option.some.inj H; go_wp2
         go_ret
         exact ⟨by rfl, by exact HB.out⟩
        ·replace c32 := Bool.eq_false_iff.mpr c32; subst c32; rw [if_neg (show ¬ (false = true) by decide)] at H; by_cases c33 : (aV.length : Int) = 0
         ·rw [if_pos c33] at H; have O1 : ((aV.length : Int) == 0) = true := beq_iff_eq.mpr c33; have Xm : ((aV.length : Int) != 0) = false := bne_eq_false_iff_eq.mpr c33; clear c33; obtain rfl := Option.some.inj H; obtain ⟨afh, aed, aeR, afF, aft, adJ, aev, adM, aeI, afC⟩ := cells5 gY.out; go_wp2
          go_ret
          exact ⟨by rfl, by exact HB.out⟩
         ·rw [if_neg c33] at H; have O1 : ((aV.length : Int) == 0) = false := beq_eq_false_iff_ne.mpr c33; have Xm : ((aV.length : Int) != 0) = true := bne_iff_ne.mpr c33; (have ab6 : ¬ (aV = []) := fun h_ => c33 (by rw [h_]; rfl)); by_cases c35 : (aV.length : Int) > 8
          ·rw [if_pos c35] at H; have Xk : decide (8 < (aV.length : Int)) = true := decide_eq_true c35; have WJ : decide (8 < aV.length) = true := decide_eq_true (by omega); clear c35; obtain rfl := Option.some.inj H; obtain ⟨Ws, U5, ady, aeJ, adS, TH, S9, ad4, afT, afI⟩ := cells5 gY.out; go_wp2
           go_ret
           exact ⟨by rfl, by exact HB.out⟩
          ·rw [if_neg c35] at H; have Xk : decide (8 < (aV.length : Int)) = false := decide_eq_false c35; have WJ : decide (8 < aV.length) = false := decide_eq_false (by omega); clear c35; have H' := aa.mk H; clear H; obtain ⟨wM, wS, wZ, GD, GR, wV, xc, wL, GG, Fp⟩ := cells5 gY.out; go_wp2; (go_loopg [59] kj23 (fun kq v59 w' => ∃ (gm : Int), v59 = .int .i64 gm ∧ aa (aI.l1 kq aV (aV.length : Int) gm = some r) ∧ aa (kq ≤ kj23) ∧ aa (w'.heap[lw]? = some (.cells #[(.slice eD aU.length dR), .int .i64 aY, .int .i64 bI, .int .i64 bT, (.slice ek aV.length dQ)] 25 (0, 0))) ∧ aa (Below w.heap.size w w'))); case atStart => exact ⟨(0), (by rfl), H', ⟨Nat.le_refl _⟩, ⟨by (with_reducible skip); exact gY.out⟩, ⟨by exact HB.out⟩⟩
           case round =>
            clear H' c33 O1 Xm ab6 Xk WJ wM wS wZ GD GR wV xc wL GG Fp; obtain ⟨gm, rfl, HA, HK3, gY, HB⟩ := hrel
            cases gk with
            | zero => exact absurd HA.out (by simp [aI.l1])
            | succ k3 =>
             have H := HA.out; clear HA; simp only [aI.l1] at H; by_cases c38 : gm < (aV.length : Int)
             ·rw [if_pos c38] at H; have WU : decide (gm < (aV.length : Int)) = true := decide_eq_true c38; clear c38; by_cases c39 : 0 ≤ gm
              ·rw [if_pos c39] at H; have Z7 : decide (0 ≤ gm) = true := decide_eq_true c39; clear c39; by_cases c40 : gm < (aV.length : Int)
               ·rw [if_pos c40] at H; have aaE : decide (gm < (aV.length : Int)) = true := decide_eq_true c40; clear c40; by_cases c41 : ((cu aV gm).length : Int) > 4
                ·rw [if_pos c41] at H; have XH : decide (4 < ((cu aV gm).length : Int)) = true := decide_eq_true c41; have WT : decide (4 < (cu aV gm).length) = true := decide_eq_true (by omega); clear c41; obtain rfl := Option.some.inj H; have Jl : 0 ≤ (gm : Int) := of_decide_eq_true (by with_reducible assumption); have Hl : gm < (aV.length : Int) := of_decide_eq_true (by with_reducible assumption); obtain ⟨I8, A118_0, c118_0, e118, sJ, yC, yQ⟩ := xz qU.out gm Jl Hl; cases e118; replace sJ := (HB.out.cell (World.block_lt_of_cell? w _ sJ)).trans sJ; have MI := aa.mk yQ; have SY := aa.mk yC; clear yQ yC; replace Jl := eq_true Jl; replace Hl := eq_true Hl; go_wp2
                 go_ret
                 exact ⟨by rfl, by exact HB.out⟩
                ·rw [if_neg c41] at H; have XH : decide (4 < ((cu aV gm).length : Int)) = false := decide_eq_false c41; have WT : decide (4 < (cu aV gm).length) = false := decide_eq_false (by omega); clear c41; have H' := aa.mk H; clear H; have Jl : 0 ≤ (gm : Int) := of_decide_eq_true (by with_reducible assumption); have Hl : gm < (aV.length : Int) := of_decide_eq_true (by with_reducible assumption); obtain ⟨I8, A118_0, c118_0, e118, sJ, yC, yQ⟩ := xz qU.out gm Jl Hl; cases e118; replace sJ := (HB.out.cell (World.block_lt_of_cell? w _ sJ)).trans sJ; have MI := aa.mk yQ; have SY := aa.mk yC; clear yQ yC; replace Jl := eq_true Jl; replace Hl := eq_true Hl; go_wp2; (go_loopg [68] k3 (fun kq v68 w' => ∃ (jM : Int), v68 = .int .i64 jM ∧ aa (aI.l2 kq aV (aV.length : Int) gm (cu aV gm) ((cu aV gm).length : Int) jM = some r) ∧ aa (kq ≤ k3) ∧ aa (w'.heap[lw]? = some (.cells #[(.slice eD aU.length dR), .int .i64 aY, .int .i64 bI, .int .i64 bT, (.slice (some I8) aV.length dQ)] 25 (0, 0))) ∧ aa (Below w.heap.size w w'))); case atStart => exact ⟨(0), (by rfl), H', ⟨Nat.le_refl _⟩, ⟨by (with_reducible skip); exact gY.out⟩, ⟨by exact HB.out⟩⟩
                 case round =>
                  clear H' WU Z7 aaE XH WT sJ Jl Hl; obtain ⟨jM, rfl, HA, HK4, gY, HB⟩ := hrel
                  cases gk with
                  | zero => exact absurd HA.out (by simp [aI.l2])
                  | succ k4 =>
                   have H := HA.out; clear HA; simp only [aI.l2] at H; by_cases c42 : jM < ((cu aV gm).length : Int)
                   ·rw [if_pos c42] at H; have WP : decide (jM < ((cu aV gm).length : Int)) = true := decide_eq_true c42; clear c42; by_cases c43 : 0 ≤ jM
                    ·rw [if_pos c43] at H; have ac9 : decide (0 ≤ jM) = true := decide_eq_true c43; clear c43; by_cases c44 : jM < ((cu aV gm).length : Int)
                     ·rw [if_pos c44] at H; have acb : decide (jM < ((cu aV gm).length : Int)) = true := decide_eq_true c44; clear c44; replace H := Option.bind_eq_some_iff.mp H; obtain ⟨Po, abD, H⟩ := H; have A45 := aa.mk abD; clear abD; have ZB := aa.mk H; clear H; have T9 : 0 ≤ (jM : Int) := of_decide_eq_true (by with_reducible assumption); have Vv : jM < ((cu aV gm).length : Int) := of_decide_eq_true (by with_reducible assumption); obtain ⟨ajj, e119, Bj, Bv⟩ := vB MI.out jM T9 Vv; cases e119; replace Bj := (HB.out.cell (World.block_lt_of_cell? w _ Bj)).trans Bj; replace Bv := (HB.out.cell (World.block_lt_of_cell? w _ Bv)).trans Bv; replace T9 := eq_true T9; replace Vv := eq_true Vv; (go_upto_if 72 with (first | ((with_reducible refine dm (N := 9) rfl ?_); refine dD ?hg (N := 9) ?hd (cs := #[.int .i64 0, .int .i64 0]) (t := 27) ?hr ?_; (case hd => rfl); (case hg => rfl); (case hr => (go_simp; done)); intro Jo hg w47 hbox hb; have Dh := aa.mk (hbox); have ajs := aa.mk ((by rw [hg]; exact (az (by exact HB.out)) : w.heap.size ≤ Jo)); have WF := aa.mk ((by rw [hg]; exact (az (by exact HB.out)) : w.heap.size ≤ Jo)); replace HB := aa.mk (ax (by exact HB.out) hb); have oN := aa.mk ((by rw [hg]; exact Nat.ne_of_lt (bW (g := lw) (o := .cells #[.slice eD aU.length dR, .int .i64 aY, .int .i64 bI, .int .i64 bT, .slice (some I8) aV.length dQ] 25 (0, 0)) (bU gY.out)) : lw ≠ Jo)); have wR := aa.mk ((by rw [hg]; exact Nat.ne_of_gt (bW (g := lw) (o := .cells #[.slice eD aU.length dR, .int .i64 aY, .int .i64 bI, .int .i64 bT, .slice (some I8) aV.length dQ] 25 (0, 0)) (bU gY.out)) : Jo ≠ lw)); replace gY := aa.mk (au (bU gY.out) hb); clear hb hbox hg; have aiM := wR.out; have aiW := oN.out; obtain ⟨UI, TB, TF, TM⟩ := mH Dh.out) | ((with_reducible refine bH (f := 64) rfl ?_); refine eO (some 75) rfl rfl Try.func64 (by kernel_rfl) rfl #[.int .i64 ((eB (cu aV gm) jM).f0), .int .i64 0, .int .i64 1023] rfl (by (simp only [List.map_toArray, List.map_cons, List.map_nil]); rfl) ?_; (with_reducible refine (eG.calls ((eB (cu aV gm) jM).f0) 0 1023 Po _ A45.out).mono ?_); rintro e w' ⟨rfl, ⟨nd, rfl⟩⟩; refine ⟨_, rfl, ?_⟩))); (skip); go_cut [72] (fun v72 wc => ∃ (kq : Nat) (Gu : Bool), v72 = .bool Gu ∧ aa (aI.j4 kq aV (aV.length : Int) gm (cu aV gm) ((cu aV gm).length : Int) jM Gu ((eB (cu aV gm) jM).f0) ((eB (cu aV gm) jM).f1) = some r) ∧ aa (kq ≤ k4) ∧ aa (wc.heap[lw]? = some (.cells #[(.slice eD aU.length dR), .int .i64 aY, .int .i64 bI, .int .i64 bT, (.slice (some I8) aV.length dQ)] 25 (0, 0))) ∧ aa (wc.heap[Jo]? = some (.cells #[.int .i64 ((eB (cu aV gm) jM).f0), .int .i64 ((eB (cu aV gm) jM).f1)] 27 (0, 0))) ∧ aa (Below w.heap.size w wc))
                      case first =>
                       have H := ZB.out; clear ZB; by_cases c50 : Po = true
                       ·subst c50; rw [if_pos rfl] at H; replace H := Option.bind_eq_some_iff.mp H; obtain ⟨Ty, RA, H⟩ := H; have A51 := aa.mk RA; clear RA; have H' := aa.mk H; clear H; have ai3 := wR.out; have aiQ := oN.out; obtain ⟨aeO, adw, afv, ad8⟩ := mH Dh.out; (go_wp2_with (((with_reducible refine bH (f := 64) rfl ?_); refine eO (some 79) rfl rfl Try.func64 (by kernel_rfl) rfl #[.int .i64 ((eB (cu aV gm) jM).f1), .int .i64 0, .int .i64 1023] rfl (by (simp only [List.map_toArray, List.map_cons, List.map_nil]); rfl) ?_; (with_reducible refine (eG.calls ((eB (cu aV gm) jM).f1) 0 1023 Ty _ A51.out).mono ?_); rintro e w' ⟨rfl, ⟨nd, rfl⟩⟩; refine ⟨_, rfl, ?_⟩))); go_meet; case rel => exact ⟨_, (!Ty), (by rfl), H', ⟨by have := HK1.out; have := HJ23.out; have := HK3.out; have := HK4.out; omega⟩, ⟨by (with_reducible repeat (refine fC ?_ _)); refine bA ?_ oN.out _; (with_reducible skip); refine bA ?_ oN.out _; (with_reducible skip); exact gY.out⟩, ⟨by (with_reducible repeat (refine fC ?_ _)); refine bS (cs := #[.int .i64 ((eB (cu aV gm) jM).f0), .int .i64 0]) ?_ 1 _ rfl; (with_reducible skip); refine bS (cs := #[.int .i64 0, .int .i64 0]) ?_ 0 _ rfl; (with_reducible skip); exact Dh.out⟩, ⟨by repeat ((with_reducible first | exact HB.out | apply dn | refine df ?_ WF.out))⟩⟩
                       ·replace c50 := Bool.eq_false_iff.mpr c50; subst c50; rw [if_neg (show ¬ (false = true) by decide)] at H; have H' := aa.mk H; clear H; go_wp2; go_meet; case rel => exact ⟨_, (!false), (by rfl), H', ⟨by have := HK1.out; have := HJ23.out; have := HK3.out; have := HK4.out; omega⟩, ⟨by (with_reducible repeat (refine fC ?_ _)); refine bA ?_ oN.out _; (with_reducible skip); refine bA ?_ oN.out _; (with_reducible skip); exact gY.out⟩, ⟨by (with_reducible repeat (refine fC ?_ _)); refine bS (cs := #[.int .i64 ((eB (cu aV gm) jM).f0), .int .i64 0]) ?_ 1 _ rfl; (with_reducible skip); refine bS (cs := #[.int .i64 0, .int .i64 0]) ?_ 0 _ rfl; (with_reducible skip); exact Dh.out⟩, ⟨by repeat ((with_reducible first | exact HB.out | apply dn | refine df ?_ WF.out))⟩⟩
                      case rest =>
                       clear ZB WP ac9 acb UI TB TF TM Bj Bv T9 Vv; obtain ⟨kq, Gu, rfl, HA, HJ45, gY, Dh, HB⟩ := hcut
                       cases kq with
                       | zero => exact absurd HA.out (by simp [aI.j4])
                       | succ kj45 =>
                        have H := HA.out; clear HA; simp only [aI.j4] at H; by_cases c54 : Gu = true
                        ·subst c54; rw [if_pos rfl] at H; obtain rfl := Option.some.inj H; go_wp2
                         go_ret
                         exact ⟨by rfl, by exact HB.out⟩
                        ·replace c54 := Bool.eq_false_iff.mpr c54; subst c54; rw [if_neg (show ¬ (false = true) by decide)] at H; replace H := Option.bind_eq_some_iff.mp H; obtain ⟨GQ, O7, H⟩ := H; have A55 := aa.mk O7; clear O7; by_cases c56 : GQ = 0
                         ·rw [if_pos c56] at H; have abf : (GQ == 0) = true := beq_iff_eq.mpr c56; have abR : (GQ != 0) = false := bne_eq_false_iff_eq.mpr c56; clear c56; have H' := aa.mk H; clear H; have ajk := wR.out; have aiY := oN.out; obtain ⟨adP, adR, af0, aeU⟩ := mH Dh.out; (go_wp2_with (((with_reducible refine bH (f := 65) rfl ?_); refine eO (some 86) rfl rfl Try.func65 (by kernel_rfl) rfl #[.int .i64 ((eB (cu aV gm) jM).f1), .int .i64 ((eB (cu aV gm) jM).f0)] rfl (by (simp only [List.map_toArray, List.map_cons, List.map_nil]); rfl) ?_; (with_reducible refine (fD.calls ((eB (cu aV gm) jM).f1) ((eB (cu aV gm) jM).f0) GQ _ A55.out).mono ?_); rintro e w' ⟨rfl, ⟨nd, rfl⟩⟩; refine ⟨_, rfl, ?_⟩))); go_roundg kj45; (case measure => have := HK1.out; have := HJ23.out; have := HK3.out; have := HK4.out; have := HJ45.out; omega); case rel => exact ⟨(wrap64 (jM + 1)), (by rfl), H', ⟨by have := HK1.out; have := HJ23.out; have := HK3.out; have := HK4.out; have := HJ45.out; omega⟩, ⟨by (with_reducible repeat (refine fC ?_ _)); exact gY.out⟩, ⟨by exact lU HB.out⟩⟩
                         ·rw [if_neg c56] at H; have abf : (GQ == 0) = false := beq_eq_false_iff_ne.mpr c56; have abR : (GQ != 0) = true := bne_iff_ne.mpr c56; obtain rfl := Option.some.inj H; have Sw := wR.out; have Qa := oN.out; obtain ⟨adW, aeq, ae2, afp⟩ := mH Dh.out; go_wp2_with (((with_reducible refine bH (f := 65) rfl ?_); refine eO (some 86) rfl rfl Try.func65 (by kernel_rfl) rfl #[.int .i64 ((eB (cu aV gm) jM).f1), .int .i64 ((eB (cu aV gm) jM).f0)] rfl (by (simp only [List.map_toArray, List.map_cons, List.map_nil]); rfl) ?_; (with_reducible refine (fD.calls ((eB (cu aV gm) jM).f1) ((eB (cu aV gm) jM).f0) GQ _ A55.out).mono ?_); rintro e w' ⟨rfl, ⟨nd, rfl⟩⟩; refine ⟨_, rfl, ?_⟩))
                          go_ret
                          exact ⟨by rfl, by exact lU HB.out⟩
                     ·rw [if_neg c44] at H; exact absurd H (by simp)
                    ·rw [if_neg c43] at H; exact absurd H (by simp)
                   ·rw [if_neg c42] at H; have WP : decide (jM < ((cu aV gm).length : Int)) = false := decide_eq_false c42; clear c42; have H' := aa.mk H; clear H; go_wp2; go_roundg k4; (case measure => have := HK1.out; have := HJ23.out; have := HK3.out; have := HK4.out; omega); case rel => exact ⟨(wrap64 (gm + 1)), (by rfl), H', ⟨by have := HK1.out; have := HJ23.out; have := HK3.out; have := HK4.out; omega⟩, ⟨by (with_reducible skip); exact gY.out⟩, ⟨by exact HB.out⟩⟩
               ·rw [if_neg c40] at H; exact absurd H (by simp)
              ·rw [if_neg c39] at H; exact absurd H (by simp)
             ·rw [if_neg c38] at H; have WU : decide (gm < (aV.length : Int)) = false := decide_eq_false c38; clear c38; obtain rfl := Option.some.inj H; go_wp2
              go_ret
              exact ⟨by rfl, by exact HB.out⟩
mutual
def di.l0 : Nat → List (S27) → Int → Int → Bool → List (S27) → Int → Int → Option (Int × Int × Bool)
 | 0, _, _, _, _, _, _, _ => none
 | k + 1, x0, x2, x3, x4, x9, x10, x11 => if x11 < x10 then (if 0 ≤ x11 then (if x11 < (x9.length : Int) then (di.l0 k x0 (Go.bits .or .i64 x2 ((eB x9 x11).f0)) (Go.bits .or .i64 x3 ((eB x9 x11).f1)) x4 x9 x10 (wrap64 (x11 + 1))) else (none)) else (none)) else (di.l1 k x2 x3 x4 x0 (x0.length : Int) 0)
def di.l1 : Nat → Int → Int → Bool → List (S27) → Int → Int → Option (Int × Int × Bool)
 | 0, _, _, _, _, _, _ => none
 | k + 1, x2, x3, x4, x24, x25, x26 => if x26 < x25 then (if 0 ≤ x26 then (if x26 < (x24.length : Int) then (if x4 = true then (di.l1 k x2 x3 ((Go.bits .and .i64 x3 ((eB x24 x26).f0)) == ((eB x24 x26).f1)) x24 x25 (wrap64 (x26 + 1))) else (di.l1 k x2 x3 false x24 x25 (wrap64 (x26 + 1)))) else (none)) else (none)) else (some (x2, x3, x4))
end
def di.f (k : Nat) (l0 : List (S27)) : Option (Int × Int × Bool) := di.l0 k l0 0 0 true l0 (l0.length : Int) 0
theorem di.gK : ∀ k, (∀ y0 y1 y2 y3 y4 y5 y6, LeO (di.l0 k y0 y1 y2 y3 y4 y5 y6) (di.l0 (k + 1) y0 y1 y2 y3 y4 y5 y6)) ∧ (∀ y0 y1 y2 y3 y4 y5, LeO (di.l1 k y0 y1 y2 y3 y4 y5) (di.l1 (k + 1) y0 y1 y2 y3 y4 y5))
 | 0 => ⟨fun _ _ _ _ _ _ _ r h => by simp [di.l0] at h, fun _ _ _ _ _ _ r h => by simp [di.l1] at h⟩
 | k + 1 => by
  obtain ⟨ih0, ih1⟩ := di.gK k; refine ⟨?_, ?_⟩
  ·intro y0 y1 y2 y3 y4 y5 y6; unfold di.l0
   repeat' first | (with_reducible exact ih0 _ _ _ _ _ _ _) | (with_reducible exact ih1 _ _ _ _ _ _) | (with_reducible exact LeO.refl _) | (with_reducible refine LeO.ite ?_ ?_)
  ·intro y0 y1 y2 y3 y4 y5; unfold di.l1
   repeat' first | (with_reducible exact ih1 _ _ _ _ _ _) | (with_reducible exact LeO.refl _) | (with_reducible refine LeO.ite ?_ ?_)
theorem di.mono : ∀ a0 k, LeO (di.f k a0) (di.f (k + 1) a0) := by
 intro a0 k; obtain ⟨ih0, ih1⟩ := di.gK k; unfold di.f
 repeat' (with_reducible exact ih0 _ _ _ _ _ _ _)
set_option maxHeartbeats 8000000 in
set_option maxRecDepth 100000 in
theorem di.calls (k : Nat) (A0 : Option Addr) (c0 : Nat) (l0 : List (S27)) (r1 : Int) (r2 : Int) (r3 : Bool) (w : World) (hr0 : Kd.C k27 w A0 l0.length l0) (hc0 : l0.length ≤ c0) (h : di.f k l0 = some (r1, r2, r3)) :
 Calls Try.prog 82 #[.slice A0 l0.length c0] w fun e w' => e = .returned (.tuple #[.int .i64 r1, .int .i64 r2, .bool r3]) ∧ Below w.heap.size w w' := by
 have hu27 := Try.underlying27; have HR0 := aa.mk hr0; have HC0 := aa.mk hc0; clear hr0 hc0; have HB := aa.mk (Below.refl w.heap.size w); have H : (di.l0 k l0 0 0 true l0 (l0.length : Int) 0) = some (r1, r2, r3) := h; clear h; have H' := aa.mk H; clear H; go_enter Try.func82, Try.ntmps82; go_wp2; (go_loopg [2, 3, 11] k (fun kq v2 v3 v11 w' => ∃ (zt : Int) (wz : Int) (kF : Int), v2 = .int .i64 zt ∧ v3 = .int .i64 wz ∧ v11 = .int .i64 kF ∧ aa (di.l0 kq l0 zt wz true l0 (l0.length : Int) kF = some (r1, r2, r3)) ∧ aa (kq ≤ k) ∧ aa (Below w.heap.size w w'))); case atStart => exact ⟨(0), (0), (0), (by rfl), (by rfl), (by rfl), H', ⟨Nat.le_refl _⟩, ⟨by exact HB.out⟩⟩
 case round =>
  clear H'; obtain ⟨zt, wz, kF, rfl, rfl, rfl, HA, HK1, HB⟩ := hrel
  cases gk with
  | zero => exact absurd HA.out (by simp [di.l0])
  | succ k1 =>
   have H := HA.out; clear HA; simp only [di.l0] at H; by_cases c2 : kF < (l0.length : Int)
   ·rw [if_pos c2] at H; have JV : decide (kF < (l0.length : Int)) = true := decide_eq_true c2; clear c2; by_cases c3 : 0 ≤ kF
    ·rw [if_pos c3] at H; have vD : decide (0 ≤ kF) = true := decide_eq_true c3; clear c3; by_cases c4 : kF < (l0.length : Int)
     ·rw [if_pos c4] at H; have GX : decide (kF < (l0.length : Int)) = true := decide_eq_true c4; clear c4; have H' := aa.mk H; clear H; have Ot : 0 ≤ (kF : Int) := of_decide_eq_true (by with_reducible assumption); have Qm : kF < (l0.length : Int) := of_decide_eq_true (by with_reducible assumption); obtain ⟨ahn, e1166, BD, Dg⟩ := vB HR0.out kF Ot Qm; cases e1166; replace BD := (HB.out.cell (World.block_lt_of_cell? w _ BD)).trans BD; replace Dg := (HB.out.cell (World.block_lt_of_cell? w _ Dg)).trans Dg; replace Ot := eq_true Ot; replace Qm := eq_true Qm; (go_wp2_with (((with_reducible refine dm (N := 6) rfl ?_); refine dD ?hg (N := 6) ?hd (cs := #[.int .i64 0, .int .i64 0]) (t := 27) ?hr ?_; (case hd => rfl); (case hg => rfl); (case hr => (go_simp; done)); intro vW hg w5 hbox hb; have Dv := aa.mk (hbox); have Rv := aa.mk ((by rw [hg]; exact (az (by exact HB.out)) : w.heap.size ≤ vW)); have KY := aa.mk ((by rw [hg]; exact (az (by exact HB.out)) : w.heap.size ≤ vW)); replace HB := aa.mk (ax (by exact HB.out) hb); clear hb hbox hg; obtain ⟨vG, wy, vJ, vC⟩ := mH Dv.out))); (repeat (go_quiet (first | ((with_reducible refine dm (N := 6) rfl ?_); refine dD ?hg (N := 6) ?hd (cs := #[.int .i64 0, .int .i64 0]) (t := 27) ?hr ?_; (case hd => rfl); (case hg => rfl); (case hr => first | (go_simp; done) | (go_simp; rfl)); intro vW hg w5 hbox hb; have Dv := aa.mk (hbox); have Rv := aa.mk ((by rw [hg]; exact (az (by repeat (first | (with_reducible first | exact HB.out | apply aD | apply dn | apply gP) | exact HB.out))) : w.heap.size ≤ vW)); have KY := aa.mk ((by rw [hg]; exact (az (by repeat (first | (with_reducible first | exact HB.out | apply aD | apply dn | apply gP) | exact HB.out))) : w.heap.size ≤ vW)); replace HB := aa.mk (ax (by repeat (first | (with_reducible first | exact HB.out | apply aD | apply dn | apply gP) | exact HB.out)) hb); clear hb hbox hg; obtain ⟨vG, wy, vJ, vC⟩ := mH Dv.out)); go_wp2_with (first | ((with_reducible refine dm (N := 6) rfl ?_); refine dD ?hg (N := 6) ?hd (cs := #[.int .i64 0, .int .i64 0]) (t := 27) ?hr ?_; (case hd => rfl); (case hg => rfl); (case hr => first | (go_simp; done) | (go_simp; rfl)); intro vW hg w5 hbox hb; have Dv := aa.mk (hbox); have Rv := aa.mk ((by rw [hg]; exact (az (by repeat (first | (with_reducible first | exact HB.out | apply aD | apply dn | apply gP) | exact HB.out))) : w.heap.size ≤ vW)); have KY := aa.mk ((by rw [hg]; exact (az (by repeat (first | (with_reducible first | exact HB.out | apply aD | apply dn | apply gP) | exact HB.out))) : w.heap.size ≤ vW)); replace HB := aa.mk (ax (by repeat (first | (with_reducible first | exact HB.out | apply aD | apply dn | apply gP) | exact HB.out)) hb); clear hb hbox hg; obtain ⟨vG, wy, vJ, vC⟩ := mH Dv.out)))); go_roundg k1; (case measure => have := HK1.out; omega); case rel => exact ⟨(Go.bits .or .i64 zt ((eB l0 kF).f0)), (Go.bits .or .i64 wz ((eB l0 kF).f1)), (wrap64 (kF + 1)), (by rfl), (by rfl), (by rfl), H', ⟨by have := HK1.out; omega⟩, ⟨by repeat ((with_reducible first | exact HB.out | apply dn | refine df ?_ KY.out))⟩⟩
     ·rw [if_neg c4] at H; exact absurd H (by simp)
    ·rw [if_neg c3] at H; exact absurd H (by simp)
   ·rw [if_neg c2] at H; have JV : decide (kF < (l0.length : Int)) = false := decide_eq_false c2; clear c2; have H' := aa.mk H; clear H; go_wp2; (go_loopg [4, 26] k1 (fun kq v4 v26 w' => ∃ (TT : Bool) (oK : Int), v4 = .bool TT ∧ v26 = .int .i64 oK ∧ aa (di.l1 kq zt wz TT l0 (l0.length : Int) oK = some (r1, r2, r3)) ∧ aa (kq ≤ k1) ∧ aa (Below w.heap.size w w'))); case atStart => exact ⟨(true), (0), (by rfl), (by rfl), H', ⟨Nat.le_refl _⟩, ⟨by exact HB.out⟩⟩
    case round =>
     clear H' JV; obtain ⟨TT, oK, rfl, rfl, HA, HK2, HB⟩ := hrel
     cases gk with
     | zero => exact absurd HA.out (by simp [di.l1])
     | succ k2 =>
      have H := HA.out; clear HA; simp only [di.l1] at H; by_cases c7 : oK < (l0.length : Int)
      ·rw [if_pos c7] at H; have Qt : decide (oK < (l0.length : Int)) = true := decide_eq_true c7; clear c7; by_cases c8 : 0 ≤ oK
       ·rw [if_pos c8] at H; have O4 : decide (0 ≤ oK) = true := decide_eq_true c8; clear c8; by_cases c9 : oK < (l0.length : Int)
        ·rw [if_pos c9] at H; have Yp : decide (oK < (l0.length : Int)) = true := decide_eq_true c9; clear c9; by_cases c10 : TT = true
         ·subst c10; rw [if_pos rfl] at H; have H' := aa.mk H; clear H; have Du : 0 ≤ (oK : Int) := of_decide_eq_true (by with_reducible assumption); have Dj : oK < (l0.length : Int) := of_decide_eq_true (by with_reducible assumption); obtain ⟨Zl, e1168, rE, rD⟩ := vB HR0.out oK Du Dj; cases e1168; replace rE := (HB.out.cell (World.block_lt_of_cell? w _ rE)).trans rE; replace rD := (HB.out.cell (World.block_lt_of_cell? w _ rD)).trans rD; replace Du := eq_true Du; replace Dj := eq_true Dj; (go_wp2_with (((with_reducible refine dm (N := 8) rfl ?_); refine dD ?hg (N := 8) ?hd (cs := #[.int .i64 0, .int .i64 0]) (t := 27) ?hr ?_; (case hd => rfl); (case hg => rfl); (case hr => (go_simp; done)); intro Cn hg w11 hbox hb; have Kb := aa.mk (hbox); have Yu := aa.mk ((by rw [hg]; exact (az (by exact HB.out)) : w.heap.size ≤ Cn)); have JG := aa.mk ((by rw [hg]; exact (az (by exact HB.out)) : w.heap.size ≤ Cn)); replace HB := aa.mk (ax (by exact HB.out) hb); clear hb hbox hg; obtain ⟨Gt, FF, Fy, FQ⟩ := mH Kb.out))); go_roundg k2; (case measure => have := HK1.out; have := HK2.out; omega); case rel => exact ⟨(((Go.bits .and .i64 wz ((eB l0 oK).f0)) == ((eB l0 oK).f1))), (wrap64 (oK + 1)), (by rfl), (by rfl), H', ⟨by have := HK1.out; have := HK2.out; omega⟩, ⟨by repeat ((with_reducible first | exact HB.out | refine df ?_ JG.out))⟩⟩
         ·replace c10 := Bool.eq_false_iff.mpr c10; subst c10; rw [if_neg (show ¬ (false = true) by decide)] at H; have H' := aa.mk H; clear H; have Du : 0 ≤ (oK : Int) := of_decide_eq_true (by with_reducible assumption); have Dj : oK < (l0.length : Int) := of_decide_eq_true (by with_reducible assumption); obtain ⟨Zl, e1168, rE, rD⟩ := vB HR0.out oK Du Dj; cases e1168; replace rE := (HB.out.cell (World.block_lt_of_cell? w _ rE)).trans rE; replace rD := (HB.out.cell (World.block_lt_of_cell? w _ rD)).trans rD; replace Du := eq_true Du; replace Dj := eq_true Dj; (go_wp2_with (((with_reducible refine dm (N := 8) rfl ?_); refine dD ?hg (N := 8) ?hd (cs := #[.int .i64 0, .int .i64 0]) (t := 27) ?hr ?_; (case hd => rfl); (case hg => rfl); (case hr => (go_simp; done)); intro Cn hg w13 hbox hb; have Kb := aa.mk (hbox); have Yu := aa.mk ((by rw [hg]; exact (az (by exact HB.out)) : w.heap.size ≤ Cn)); have JG := aa.mk ((by rw [hg]; exact (az (by exact HB.out)) : w.heap.size ≤ Cn)); replace HB := aa.mk (ax (by exact HB.out) hb); clear hb hbox hg; obtain ⟨Vm, UO, VT, UE⟩ := mH Kb.out))); go_roundg k2; (case measure => have := HK1.out; have := HK2.out; omega); case rel => exact ⟨(false), (wrap64 (oK + 1)), (by rfl), (by rfl), H', ⟨by have := HK1.out; have := HK2.out; omega⟩, ⟨by repeat ((with_reducible first | exact HB.out | refine df ?_ JG.out))⟩⟩
        ·rw [if_neg c9] at H; exact absurd H (by simp)
       ·rw [if_neg c8] at H; exact absurd H (by simp)
      ·rw [if_neg c7] at H; have Qt : decide (oK < (l0.length : Int)) = false := decide_eq_false c7; clear c7; simp only [Option.some.injEq, Prod.mk.injEq] at H; obtain ⟨rfl, rfl, rfl⟩ := H; go_wp2
       go_ret3
       exact ⟨by rfl, by exact HB.out⟩
def jX.f (a0 : Int) : Option (Int) := some (Go.bits .and .i64 (wrap64 (IntKind.u64.wrap ((IntKind.u64.wrap ((IntKind.u64.wrap ((Go.bits .and .u64 (IntKind.u64.wrap (((IntKind.u64.wrap ((Go.bits .and .u64 ((IntKind.u64.wrap ((Go.bits .and .u64 (a0 / 2) 6148914691236517205) + (Go.bits .and .u64 a0 6148914691236517205))) / 4) 3689348814741910323) + (Go.bits .and .u64 (IntKind.u64.wrap ((Go.bits .and .u64 (a0 / 2) 6148914691236517205) + (Go.bits .and .u64 a0 6148914691236517205))) 3689348814741910323))) / 16) + (IntKind.u64.wrap ((Go.bits .and .u64 ((IntKind.u64.wrap ((Go.bits .and .u64 (a0 / 2) 6148914691236517205) + (Go.bits .and .u64 a0 6148914691236517205))) / 4) 3689348814741910323) + (Go.bits .and .u64 (IntKind.u64.wrap ((Go.bits .and .u64 (a0 / 2) 6148914691236517205) + (Go.bits .and .u64 a0 6148914691236517205))) 3689348814741910323))))) 1085102592571150095) + ((Go.bits .and .u64 (IntKind.u64.wrap (((IntKind.u64.wrap ((Go.bits .and .u64 ((IntKind.u64.wrap ((Go.bits .and .u64 (a0 / 2) 6148914691236517205) + (Go.bits .and .u64 a0 6148914691236517205))) / 4) 3689348814741910323) + (Go.bits .and .u64 (IntKind.u64.wrap ((Go.bits .and .u64 (a0 / 2) 6148914691236517205) + (Go.bits .and .u64 a0 6148914691236517205))) 3689348814741910323))) / 16) + (IntKind.u64.wrap ((Go.bits .and .u64 ((IntKind.u64.wrap ((Go.bits .and .u64 (a0 / 2) 6148914691236517205) + (Go.bits .and .u64 a0 6148914691236517205))) / 4) 3689348814741910323) + (Go.bits .and .u64 (IntKind.u64.wrap ((Go.bits .and .u64 (a0 / 2) 6148914691236517205) + (Go.bits .and .u64 a0 6148914691236517205))) 3689348814741910323))))) 1085102592571150095) / 256))) + ((IntKind.u64.wrap ((Go.bits .and .u64 (IntKind.u64.wrap (((IntKind.u64.wrap ((Go.bits .and .u64 ((IntKind.u64.wrap ((Go.bits .and .u64 (a0 / 2) 6148914691236517205) + (Go.bits .and .u64 a0 6148914691236517205))) / 4) 3689348814741910323) + (Go.bits .and .u64 (IntKind.u64.wrap ((Go.bits .and .u64 (a0 / 2) 6148914691236517205) + (Go.bits .and .u64 a0 6148914691236517205))) 3689348814741910323))) / 16) + (IntKind.u64.wrap ((Go.bits .and .u64 ((IntKind.u64.wrap ((Go.bits .and .u64 (a0 / 2) 6148914691236517205) + (Go.bits .and .u64 a0 6148914691236517205))) / 4) 3689348814741910323) + (Go.bits .and .u64 (IntKind.u64.wrap ((Go.bits .and .u64 (a0 / 2) 6148914691236517205) + (Go.bits .and .u64 a0 6148914691236517205))) 3689348814741910323))))) 1085102592571150095) + ((Go.bits .and .u64 (IntKind.u64.wrap (((IntKind.u64.wrap ((Go.bits .and .u64 ((IntKind.u64.wrap ((Go.bits .and .u64 (a0 / 2) 6148914691236517205) + (Go.bits .and .u64 a0 6148914691236517205))) / 4) 3689348814741910323) + (Go.bits .and .u64 (IntKind.u64.wrap ((Go.bits .and .u64 (a0 / 2) 6148914691236517205) + (Go.bits .and .u64 a0 6148914691236517205))) 3689348814741910323))) / 16) + (IntKind.u64.wrap ((Go.bits .and .u64 ((IntKind.u64.wrap ((Go.bits .and .u64 (a0 / 2) 6148914691236517205) + (Go.bits .and .u64 a0 6148914691236517205))) / 4) 3689348814741910323) + (Go.bits .and .u64 (IntKind.u64.wrap ((Go.bits .and .u64 (a0 / 2) 6148914691236517205) + (Go.bits .and .u64 a0 6148914691236517205))) 3689348814741910323))))) 1085102592571150095) / 256))) / 65536))) + ((IntKind.u64.wrap ((IntKind.u64.wrap ((Go.bits .and .u64 (IntKind.u64.wrap (((IntKind.u64.wrap ((Go.bits .and .u64 ((IntKind.u64.wrap ((Go.bits .and .u64 (a0 / 2) 6148914691236517205) + (Go.bits .and .u64 a0 6148914691236517205))) / 4) 3689348814741910323) + (Go.bits .and .u64 (IntKind.u64.wrap ((Go.bits .and .u64 (a0 / 2) 6148914691236517205) + (Go.bits .and .u64 a0 6148914691236517205))) 3689348814741910323))) / 16) + (IntKind.u64.wrap ((Go.bits .and .u64 ((IntKind.u64.wrap ((Go.bits .and .u64 (a0 / 2) 6148914691236517205) + (Go.bits .and .u64 a0 6148914691236517205))) / 4) 3689348814741910323) + (Go.bits .and .u64 (IntKind.u64.wrap ((Go.bits .and .u64 (a0 / 2) 6148914691236517205) + (Go.bits .and .u64 a0 6148914691236517205))) 3689348814741910323))))) 1085102592571150095) + ((Go.bits .and .u64 (IntKind.u64.wrap (((IntKind.u64.wrap ((Go.bits .and .u64 ((IntKind.u64.wrap ((Go.bits .and .u64 (a0 / 2) 6148914691236517205) + (Go.bits .and .u64 a0 6148914691236517205))) / 4) 3689348814741910323) + (Go.bits .and .u64 (IntKind.u64.wrap ((Go.bits .and .u64 (a0 / 2) 6148914691236517205) + (Go.bits .and .u64 a0 6148914691236517205))) 3689348814741910323))) / 16) + (IntKind.u64.wrap ((Go.bits .and .u64 ((IntKind.u64.wrap ((Go.bits .and .u64 (a0 / 2) 6148914691236517205) + (Go.bits .and .u64 a0 6148914691236517205))) / 4) 3689348814741910323) + (Go.bits .and .u64 (IntKind.u64.wrap ((Go.bits .and .u64 (a0 / 2) 6148914691236517205) + (Go.bits .and .u64 a0 6148914691236517205))) 3689348814741910323))))) 1085102592571150095) / 256))) + ((IntKind.u64.wrap ((Go.bits .and .u64 (IntKind.u64.wrap (((IntKind.u64.wrap ((Go.bits .and .u64 ((IntKind.u64.wrap ((Go.bits .and .u64 (a0 / 2) 6148914691236517205) + (Go.bits .and .u64 a0 6148914691236517205))) / 4) 3689348814741910323) + (Go.bits .and .u64 (IntKind.u64.wrap ((Go.bits .and .u64 (a0 / 2) 6148914691236517205) + (Go.bits .and .u64 a0 6148914691236517205))) 3689348814741910323))) / 16) + (IntKind.u64.wrap ((Go.bits .and .u64 ((IntKind.u64.wrap ((Go.bits .and .u64 (a0 / 2) 6148914691236517205) + (Go.bits .and .u64 a0 6148914691236517205))) / 4) 3689348814741910323) + (Go.bits .and .u64 (IntKind.u64.wrap ((Go.bits .and .u64 (a0 / 2) 6148914691236517205) + (Go.bits .and .u64 a0 6148914691236517205))) 3689348814741910323))))) 1085102592571150095) + ((Go.bits .and .u64 (IntKind.u64.wrap (((IntKind.u64.wrap ((Go.bits .and .u64 ((IntKind.u64.wrap ((Go.bits .and .u64 (a0 / 2) 6148914691236517205) + (Go.bits .and .u64 a0 6148914691236517205))) / 4) 3689348814741910323) + (Go.bits .and .u64 (IntKind.u64.wrap ((Go.bits .and .u64 (a0 / 2) 6148914691236517205) + (Go.bits .and .u64 a0 6148914691236517205))) 3689348814741910323))) / 16) + (IntKind.u64.wrap ((Go.bits .and .u64 ((IntKind.u64.wrap ((Go.bits .and .u64 (a0 / 2) 6148914691236517205) + (Go.bits .and .u64 a0 6148914691236517205))) / 4) 3689348814741910323) + (Go.bits .and .u64 (IntKind.u64.wrap ((Go.bits .and .u64 (a0 / 2) 6148914691236517205) + (Go.bits .and .u64 a0 6148914691236517205))) 3689348814741910323))))) 1085102592571150095) / 256))) / 65536))) / 4294967296)))) 127)
set_option maxHeartbeats 8000000 in
set_option maxRecDepth 100000 in
theorem jX.calls (a0 : Int) (r : Int) (w : World) (h : jX.f a0 = some r) :
 Calls Try.prog 100 #[.int .u64 a0] w fun e w' => e = .returned (.int .i64 r) ∧ eZ w w' := by
 have H : (some (Go.bits .and .i64 (wrap64 (IntKind.u64.wrap ((IntKind.u64.wrap ((IntKind.u64.wrap ((Go.bits .and .u64 (IntKind.u64.wrap (((IntKind.u64.wrap ((Go.bits .and .u64 ((IntKind.u64.wrap ((Go.bits .and .u64 (a0 / 2) 6148914691236517205) + (Go.bits .and .u64 a0 6148914691236517205))) / 4) 3689348814741910323) + (Go.bits .and .u64 (IntKind.u64.wrap ((Go.bits .and .u64 (a0 / 2) 6148914691236517205) + (Go.bits .and .u64 a0 6148914691236517205))) 3689348814741910323))) / 16) + (IntKind.u64.wrap ((Go.bits .and .u64 ((IntKind.u64.wrap ((Go.bits .and .u64 (a0 / 2) 6148914691236517205) + (Go.bits .and .u64 a0 6148914691236517205))) / 4) 3689348814741910323) + (Go.bits .and .u64 (IntKind.u64.wrap ((Go.bits .and .u64 (a0 / 2) 6148914691236517205) + (Go.bits .and .u64 a0 6148914691236517205))) 3689348814741910323))))) 1085102592571150095) + ((Go.bits .and .u64 (IntKind.u64.wrap (((IntKind.u64.wrap ((Go.bits .and .u64 ((IntKind.u64.wrap ((Go.bits .and .u64 (a0 / 2) 6148914691236517205) + (Go.bits .and .u64 a0 6148914691236517205))) / 4) 3689348814741910323) + (Go.bits .and .u64 (IntKind.u64.wrap ((Go.bits .and .u64 (a0 / 2) 6148914691236517205) + (Go.bits .and .u64 a0 6148914691236517205))) 3689348814741910323))) / 16) + (IntKind.u64.wrap ((Go.bits .and .u64 ((IntKind.u64.wrap ((Go.bits .and .u64 (a0 / 2) 6148914691236517205) + (Go.bits .and .u64 a0 6148914691236517205))) / 4) 3689348814741910323) + (Go.bits .and .u64 (IntKind.u64.wrap ((Go.bits .and .u64 (a0 / 2) 6148914691236517205) + (Go.bits .and .u64 a0 6148914691236517205))) 3689348814741910323))))) 1085102592571150095) / 256))) + ((IntKind.u64.wrap ((Go.bits .and .u64 (IntKind.u64.wrap (((IntKind.u64.wrap ((Go.bits .and .u64 ((IntKind.u64.wrap ((Go.bits .and .u64 (a0 / 2) 6148914691236517205) + (Go.bits .and .u64 a0 6148914691236517205))) / 4) 3689348814741910323) + (Go.bits .and .u64 (IntKind.u64.wrap ((Go.bits .and .u64 (a0 / 2) 6148914691236517205) + (Go.bits .and .u64 a0 6148914691236517205))) 3689348814741910323))) / 16) + (IntKind.u64.wrap ((Go.bits .and .u64 ((IntKind.u64.wrap ((Go.bits .and .u64 (a0 / 2) 6148914691236517205) + (Go.bits .and .u64 a0 6148914691236517205))) / 4) 3689348814741910323) + (Go.bits .and .u64 (IntKind.u64.wrap ((Go.bits .and .u64 (a0 / 2) 6148914691236517205) + (Go.bits .and .u64 a0 6148914691236517205))) 3689348814741910323))))) 1085102592571150095) + ((Go.bits .and .u64 (IntKind.u64.wrap (((IntKind.u64.wrap ((Go.bits .and .u64 ((IntKind.u64.wrap ((Go.bits .and .u64 (a0 / 2) 6148914691236517205) + (Go.bits .and .u64 a0 6148914691236517205))) / 4) 3689348814741910323) + (Go.bits .and .u64 (IntKind.u64.wrap ((Go.bits .and .u64 (a0 / 2) 6148914691236517205) + (Go.bits .and .u64 a0 6148914691236517205))) 3689348814741910323))) / 16) + (IntKind.u64.wrap ((Go.bits .and .u64 ((IntKind.u64.wrap ((Go.bits .and .u64 (a0 / 2) 6148914691236517205) + (Go.bits .and .u64 a0 6148914691236517205))) / 4) 3689348814741910323) + (Go.bits .and .u64 (IntKind.u64.wrap ((Go.bits .and .u64 (a0 / 2) 6148914691236517205) + (Go.bits .and .u64 a0 6148914691236517205))) 3689348814741910323))))) 1085102592571150095) / 256))) / 65536))) + ((IntKind.u64.wrap ((IntKind.u64.wrap ((Go.bits .and .u64 (IntKind.u64.wrap (((IntKind.u64.wrap ((Go.bits .and .u64 ((IntKind.u64.wrap ((Go.bits .and .u64 (a0 / 2) 6148914691236517205) + (Go.bits .and .u64 a0 6148914691236517205))) / 4) 3689348814741910323) + (Go.bits .and .u64 (IntKind.u64.wrap ((Go.bits .and .u64 (a0 / 2) 6148914691236517205) + (Go.bits .and .u64 a0 6148914691236517205))) 3689348814741910323))) / 16) + (IntKind.u64.wrap ((Go.bits .and .u64 ((IntKind.u64.wrap ((Go.bits .and .u64 (a0 / 2) 6148914691236517205) + (Go.bits .and .u64 a0 6148914691236517205))) / 4) 3689348814741910323) + (Go.bits .and .u64 (IntKind.u64.wrap ((Go.bits .and .u64 (a0 / 2) 6148914691236517205) + (Go.bits .and .u64 a0 6148914691236517205))) 3689348814741910323))))) 1085102592571150095) + ((Go.bits .and .u64 (IntKind.u64.wrap (((IntKind.u64.wrap ((Go.bits .and .u64 ((IntKind.u64.wrap ((Go.bits .and .u64 (a0 / 2) 6148914691236517205) + (Go.bits .and .u64 a0 6148914691236517205))) / 4) 3689348814741910323) + (Go.bits .and .u64 (IntKind.u64.wrap ((Go.bits .and .u64 (a0 / 2) 6148914691236517205) + (Go.bits .and .u64 a0 6148914691236517205))) 3689348814741910323))) / 16) + (IntKind.u64.wrap ((Go.bits .and .u64 ((IntKind.u64.wrap ((Go.bits .and .u64 (a0 / 2) 6148914691236517205) + (Go.bits .and .u64 a0 6148914691236517205))) / 4) 3689348814741910323) + (Go.bits .and .u64 (IntKind.u64.wrap ((Go.bits .and .u64 (a0 / 2) 6148914691236517205) + (Go.bits .and .u64 a0 6148914691236517205))) 3689348814741910323))))) 1085102592571150095) / 256))) + ((IntKind.u64.wrap ((Go.bits .and .u64 (IntKind.u64.wrap (((IntKind.u64.wrap ((Go.bits .and .u64 ((IntKind.u64.wrap ((Go.bits .and .u64 (a0 / 2) 6148914691236517205) + (Go.bits .and .u64 a0 6148914691236517205))) / 4) 3689348814741910323) + (Go.bits .and .u64 (IntKind.u64.wrap ((Go.bits .and .u64 (a0 / 2) 6148914691236517205) + (Go.bits .and .u64 a0 6148914691236517205))) 3689348814741910323))) / 16) + (IntKind.u64.wrap ((Go.bits .and .u64 ((IntKind.u64.wrap ((Go.bits .and .u64 (a0 / 2) 6148914691236517205) + (Go.bits .and .u64 a0 6148914691236517205))) / 4) 3689348814741910323) + (Go.bits .and .u64 (IntKind.u64.wrap ((Go.bits .and .u64 (a0 / 2) 6148914691236517205) + (Go.bits .and .u64 a0 6148914691236517205))) 3689348814741910323))))) 1085102592571150095) + ((Go.bits .and .u64 (IntKind.u64.wrap (((IntKind.u64.wrap ((Go.bits .and .u64 ((IntKind.u64.wrap ((Go.bits .and .u64 (a0 / 2) 6148914691236517205) + (Go.bits .and .u64 a0 6148914691236517205))) / 4) 3689348814741910323) + (Go.bits .and .u64 (IntKind.u64.wrap ((Go.bits .and .u64 (a0 / 2) 6148914691236517205) + (Go.bits .and .u64 a0 6148914691236517205))) 3689348814741910323))) / 16) + (IntKind.u64.wrap ((Go.bits .and .u64 ((IntKind.u64.wrap ((Go.bits .and .u64 (a0 / 2) 6148914691236517205) + (Go.bits .and .u64 a0 6148914691236517205))) / 4) 3689348814741910323) + (Go.bits .and .u64 (IntKind.u64.wrap ((Go.bits .and .u64 (a0 / 2) 6148914691236517205) + (Go.bits .and .u64 a0 6148914691236517205))) 3689348814741910323))))) 1085102592571150095) / 256))) / 65536))) / 4294967296)))) 127)) = some r := h; clear h; obtain rfl := Option.some.inj H; go_enter Try.func100, Try.ntmps100; go_wp2
 go_ret
 exact ⟨by rfl, by exact eZ.refl _⟩
def lg.f (a0 : Int) : Option (Int) := (jX.f a0).bind fun Jn => (some Jn)
set_option maxHeartbeats 8000000 in
set_option maxRecDepth 100000 in
theorem lg.calls (a0 : Int) (r : Int) (w : World) (h : lg.f a0 = some r) :
 Calls Try.prog 87 #[.int .u64 a0] w fun e w' => e = .returned (.int .i64 r) ∧ eZ w w' := by
 have H : ((jX.f a0).bind fun Jn => (some Jn)) = some r := h; clear h; replace H := Option.bind_eq_some_iff.mp H; obtain ⟨Jn, A20, H⟩ := H; have A2 := aa.mk A20; clear A20; obtain rfl := Option.some.inj H; go_enter Try.func87, Try.ntmps87; go_wp2_with (((with_reducible refine bH (f := 100) rfl ?_); refine eO (some 7) rfl rfl Try.func100 (by kernel_rfl) rfl #[.int .u64 a0] rfl (by (simp only [List.map_toArray, List.map_cons, List.map_nil]); rfl) ?_; (with_reducible refine (jX.calls a0 Jn _ A2.out).mono ?_); rintro e w' ⟨rfl, ⟨nd, rfl⟩⟩; refine ⟨_, rfl, ?_⟩))
 go_ret
 exact ⟨by rfl, by repeat (first | exact eZ.refl _ | apply eZ.step)⟩
def ig.f (a0 : Int) : Option (Int) := (lg.f (IntKind.u64.wrap (a0))).bind fun Ig => (some Ig)
set_option maxHeartbeats 8000000 in
set_option maxRecDepth 100000 in
theorem ig.calls (a0 : Int) (r : Int) (w : World) (h : ig.f a0 = some r) :
 Calls Try.prog 83 #[.int .i64 a0] w fun e w' => e = .returned (.int .i64 r) ∧ eZ w w' := by
 have H : ((lg.f (IntKind.u64.wrap (a0))).bind fun Ig => (some Ig)) = some r := h; clear h; replace H := Option.bind_eq_some_iff.mp H; obtain ⟨Ig, A20, H⟩ := H; have A2 := aa.mk A20; clear A20; obtain rfl := Option.some.inj H; go_enter Try.func83, Try.ntmps83; go_wp2_with (((with_reducible refine bH (f := 87) rfl ?_); refine eO (some 5) rfl rfl Try.func87 (by kernel_rfl) rfl #[.int .u64 (IntKind.u64.wrap (a0))] rfl (by (simp only [List.map_toArray, List.map_cons, List.map_nil]); rfl) ?_; (with_reducible refine (lg.calls (IntKind.u64.wrap (a0)) Ig _ A2.out).mono ?_); rintro e w' ⟨rfl, ⟨nd, rfl⟩⟩; refine ⟨_, rfl, ?_⟩))
 go_ret
 exact ⟨by rfl, by repeat (first | exact eZ.refl _ | apply eZ.step)⟩
end Go.Proofs.Ytihedeofkhapiaa.Pr
end
section
namespace Go.Proofs.Ytihedeofkhapiaa.Pr
open Go.RowKit Go.Proofs.YtihedeofkhapiaaW.PrintWords Go.Proofs.YtihedeofkhapiaaW.PrintLast Go.Proofs.YtihedeofkhapiaaW.PrintMore
theorem Ad {i : Int} {n : Nat} (h0 : 0 ≤ i) (h : i < (n : Int)) (hn : n ≤ 9223372036854775807) : wrap64 (i + 1) = i + 1 := by
 unfold wrap64; omega
theorem lC {α : Type} (l : List α) (d : α) (i : Nat) (h : i < l.length) : l.drop i = l.getD i d :: l.drop (i + 1) := by
 rw [List.drop_eq_getElem_cons h]; simp [List.getD_eq_getElem?_getD, List.getElem?_eq_getElem h]
def seenStep (s : Int × Int) (x : S27) : Int × Int := (Go.bits .or .i64 s.1 x.f0, Go.bits .or .i64 s.2 x.f1)
def xA (l : List S27) : Int × Int := l.foldl seenStep (0, 0)
def vV (v : Int) (b : Bool) (x : S27) : Bool := if b = true then (Go.bits .and .i64 v x.f0 == x.f1) else false
def fG (l : List S27) : Int × Int × Bool := ((xA l).1, (xA l).2, l.foldl (vV (xA l).2) true)
theorem TU (l : List S27) (hl : l.length ≤ 9223372036854775807) (x2 x3 : Int) : ∀ (d k i : Nat) (b : Bool), i + d = l.length → d < k →
 di.l1 k x2 x3 b l (l.length : Int) (i : Int) = some (x2, x3, (l.drop i).foldl (vV x3) b) := by
 intro d
 induction d with
 | zero =>
  intro k i b hi hk; obtain ⟨k, rfl⟩ : ∃ m, k = m + 1 := ⟨k - 1, by omega⟩; simp only [di.l1]; rw [if_neg (by omega), List.drop_eq_nil_of_le (by omega)]; rfl
 | succ d ih =>
  intro k i b hi hk; obtain ⟨k, rfl⟩ : ∃ m, k = m + 1 := ⟨k - 1, by omega⟩; simp only [di.l1]; rw [if_pos (by omega), if_pos (by omega), if_pos (by omega), Ad (by omega) (by omega) hl, lC l z27 i (by omega)]; (have e : eB l (i : Int) = l.getD i z27 := by simp [eB]); rw [e, List.foldl_cons]; have hc : ((i : Int) + 1) = ((i + 1 : Nat) : Int) := by omega
  cases b with
  | true =>
   rw [if_pos rfl, hc, ih k (i + 1) _ (by omega) (by omega)]; simp [vV]
  | false =>
   rw [if_neg (by decide), hc, ih k (i + 1) _ (by omega) (by omega)]; simp [vV]
theorem SH (l : List S27) (hl : l.length ≤ 9223372036854775807) : ∀ (d k i : Nat) (s : Int × Int), i + d = l.length → l.length + d + 1 < k →
 di.l0 k l s.1 s.2 true l (l.length : Int) (i : Int) = some (((l.drop i).foldl seenStep s).1, ((l.drop i).foldl seenStep s).2, l.foldl (vV ((l.drop i).foldl seenStep s).2) true) := by
 intro d
 induction d with
 | zero =>
  intro k i s hi hk; obtain ⟨k, rfl⟩ : ∃ m, k = m + 1 := ⟨k - 1, by omega⟩; simp only [di.l0]; rw [if_neg (by omega), List.drop_eq_nil_of_le (show l.length ≤ i by omega)]; have := TU l hl s.1 s.2 l.length k 0 true (by omega) (by omega)
  simpa using this
 | succ d ih =>
  intro k i s hi hk; obtain ⟨k, rfl⟩ : ∃ m, k = m + 1 := ⟨k - 1, by omega⟩; simp only [di.l0]; rw [if_pos (by omega), if_pos (by omega), if_pos (by omega), Ad (by omega) (by omega) hl, lC l z27 i (by omega)]; (have e : eB l (i : Int) = l.getD i z27 := by simp [eB]); (have hc : ((i : Int) + 1) = ((i + 1 : Nat) : Int) := by omega); rw [e, hc, List.foldl_cons]; exact ih k (i + 1) (seenStep s (l.getD i z27)) (by omega) (by omega)
theorem ZL (l : List S27) (hl : l.length ≤ 9223372036854775807) : di.f (2 * l.length + 2) l = some (fG l) := by
 have := SH l hl l.length (2 * l.length + 2) 0 (0, 0) (by omega) (by omega)
 simpa [di.f, fG, xA] using this
theorem J7 (A0 : Option Addr) (c0 : Nat) (l0 : List S27) (w : World) (hr0 : Kd.C k27 w A0 l0.length l0) (hc0 : l0.length ≤ c0) (hl : l0.length ≤ 9223372036854775807) :
 Calls Try.prog 82 #[.slice A0 l0.length c0] w fun e w' => e = .returned (.tuple #[.int .i64 (fG l0).1, .int .i64 (fG l0).2.1, .bool (fG l0).2.2]) ∧ Below w.heap.size w w' :=
 di.calls _ A0 c0 l0 _ _ _ w hr0 hc0 (ZL l0 hl)
def nM (a : Int) : Int := (ig.f a).getD 0
theorem YV (a : Int) : ig.f a = some (nM a) := by
 obtain ⟨r, h⟩ : ∃ r, ig.f a = some r := by
  simp only [ig.f, lg.f, jX.f, Option.bind_some]; exact ⟨_, rfl⟩
 rw [nM, h]; rfl
theorem KU (a : Int) (w : World) : Calls Try.prog 83 #[.int .i64 a] w fun e w' => e = .returned (.int .i64 (nM a)) ∧ eZ w w' :=
 ig.calls a _ w (YV a)
def gp (a b : Int) : Int := Go.bits .andNot .i64 a b
theorem Eu (a b : Int) (w : World) : Calls Try.prog 65 #[.int .i64 a, .int .i64 b] w fun e w' => e = .returned (.int .i64 (gp a b)) ∧ eZ w w' :=
 fD.calls a b _ w rfl
def inP (n lo hi : Int) : Bool := decide (lo ≤ n) && decide (n ≤ hi)
theorem nV {n lo hi : Int} : inP n lo hi = true ↔ lo ≤ n ∧ n ≤ hi := by simp [inP]
theorem JI (n lo hi : Int) : eG.f n lo hi = some (inP n lo hi) := by
 unfold eG.f inP; split
 ·rename_i h; simp [h]
 ·rename_i h; simp [h]
def jc : Option Int → List S86 → Int
 | _, [] => 0
 | p, s :: r => if s.f0 < 65 ∨ s.f0 > 90 then 8 else if inP s.f1 1 1023 = true then (if (∃ q, p = some q ∧ s.f0 ≤ q) then 5 else jc (some s.f0) r) else 1
def kW (a b : Int) (l : List S86) : Int :=
 if inP a (-3000) 3000 = true ∧ inP b (-3000) 3000 = true then (if a > b then 5 else if l.length = 0 then 7 else if l.length > 8 then 6 else jc none l) else 1
def qQ (l : List S86) (i : Nat) : Option Int := if i = 0 then none else some (l.getD (i - 1) z86).f0
theorem KL (l : List S86) : qQ l 0 = none := rfl
theorem xJ (l : List S86) (i : Nat) : qQ l (i + 1) = some (l.getD i z86).f0 := by simp [qQ]
theorem Kg (l : List S86) (i : Nat) : ai l (i : Int) = l.getD i z86 := by simp [ai]
theorem ND (a b : Int) (l : List S86) (hl : l.length ≤ 8) : ∀ (d i : Nat), i + d = l.length → Ev (fun k => aA.l0 k l (l.length : Int) (i : Int) a b l) (jc (qQ l i) (l.drop i)) := by
 intro d
 induction d with
 | zero =>
  intro i hi; refine Ev.step (f := fun _ => some 0) (fun k => ?_) ?_
  ·simp only [aA.l0]; rw [if_neg (by omega)]
  ·rw [List.drop_eq_nil_of_le (by omega)]; exact Ev.now 0
 | succ d ih =>
  intro i hi; (have hc : ((i : Int) + 1) = ((i + 1 : Nat) : Int) := by omega); refine Ev.step (f := fun k => aA.j2 k (i : Int) l (l.length : Int) (i : Int) (decide ((l.getD i z86).f0 < 65 ∨ (l.getD i z86).f0 > 90)) a b l (l.getD i z86).f0 (l.getD i z86).f1) (fun k => ?_) ?_
  ·simp only [aA.l0]; rw [if_pos (by omega), if_pos (by omega), if_pos (by omega), Kg]; by_cases h : (l.getD i z86).f0 < 65
   ·rw [if_pos h, decide_eq_true h, decide_eq_true (show (l.getD i z86).f0 < 65 ∨ (l.getD i z86).f0 > 90 from .inl h)]
   ·rw [if_neg h]; simp only [h, false_or]
  rw [lC l z86 i (by omega), jc]; by_cases h1 : (l.getD i z86).f0 < 65 ∨ (l.getD i z86).f0 > 90
  ·rw [if_pos h1]; refine Ev.step (f := fun _ => some 8) (fun k => ?_) (Ev.now 8); simp only [aA.j2, h1, decide_true, if_true]
  rw [if_neg h1]; by_cases h2 : inP (l.getD i z86).f1 1 1023 = true
  ·rw [if_pos h2]; by_cases h3 : i = 0
   ·subst h3; rw [if_neg (by simp [qQ])]; refine Ev.step (f := fun k => aA.l0 k l (l.length : Int) ((0 + 1 : Nat) : Int) a b l) (fun k => ?_) ?_
    ·simp only [aA.j2, h1, decide_false, JI, Option.bind_some, h2]; rw [if_neg (by decide), if_pos trivial, if_neg (by decide), show wrap64 (((0 : Nat) : Int) + 1) = ((0 + 1 : Nat) : Int) from by unfold wrap64; omega]
    ·have := ih 1 (by omega)
     rwa [xJ] at this
   ·obtain ⟨j, rfl⟩ : ∃ j, i = j + 1 := ⟨i - 1, by omega⟩; rw [xJ]; (have hw : wrap64 (((j + 1 : Nat) : Int) - 1) = (j : Int) := by unfold wrap64; omega); (have hw2 : wrap64 (((j + 1 : Nat) : Int) + 1) = ((j + 1 + 1 : Nat) : Int) := by unfold wrap64; omega); by_cases h4 : (l.getD (j + 1) z86).f0 ≤ (l.getD j z86).f0
    ·rw [if_pos ⟨_, rfl, h4⟩]; refine Ev.step (f := fun _ => some 5) (fun k => ?_) (Ev.now 5); simp only [aA.j2, h1, decide_false, JI, Option.bind_some, h2, hw]; rw [if_neg (by decide), if_pos trivial, if_pos (by omega), if_pos (by omega), if_pos (by omega), Kg, if_pos h4]
    ·rw [if_neg (by rintro ⟨q, hq, h⟩; cases hq; exact h4 h)]; refine Ev.step (f := fun k => aA.l0 k l (l.length : Int) ((j + 1 + 1 : Nat) : Int) a b l) (fun k => ?_) ?_
     ·simp only [aA.j2, h1, decide_false, JI, Option.bind_some, h2, hw, hw2]; rw [if_neg (by decide), if_pos trivial, if_pos (by omega), if_pos (by omega), if_pos (by omega), Kg, if_neg h4]
     ·have := ih (j + 1 + 1) (by omega)
      rwa [xJ] at this
  ·rw [if_neg h2]; refine Ev.step (f := fun _ => some 1) (fun k => ?_) (Ev.now 1); simp only [aA.j2, h1, decide_false, JI, Option.bind_some, h2]; rw [if_neg (by decide), if_neg (by simp)]
theorem Uk (a b : Int) (l : List S86) : Ev (fun k => aA.f k a b l) (kW a b l) := by
 have hj : ∀ x, Ev (fun k => aA.j0 k x a b l) (if x = true then 1 else if a > b then 5 else if l.length = 0 then 7 else if l.length > 8 then 6 else jc none l) := by
  intro x; by_cases h1 : x = true
  ·rw [if_pos h1]; refine Ev.step (f := fun _ => some 1) (fun k => ?_) (Ev.now 1); simp only [aA.j0]; rw [if_pos h1]
  rw [if_neg h1]; by_cases h2 : a > b
  ·rw [if_pos h2]; refine Ev.step (f := fun _ => some 5) (fun k => ?_) (Ev.now 5); simp only [aA.j0]; rw [if_neg h1, if_pos h2]
  rw [if_neg h2]; by_cases h3 : l.length = 0
  ·rw [if_pos h3]; refine Ev.step (f := fun _ => some 7) (fun k => ?_) (Ev.now 7); simp only [aA.j0]; rw [if_neg h1, if_neg h2, if_pos (by omega)]
  rw [if_neg h3]; by_cases h4 : l.length > 8
  ·rw [if_pos h4]; refine Ev.step (f := fun _ => some 6) (fun k => ?_) (Ev.now 6); simp only [aA.j0]; rw [if_neg h1, if_neg h2, if_neg (by omega), if_pos (by omega)]
  rw [if_neg h4]; refine Ev.step (f := fun k => aA.l0 k l (l.length : Int) ((0 : Nat) : Int) a b l) (fun k => ?_) ?_
  ·simp only [aA.j0]; rw [if_neg h1, if_neg h2, if_neg (by omega), if_neg (by omega)]; rfl
  ·have := ND a b l (by omega) l.length 0 (by omega)
   simpa [KL] using this
 refine Ev.congr (f := fun k => aA.j0 k (!(inP a (-3000) 3000 && inP b (-3000) 3000)) a b l) (fun k => ?_) ?_
 ·simp only [aA.f, JI, Option.bind_some]; by_cases h : inP a (-3000) 3000 = true
  ·rw [if_pos h, h, Bool.true_and]
  ·rw [if_neg h]; simp only [Bool.not_eq_true] at h; rw [h, Bool.false_and]
 ·have := hj (!(inP a (-3000) 3000 && inP b (-3000) 3000)); unfold kW; by_cases h : inP a (-3000) 3000 = true ∧ inP b (-3000) 3000 = true
  ·rw [if_pos h]; rw [h.1, h.2, Bool.and_self, Bool.not_true, if_neg (by decide)] at this; rw [h.1, h.2]; exact this
  ·rw [if_neg h]
   have hx : (inP a (-3000) 3000 && inP b (-3000) 3000) = false := by
    simp only [Bool.and_eq_false_iff]; by_cases h' : inP a (-3000) 3000 = true
    ·exact .inr (by simpa [h'] using h)
    ·exact .inl (by simpa using h')
   rw [hx, Bool.not_false, if_pos rfl] at this; rw [hx]; exact this
def jh : List S66 → Int
 | [] => 0
 | h :: r => if kW h.f0.f0 h.f0.f1 h.f1 = 0 then jh r else kW h.f0.f0 h.f0.f1 h.f1
def ku : List S27 → Int
 | [] => 0
 | x :: r => if inP x.f0 0 1023 = true ∧ inP x.f1 0 1023 = true then (if gp x.f1 x.f0 = 0 then ku r else 2) else 1
def jf : List (List S27) → Int
 | [] => 0
 | q :: r => if q.length > 4 then 6 else if ku q = 0 then jf r else ku q
def eH (l0 : List S66) (a1 a2 a3 : Int) (l4 : List (List S27)) : Int :=
 if l0.length = 0 then 7 else if l0.length > 4 then 6 else if jh l0 = 0 then
  (if inP a1 0 10 = true ∧ inP a2 0 10 = true ∧ inP a3 0 40 = true then (if l4.length = 0 then 7 else if l4.length > 8 then 6 else jf l4) else 1)
 else jh l0
theorem Nq (l : List S66) (i : Nat) : ah l (i : Int) = l.getD i z66 := by simp [ah]
theorem agy (l : List S27) (i : Nat) : eB l (i : Int) = l.getD i z27 := by simp [eB]
theorem YM (l : List (List S27)) (i : Nat) : cu l (i : Int) = l.getD i [] := by simp [cu]
theorem zf (i n : Nat) (h : i < n) (hn : n ≤ 9223372036854775807) : wrap64 ((i : Int) + 1) = ((i + 1 : Nat) : Int) := by unfold wrap64; omega
theorem JO (l : List (List S27)) (hl : l.length ≤ 8) : ∀ (d i : Nat), i + d = l.length → Ev (fun k => aI.l1 k l (l.length : Int) (i : Int)) (jf (l.drop i)) := by
 intro d
 induction d with
 | zero =>
  intro i hi; refine Ev.step (f := fun _ => some 0) (fun k => ?_) ?_
  ·simp only [aI.l1]; rw [if_neg (by omega)]
  ·rw [List.drop_eq_nil_of_le (by omega)]; exact Ev.now 0
 | succ d ih =>
  intro i hi; rw [lC l [] i (by omega), jf]; obtain ⟨q, hq⟩ : ∃ q, q = l.getD i [] := ⟨_, rfl⟩; rw [← hq]; by_cases h1 : q.length > 4
  ·rw [if_pos h1]; refine Ev.step (f := fun _ => some 6) (fun k => ?_) (Ev.now 6); simp only [aI.l1]; rw [if_pos (by omega), if_pos (by omega), if_pos (by omega), YM, ← hq, if_pos (by omega)]
  rw [if_neg h1]
  have hin : ∀ (e j : Nat), j + e = q.length → Ev (fun k => aI.l2 k l (l.length : Int) (i : Int) q (q.length : Int) (j : Int)) (if ku (q.drop j) = 0 then jf (l.drop (i + 1)) else ku (q.drop j)) := by
   intro e
   induction e with
   | zero =>
    intro j hj; refine Ev.step (f := fun k => aI.l1 k l (l.length : Int) ((i + 1 : Nat) : Int)) (fun k => ?_) ?_
    ·simp only [aI.l2]; rw [if_neg (by omega), zf i 8 (by omega) (by omega)]
    ·rw [List.drop_eq_nil_of_le (show q.length ≤ j by omega), ku, if_pos rfl]; exact ih (i + 1) (by omega)
   | succ e ih2 =>
    intro j hj; rw [lC q z27 j (by omega), ku]; obtain ⟨x, hx⟩ : ∃ x, x = q.getD j z27 := ⟨_, rfl⟩; rw [← hx]; refine Ev.step (f := fun k => aI.j4 k l (l.length : Int) (i : Int) q (q.length : Int) (j : Int) (!(inP x.f0 0 1023 && inP x.f1 0 1023)) x.f0 x.f1) (fun k => ?_) ?_
    ·simp only [aI.l2, JI, Option.bind_some]; rw [if_pos (by omega), if_pos (by omega), if_pos (by omega), agy, ← hx]; by_cases h : inP x.f0 0 1023 = true
     ·rw [if_pos h, h, Bool.true_and]
     ·rw [if_neg h]; simp only [Bool.not_eq_true] at h; rw [h, Bool.false_and]
    by_cases h : inP x.f0 0 1023 = true ∧ inP x.f1 0 1023 = true
    ·rw [if_pos h, h.1, h.2, Bool.and_self, Bool.not_true]; by_cases h5 : gp x.f1 x.f0 = 0
     ·rw [if_pos h5]; refine Ev.step (f := fun k => aI.l2 k l (l.length : Int) (i : Int) q (q.length : Int) ((j + 1 : Nat) : Int)) (fun k => ?_) (ih2 (j + 1) (by omega)); simp only [aI.j4, fD.f, Option.bind_some]; rw [if_neg (by decide), if_pos (show Go.bits .andNot .i64 x.f1 x.f0 = 0 from h5), zf j 8 (by omega) (by omega)]
     ·rw [if_neg h5, if_neg (by decide)]; refine Ev.step (f := fun _ => some 2) (fun k => ?_) (Ev.now 2); simp only [aI.j4, fD.f, Option.bind_some]; rw [if_neg (by decide), if_neg (show ¬ Go.bits .andNot .i64 x.f1 x.f0 = 0 from h5)]
    ·rw [if_neg h, if_neg (by decide)]
     have hx : (inP x.f0 0 1023 && inP x.f1 0 1023) = false := by
      simp only [Bool.and_eq_false_iff]; by_cases h' : inP x.f0 0 1023 = true
      ·exact .inr (by simpa [h'] using h)
      ·exact .inl (by simpa using h')
     rw [hx, Bool.not_false]; refine Ev.step (f := fun _ => some 1) (fun k => ?_) (Ev.now 1); simp only [aI.j4]; rw [if_pos trivial]
  refine Ev.step (f := fun k => aI.l2 k l (l.length : Int) (i : Int) q (q.length : Int) ((0 : Nat) : Int)) (fun k => ?_) ?_
  ·simp only [aI.l1]; rw [if_pos (by omega), if_pos (by omega), if_pos (by omega), YM, ← hq, if_neg (by omega)]; rfl
  ·have := hin q.length 0 (by omega)
   simpa using this
theorem Q8 (l0 : List S66) (a1 a2 a3 : Int) (l4 : List (List S27)) : Ev (fun k => aI.f k l0 a1 a2 a3 l4) (eH l0 a1 a2 a3 l4) := by
 unfold eH; by_cases h1 : l0.length = 0
 ·rw [if_pos h1]; refine Ev.congr (f := fun _ => some 7) (fun k => ?_) (Ev.now 7); simp only [aI.f]; rw [if_pos (by omega)]
 rw [if_neg h1]; by_cases h2 : l0.length > 4
 ·rw [if_pos h2]; refine Ev.congr (f := fun _ => some 6) (fun k => ?_) (Ev.now 6); simp only [aI.f]; rw [if_neg (by omega), if_pos (by omega)]
 rw [if_neg h2]
 have hj : ∀ x, Ev (fun k => aI.j1 k x l0 a1 a2 a3 l4) (if x = true then 1 else if l4.length = 0 then 7 else if l4.length > 8 then 6 else jf l4) := by
  intro x; by_cases h3 : x = true
  ·rw [if_pos h3]; refine Ev.step (f := fun _ => some 1) (fun k => ?_) (Ev.now 1); simp only [aI.j1]; rw [if_pos h3]
  rw [if_neg h3]; by_cases h4 : l4.length = 0
  ·rw [if_pos h4]; refine Ev.step (f := fun _ => some 7) (fun k => ?_) (Ev.now 7); simp only [aI.j1]; rw [if_neg h3, if_pos (by omega)]
  rw [if_neg h4]; by_cases h5 : l4.length > 8
  ·rw [if_pos h5]; refine Ev.step (f := fun _ => some 6) (fun k => ?_) (Ev.now 6); simp only [aI.j1]; rw [if_neg h3, if_neg (by omega), if_pos (by omega)]
  rw [if_neg h5]; refine Ev.step (f := fun k => aI.l1 k l4 (l4.length : Int) ((0 : Nat) : Int)) (fun k => ?_) ?_
  ·simp only [aI.j1]; rw [if_neg h3, if_neg (by omega), if_neg (by omega)]; rfl
  ·have := JO l4 (by omega) l4.length 0 (by omega)
   simpa using this
 have hl : ∀ (d i : Nat), i + d = l0.length → Ev (fun k => aI.l0 k l0 (l0.length : Int) (i : Int) l0 a1 a2 a3 l4) (if jh (l0.drop i) = 0 then
  (if inP a1 0 10 = true ∧ inP a2 0 10 = true ∧ inP a3 0 40 = true then (if l4.length = 0 then 7 else if l4.length > 8 then 6 else jf l4) else 1) else jh (l0.drop i)) := by
  intro d
  induction d with
  | zero =>
   intro i hi; rw [List.drop_eq_nil_of_le (by omega), jh, if_pos rfl]; refine Ev.step (f := fun k => aI.j1 k (!(inP a1 0 10 && (inP a2 0 10 && inP a3 0 40))) l0 a1 a2 a3 l4) (fun k => ?_) ?_
   ·simp only [aI.l0, JI, Option.bind_some]; rw [if_neg (by omega)]; by_cases h3 : inP a1 0 10 = true
    ·rw [if_pos h3, h3, Bool.true_and]; by_cases h4 : inP a2 0 10 = true
     ·rw [if_pos h4, h4, Bool.true_and]
     ·rw [if_neg h4]; simp only [Bool.not_eq_true] at h4; rw [h4, Bool.false_and]
    ·rw [if_neg h3]; simp only [Bool.not_eq_true] at h3; rw [h3, Bool.false_and]
   ·have := hj (!(inP a1 0 10 && (inP a2 0 10 && inP a3 0 40))); by_cases h : inP a1 0 10 = true ∧ inP a2 0 10 = true ∧ inP a3 0 40 = true
    ·rw [if_pos h]; rw [h.1, h.2.1, h.2.2] at this ⊢; exact this
    ·rw [if_neg h]
     have hx : (inP a1 0 10 && (inP a2 0 10 && inP a3 0 40)) = false := by
      rw [Bool.eq_false_iff]; intro hh; simp only [Bool.and_eq_true] at hh; exact h hh
     rw [hx] at this ⊢; exact this
  | succ d ih =>
   intro i hi; rw [lC l0 z66 i (by omega), jh]; refine Ev.step (f := fun k => (aA.f k (l0.getD i z66).f0.f0 (l0.getD i z66).f0.f1 (l0.getD i z66).f1).bind fun t => if t = 0 then aI.l0 k l0 (l0.length : Int) ((i + 1 : Nat) : Int) l0 a1 a2 a3 l4 else some t) (fun k => ?_) ?_
   ·simp only [aI.l0]; rw [if_pos (by omega), if_pos (by omega), if_pos (by omega), Nq, zf i 8 (by omega) (by omega)]
   ·refine Ev.bind (Uk _ _ _) ?_; by_cases h3 : kW (l0.getD i z66).f0.f0 (l0.getD i z66).f0.f1 (l0.getD i z66).f1 = 0
    ·simp only [h3, if_true]; exact ih (i + 1) (by omega)
    ·simp only [h3, if_false]; exact Ev.now _
 have := hl l0.length 0 (by omega); refine Ev.congr (f := fun k => aI.l0 k l0 (l0.length : Int) ((0 : Nat) : Int) l0 a1 a2 a3 l4) (fun k => ?_) (by simpa using this); simp only [aI.f]; rw [if_neg (by omega), if_neg (by omega)]; rfl
theorem kI {l0 : List S66} {a1 a2 a3 : Int} {l4 : List (List S27)} (h : eH l0 a1 a2 a3 l4 = 0) : 0 < l0.length ∧ l0.length ≤ 4 ∧ 0 < l4.length ∧ l4.length ≤ 8 ∧ jh l0 = 0 ∧ jf l4 = 0 ∧ inP a1 0 10 = true ∧ inP a2 0 10 = true ∧ inP a3 0 40 = true := by
 unfold eH at h; split at h
 ·exact absurd h (by decide)
 split at h
 ·exact absurd h (by decide)
 split at h
 ·split at h
  ·split at h
   ·exact absurd h (by decide)
   split at h
   ·exact absurd h (by decide)
   ·rename_i h1 h2 h3 h4 h5 h6; exact ⟨by omega, by omega, by omega, by omega, h3, h, h4⟩
  ·exact absurd h (by decide)
 ·rename_i h1 h2 h3; exact absurd h h3
theorem EW {l0 : List S66} (h : jh l0 = 0) : ∀ x ∈ l0, kW x.f0.f0 x.f0.f1 x.f1 = 0 := by
 induction l0 with
 | nil => intro x hx; cases hx
 | cons y r ih =>
  rw [jh] at h; split at h
  ·rename_i h1; intro x hx; rcases List.mem_cons.1 hx with rfl | hx
   ·exact h1
   ·exact ih h x hx
  ·rename_i h1; exact absurd h h1
theorem Aj {a b : Int} {l : List S86} (h : kW a b l = 0) : inP a (-3000) 3000 = true ∧ inP b (-3000) 3000 = true ∧ a ≤ b ∧ 0 < l.length ∧ l.length ≤ 8 ∧ jc none l = 0 := by
 unfold kW at h; split at h
 ·rename_i h0; split at h
  ·exact absurd h (by decide)
  split at h
  ·exact absurd h (by decide)
  split at h
  ·exact absurd h (by decide)
  ·rename_i h1 h2 h3; exact ⟨h0.1, h0.2, by omega, by omega, by omega, h⟩
 ·exact absurd h (by decide)
theorem uG {l0 : List S66} (h : jh l0 = 0) : ∀ i : Nat, i < l0.length → (ah l0 (i : Int)).f1.length ≤ 8 := fun i hi => by
 rw [Nq, List.getD_eq_getElem?_getD, List.getElem?_eq_getElem hi]; exact (Aj (EW h _ (List.getElem_mem hi))).2.2.2.2.1
theorem Ap (eD : Option Addr) (dR : Nat) (aU : List (S66)) (aY : Int) (bI : Int) (bT : Int) (ek : Option Addr) (dQ : Nat) (aV : List (List (S27))) (w : World) (mO : Kd.C k66 w eD aU.length aU) (ou : aU.length ≤ dR) (mP : Kd.C (Kd.slice 27 k27) w ek aV.length aV) (oD : aV.length ≤ dQ) :
 Calls Try.prog 40 #[.agg #[.slice eD aU.length dR, .int .i64 aY, .int .i64 bI, .int .i64 bT, .slice ek aV.length dQ]] w fun e w' => e = .returned (.int .i64 (eH aU aY bI bT aV)) ∧ Below w.heap.size w w' := by
 obtain ⟨k, hk⟩ := (Q8 aU aY bI bT aV).rounds; exact aI.calls k eD dR aU aY bI bT ek dQ aV _ w mO ou mP oD hk
def EvI {α : Type} (g : Nat → Option α) (P : α → Prop) : Prop := ∃ r, Ev g r ∧ P r
theorem EvI.now {α : Type} {P : α → Prop} {r : α} (h : P r) : EvI (fun _ => some r) P := ⟨r, Ev.now r, h⟩
theorem EvI.step {α : Type} {g f : Nat → Option α} {P : α → Prop} (h : ∀ k, g (k + 1) = f k) (k : EvI f P) : EvI g P := by
 obtain ⟨r, hr, hp⟩ := k; exact ⟨r, Ev.step h hr, hp⟩
theorem EvI.bind {α β : Type} {g : Nat → Option α} {f : Nat → α → Option β} {P : α → Prop} {Q : β → Prop} (h : EvI g P) (k : ∀ a, P a → EvI (fun n => f n a) Q) : EvI (fun n => (g n).bind (f n)) Q := by
 obtain ⟨a, ha, hp⟩ := h; obtain ⟨r, hr, hq⟩ := k a hp; exact ⟨r, Ev.bind ha hr, hq⟩
theorem EvI.call {α β : Type} {o : Option α} {f : Nat → α → Option β} {a : α} {Q : β → Prop} (h : o = some a) (k : EvI (fun n => f n a) Q) : EvI (fun n => o.bind (f n)) Q := by
 subst h; exact k
theorem EvI.pos {α : Type} {c : Prop} [Decidable c] {g f : Nat → Option α} {P : α → Prop} (h : c) (k : EvI f P) : EvI (fun n => if c then f n else g n) P := by
 simp only [if_pos h]; exact k
theorem EvI.neg {α : Type} {c : Prop} [Decidable c] {g f : Nat → Option α} {P : α → Prop} (h : ¬ c) (k : EvI g P) : EvI (fun n => if c then f n else g n) P := by
 simp only [if_neg h]; exact k
theorem EvI.ite {α : Type} {c : Prop} [Decidable c] {g f : Nat → Option α} {P : α → Prop} (k1 : c → EvI f P) (k2 : ¬ c → EvI g P) : EvI (fun n => if c then f n else g n) P := by
 by_cases h : c
 ·exact EvI.pos h (k1 h)
 ·exact EvI.neg h (k2 h)
theorem EvI.rounds {α : Type} {g : Nat → Option α} {P : α → Prop} (h : EvI g P) : ∃ r, (∃ k, g k = some r) ∧ P r := by
 obtain ⟨r, hr, hp⟩ := h; exact ⟨r, hr.rounds, hp⟩
theorem eT {x : Int} (h0 : -9223372036854775808 ≤ x) (h1 : x < 9223372036854775808) : wrap64 x = x := by unfold wrap64; omega
theorem TQ (a b : Int) : ∃ r x y, dZ.f a b = some (r, x, y) ∧ 0 ≤ r := by
 unfold dZ.f; split
 ·exact ⟨_, _, _, rfl, by simp only [IntKind.wrap, IntKind.bits, IntKind.signed, Bool.false_and, Bool.false_eq_true, if_false]; omega⟩
 ·exact ⟨_, _, _, rfl, by simp only [IntKind.wrap, IntKind.bits, IntKind.signed, Bool.false_and, Bool.false_eq_true, if_false]; omega⟩
theorem uC (a b n : Int) (h1 : 1 ≤ n) (h2 : n ≤ 4611686018427387904) : ∃ v x y, aZ.f a b n = some (v, x, y) ∧ 0 ≤ v ∧ v < n := by
 unfold aZ.f; by_cases h : n < 2
 ·rw [if_pos h]; exact ⟨_, _, _, rfl, by omega, by omega⟩
 ·rw [if_neg h]; obtain ⟨r, x, y, hr, h0⟩ := TQ a b; (have hw : IntKind.u64.wrap n = n := by simp only [IntKind.wrap, IntKind.bits, IntKind.signed, Bool.false_and, Bool.false_eq_true, if_false]; omega); rw [hr, Option.bind_some, hw, if_neg (by omega)]; have hm0 : 0 ≤ Int.tmod (r / 2048) n := Int.tmod_nonneg _ (by omega); have hm1 : Int.tmod (r / 2048) n < n := Int.tmod_lt_of_pos _ (by omega); refine ⟨_, _, _, rfl, ?_, ?_⟩
  ·simp only []; rw [eT (by omega) (by omega)]; exact hm0
  ·simp only []; rw [eT (by omega) (by omega)]; exact hm1
theorem xI (a b lo hi : Int) (h : lo ≤ hi) (h1 : -1000000 ≤ lo) (h2 : hi ≤ 1000000) : ∃ v x y, bZ.f a b lo hi = some (v, x, y) ∧ lo ≤ v ∧ v ≤ hi := by
 unfold bZ.f; rw [eT (x := hi - lo) (by omega) (by omega), eT (x := hi - lo + 1) (by omega) (by omega)]; obtain ⟨v, x, y, hv, h3, h4⟩ := uC a b (hi - lo + 1) (by omega) (by omega); rw [hv, Option.bind_some]; refine ⟨_, _, _, rfl, ?_, ?_⟩ <;> (simp only []; rw [eT (by omega) (by omega)]; omega)
theorem Kw (a b n m : Int) (h1 : 1 ≤ m) (h2 : m ≤ 1000000) : ∃ v x y, dA.f a b n m = some (v, x, y) := by
 unfold dA.f; obtain ⟨v, x, y, hv, h3, h4⟩ := uC a b m h1 (by omega); rw [hv, Option.bind_some]; exact ⟨_, _, _, rfl⟩
theorem EX (a b : Int) (l : List Int) (h1 : l ≠ []) (h2 : l.length ≤ 1000) : ∃ v x y, dO.f a b l = some (v, x, y) ∧ v ∈ l := by
 have hl : 0 < l.length := List.length_pos_iff.2 h1; unfold dO.f; rw [if_neg (by omega)]; obtain ⟨v, x, y, hv, h3, h4⟩ := uC a b (l.length : Int) (by omega) (by omega); rw [hv, Option.bind_some]; simp only []; rw [if_pos h3, if_pos h4]; refine ⟨_, _, _, rfl, ?_⟩; obtain ⟨i, rfl⟩ := Int.eq_ofNat_of_zero_le h3; (have hi : i < l.length := by omega); (have : rd l (i : Int) = l[i] := by simp [rd, List.getD_eq_getElem?_getD, hi]); rw [this]; exact List.getElem_mem _
def Asc (l : List S86) : Prop := (∀ s ∈ l, 65 ≤ s.f0 ∧ s.f0 ≤ 90 ∧ 1 ≤ s.f1 ∧ s.f1 ≤ 31) ∧ l.Pairwise (fun a b => a.f0 < b.f0)
theorem Asc.shapes : ∀ {l : List S86} {p : Option Int}, Asc l → (∀ q, p = some q → ∀ s ∈ l, q < s.f0) → jc p l = 0
 | [], _, _, _ => by simp [jc]
 | s :: r, p, h, hp => by
  obtain ⟨h1, h2⟩ := h; have hs := h1 s List.mem_cons_self; rw [jc, if_neg (by omega), if_pos (nV.2 (by omega)), if_neg]
  ·exact Asc.shapes ⟨fun t ht => h1 t (List.mem_cons_of_mem _ ht), (List.pairwise_cons.1 h2).2⟩ (fun q hq t ht => by cases hq; exact (List.pairwise_cons.1 h2).1 t ht)
  ·rintro ⟨q, hq, hle⟩; have := hp q hq s List.mem_cons_self; omega
def pm (m : Int) (h : S66) : Prop := -600 ≤ h.f0.f0 ∧ h.f0.f0 ≤ h.f0.f1 ∧ h.f0.f1 ≤ 500 ∧ Asc h.f1 ∧ 0 < h.f1.length ∧ (h.f1.length : Int) ≤ m
theorem pm.valid {m : Int} {h : S66} (hg : pm m h) (hm : m ≤ 8) : kW h.f0.f0 h.f0.f1 h.f1 = 0 := by
 obtain ⟨h1, h2, h3, h4, h5, h6⟩ := hg; rw [kW, if_pos ⟨nV.2 (by omega), nV.2 (by omega)⟩, if_neg (by omega), if_neg (by omega), if_neg (by omega)]; exact h4.shapes (fun q hq => by cases hq)
theorem Vg : ∀ (d : Nat) (x7 x8 a b lo hi : Int) (l : List S86), 0 ≤ x7 → x7 ≤ 26 → 0 ≤ x8 → x8 = (d : Int) → d ≤ 100 → l.length + d ≤ 200 → Asc l → (∀ s ∈ l, s.f0 < 65 + x7) →
 EvI (fun k => aJ.l0 k x7 x8 a b lo hi l) fun r => r.1 = lo ∧ r.2.1 = hi ∧ Asc r.2.2.1 ∧ l.length ≤ r.2.2.1.length ∧ (r.2.2.1.length : Int) ≤ l.length + x8 ∧ (0 < x8 → x7 < 26 → l.length < r.2.2.1.length) := by
 intro d
 induction d with
 | zero =>
  intro x7 x8 a b lo hi l h1 h2 h3 h4 hd hl ha hb; refine EvI.step (f := fun k => aJ.j1 k x7 x8 false a b lo hi l) (fun k => by rw [aJ.l0, if_neg (by omega)]) ?_; refine EvI.step (f := fun k => some (lo, hi, l, a, b)) (fun k => by rw [aJ.j1, if_neg (by simp)]) ?_; refine EvI.now ⟨rfl, rfl, ha, by simp, by simp; omega, fun h => by omega⟩
 | succ d ih =>
  intro x7 x8 a b lo hi l h1 h2 h3 h4 hd hl ha hb; refine EvI.step (f := fun k => aJ.j1 k x7 x8 (decide (x7 < 26)) a b lo hi l) (fun k => by rw [aJ.l0, if_pos (by omega)]) ?_; by_cases h26 : ¬ x7 < 26
  ·refine EvI.step (f := fun k => some (lo, hi, l, a, b)) (fun k => by rw [aJ.j1, if_neg (by simp; omega)]) ?_; refine EvI.now ⟨rfl, rfl, ha, by simp, by simp; omega, fun _ h => by omega⟩
  replace h26 := Decidable.of_not_not h26; obtain ⟨n, x, y, hn, h5, h6⟩ := uC a b (mn 4 (wrap64 (26 - x7))) (by rw [eT (by omega) (by omega)]; unfold mn; split <;> omega) (by rw [eT (by omega) (by omega)]; unfold mn; split <;> omega)
  have h7 : n < 26 - x7 := by
   rw [eT (by omega) (by omega)] at h6; unfold mn at h6; split at h6 <;> omega
  obtain ⟨s, x', y', hs, h8, h9⟩ := xI x y 1 31 (by omega) (by omega) (by omega); have e1 : wrap64 (x7 + n) = x7 + n := eT (by omega) (by omega); (have e2 : wrap64 (65 + (x7 + n)) % 256 = 65 + x7 + n := by rw [eT (by omega) (by omega)]; omega); have e3 : wrap64 (x7 + n + 1) = x7 + n + 1 := eT (by omega) (by omega); have e4 : wrap64 (x8 - 1) = (d : Int) := by rw [eT (by omega) (by omega)]; omega
  refine EvI.step (f := fun k => aJ.l0 k (x7 + n + 1) (d : Int) x' y' lo hi (l ++ [⟨65 + x7 + n, s⟩])) (fun k => by
   rw [aJ.j1, if_pos (decide_eq_true h26), hn, Option.bind_some]; simp only []; rw [hs, Option.bind_some]; simp only []
   rw [if_pos (by omega), e1, e2, e3, e4]) ?_
  obtain ⟨r, hr, r1, r2, r3, r4, r5, r6⟩ := ih (x7 + n + 1) (d : Int) x' y' lo hi (l ++ [⟨65 + x7 + n, s⟩]) (by omega) (by omega) (by omega) rfl (by omega) (by simp; omega) (by
   refine ⟨fun t ht => ?_, ?_⟩
   ·rcases List.mem_append.1 ht with ht | ht
    ·exact ha.1 t ht
    ·rw [List.mem_singleton] at ht; subst ht; exact ⟨by simp only []; omega, by simp only []; omega, h8, h9⟩
   ·refine List.pairwise_append.2 ⟨ha.2, by simp, fun t ht u hu => ?_⟩; rw [List.mem_singleton] at hu; subst hu; have := hb t ht; simp only []
    omega) (fun t ht => by
    rcases List.mem_append.1 ht with ht | ht
    ·have := hb t ht; omega
    ·rw [List.mem_singleton] at ht; subst ht; simp only []
     omega)
  simp only [List.length_append, List.length_cons, List.length_nil] at r4 r5; refine ⟨r, hr, r1, r2, r3, by omega, by push_cast at r5; omega, fun _ _ => by omega⟩
theorem Hr (a b m : Int) (h1 : 1 ≤ m) (h2 : m ≤ 100) : EvI (fun k => aJ.f k a b m) fun r => pm m ⟨⟨r.1, r.2.1⟩, r.2.2.1⟩ := by
 obtain ⟨lo, x, y, hlo, h3, h4⟩ := xI a b (-600) 300 (by omega) (by omega) (by omega); obtain ⟨u, x', y', hu, h5, h6⟩ := uC x y 200 (by omega) (by omega); obtain ⟨n, x2, y2, hn, h7, h8⟩ := xI x' y' 1 m h1 (by omega) (by omega); have e : wrap64 (lo + u) = lo + u := eT (by omega) (by omega); obtain ⟨d, rfl⟩ := Int.eq_ofNat_of_zero_le (show 0 ≤ n by omega); obtain ⟨r, hr, r1, r2, r3, r4, r5, r6⟩ := Vg d 0 (d : Int) x2 y2 lo (lo + u) [] (by omega) (by omega) (by omega) rfl (by omega) (by simp; omega) ⟨fun s hs => absurd hs List.not_mem_nil, List.Pairwise.nil⟩ (fun s hs => absurd hs List.not_mem_nil); have r7 := r6 (by omega) (by omega); simp only [List.length_nil] at r5 r7; simp only [aJ.f]; refine EvI.call hlo (EvI.call hu (EvI.call hn ?_)); simp only [e]; refine ⟨r, hr, ?_⟩; refine ⟨by simp only []; omega, by simp only []; omega, by simp only []; omega, r3, r7, by simp only []; omega⟩
abbrev AB := (List S66) × Int × Int × Int × (List (List S27)) × Int × ByteArray × List Int × Int × Int
def qw (x : S27) : Prop := inP x.f0 0 1023 = true ∧ inP x.f1 0 1023 = true ∧ gp x.f1 x.f0 = 0
def oZ (a1 a2 a3 : Int) (r : AB) : Prop :=
 (0 < r.1.length ∧ (r.1.length : Int) ≤ a1 ∧ ∀ h ∈ r.1, pm a2 h) ∧ (0 ≤ r.2.1 ∧ r.2.1 ≤ 2) ∧ (0 ≤ r.2.2.1 ∧ r.2.2.1 ≤ 2) ∧ (0 ≤ r.2.2.2.1 ∧ r.2.2.2.1 ≤ 40) ∧
  0 < r.2.2.2.2.1.length ∧ (r.2.2.2.2.1.length : Int) ≤ a3 ∧ ∀ q ∈ r.2.2.2.2.1, q.length ≤ 4 ∧ ∀ x ∈ q, qw x
theorem wrap_small {n : Nat} (h : n ≤ 1023) : IntKind.i64.wrap (n : Int) = (n : Int) := by
 have e : wrap64 (n : Int) = IntKind.i64.wrap (n : Int) := by
  simp only [IntKind.wrap, IntKind.bits, IntKind.signed, wrap64]; simp; split <;> omega
 rw [← e, eT (by omega) (by omega)]
theorem Ej (x : BitVec 64) : BitVec.ofInt IntKind.i64.bits ((x.toNat : Nat) : Int) = x := by
 show BitVec.ofInt 64 ((x.toNat : Nat) : Int) = x; rw [BitVec.ofInt_natCast, BitVec.ofNat_toNat, BitVec.setWidth_eq]
theorem EI (v s : Int) (h0 : 0 ≤ s) (h1 : s ≤ 31) : qw ⟨s, Go.bits .and .i64 v s⟩ := by
 obtain ⟨n, rfl⟩ := Int.eq_ofNat_of_zero_le h0
 have hn : (BitVec.ofInt 64 ((n : Nat) : Int)).toNat = n := by
  rw [BitVec.ofInt_natCast, BitVec.toNat_ofNat]; exact Nat.mod_eq_of_lt (by omega)
 have hle : (BitVec.ofInt 64 v &&& BitVec.ofInt 64 ((n : Nat) : Int)).toNat ≤ 31 := by
  rw [BitVec.toNat_and, hn]; have := @Nat.and_le_right (BitVec.ofInt 64 v).toNat n; omega
 have hb : Go.bits .and .i64 v ((n : Nat) : Int) = ((BitVec.ofInt 64 v &&& BitVec.ofInt 64 ((n : Nat) : Int)).toNat : Int) := wrap_small (n := (BitVec.ofInt 64 v &&& BitVec.ofInt 64 ((n : Nat) : Int)).toNat) (by omega)
 have hz : (BitVec.ofInt 64 v &&& BitVec.ofInt 64 ((n : Nat) : Int)) &&& ~~~(BitVec.ofInt 64 ((n : Nat) : Int)) = (0 : BitVec 64) := by
  rw [BitVec.and_assoc]; simp
 refine ⟨nV.2 ⟨by simp only []; omega, by simp only []; omega⟩, nV.2 ⟨?_, ?_⟩, ?_⟩
 ·simp only []; rw [hb]; omega
 ·simp only []; rw [hb]; omega
 ·simp only []; rw [hb]; unfold gp Go.bits; rw [Ej]; exact congrArg (fun x : BitVec 64 => IntKind.i64.wrap (x.toNat : Int)) hz
theorem TK (P : AB → Prop) (x13 : List S86) (x14 x15 x17 : Int) (hs : List S66) (w c t : Int) (sq : List (List S27)) (cut : Int) (txt : ByteArray) (vis : List Int) (y0 y1 : Int)
 (ht : txt.size ≤ 100000) (hv : vis.length ≤ 100000) (hq : sq.length ≤ 100000)
 (K : ∀ (q : List S27) (a b : Int), q.length ≤ 4 → (∀ x ∈ q, qw x) → EvI (fun k => ag.l1 k x13 x14 (wrap64 (x15 - 1)) a b hs w c t (sq ++ [q]) cut (txt ++ strOfNums [y0]) (vis ++ [x17])) P) :
 ∀ (d : Nat) (q : List S27) (a b : Int), q.length + d ≤ 4 → (∀ x ∈ q, qw x) → EvI (fun k => ag.l3 k x13 x14 x15 x17 q (d : Int) a b hs w c t sq cut txt vis y0 y1) P := by
 intro d
 induction d with
 | zero =>
  intro q a b hl hx; refine EvI.step (f := fun k => ag.l1 k x13 x14 (wrap64 (x15 - 1)) a b hs w c t (sq ++ [q]) cut (txt ++ strOfNums [y0]) (vis ++ [x17])) (fun k => ?_) (K q a b (by omega) hx); rw [ag.l3, if_neg (by omega)]; simp only [Option.bind_some]; have e : (strOfNums [y0]).size = 1 := rfl; rw [if_pos (by omega), if_pos (by simp; omega), if_pos (by simp; omega)]
 | succ d ih =>
  intro q a b hl hx; obtain ⟨u, x, y, hu, h3, h4⟩ := uC a b 32 (by omega) (by omega); obtain ⟨s, x', y', hs', hm⟩ := EX x y [31, 15, u] (by simp) (by simp)
  have hs0 : 0 ≤ s ∧ s ≤ 31 := by
   simp only [List.mem_cons, List.not_mem_nil, or_false] at hm; omega
  (have e1 : wrap64 (((d + 1 : Nat) : Int) - 1) = (d : Int) := by rw [eT (by omega) (by omega)]; omega); refine EvI.step (f := fun k => ag.l3 k x13 x14 x15 x17 (q ++ [⟨s, Go.bits .and .i64 x17 s⟩]) (d : Int) x' y' hs w c t sq cut txt vis y0 y1) (fun k => ?_) (ih _ _ _ (by simp; omega) ?_)
  ·rw [ag.l3, if_pos (by omega), hu, Option.bind_some]; simp only []; rw [hs', Option.bind_some]; simp only [Option.bind_some]; rw [if_pos (by simp; omega), e1]
  ·intro z hz; rcases List.mem_append.1 hz with hz | hz
   ·exact hx z hz
   ·rw [List.mem_singleton] at hz; subst hz; exact EI _ _ hs0.1 hs0.2
theorem UT (P : AB → Prop) (x13 : List S86) (x15 : Int) (hs : List S66) (w c t : Int) (sq : List (List S27)) (cut : Int) (txt : ByteArray) (vis : List Int) (y0 y1 : Int) (m0 : Int) (h0 : 0 ≤ m0) (h1 : m0 ≤ 1000000)
 (K : ∀ (m v a b : Int) (n : Nat), 0 ≤ m → m ≤ m0 + 10 → n ≤ 4 → EvI (fun k => ag.l3 k x13 m x15 v [] (n : Int) a b hs w c t sq cut txt vis y0 y1) P) :
 ∀ (d : Nat) (i m v f g a b : Int), i + d = 5 → 0 ≤ i → 0 ≤ m → m ≤ m0 + 2 * i → EvI (fun k => ag.l2 k x13 m x15 v f g i a b hs w c t sq cut txt vis y0 y1) P := by
 intro d
 induction d with
 | zero =>
  intro i m v f g a b hi hi0 hm hm1; obtain ⟨n, x, y, hn, hmem⟩ := EX a b [0, 1, 1, 2, 3] (by simp) (by simp)
  have hn0 : 0 ≤ n ∧ n ≤ 3 := by
   simp only [List.mem_cons, List.not_mem_nil, or_false] at hmem; omega
  obtain ⟨j, rfl⟩ := Int.eq_ofNat_of_zero_le hn0.1; refine EvI.step (f := fun k => ag.l3 k x13 m x15 v [] (j : Int) x y hs w c t sq cut txt vis y0 y1) (fun k => ?_) (K m v x y j hm (by omega) (by omega)); rw [ag.l2, if_neg (by omega), hn, Option.bind_some]
 | succ d ih =>
  intro i m v f g a b hi hi0 hm hm1
  have J : ∀ (h o : Bool) (a b : Int), EvI (fun k => ag.j3 k x13 m x15 v f g i h o a b hs w c t sq cut txt vis y0 y1) P := by
   intro h o a b; have e1 : wrap64 (i + 1) = i + 1 := eT (by omega) (by omega); have e2 : wrap64 (m + 1) = m + 1 := eT (by omega) (by omega); have e3 : wrap64 (m + 1 + 1) = m + 1 + 1 := eT (by omega) (by omega); obtain ⟨p, x, y, hp⟩ := Kw a b 1 3 (by omega) (by omega); (have I0 : ∀ (v f g a b : Int), EvI (fun k => ag.l2 k x13 m x15 v f g (i + 1) a b hs w c t sq cut txt vis y0 y1) P := fun v f g a b => ih (i + 1) m v f g a b (by omega) (by omega) hm (by omega)); (have I1 : ∀ (v f g a b : Int), EvI (fun k => ag.l2 k x13 (m + 1) x15 v f g (i + 1) a b hs w c t sq cut txt vis y0 y1) P := fun v f g a b => ih (i + 1) (m + 1) v f g a b (by omega) (by omega) (by omega) (by omega)); (have I2 : ∀ (v f g a b : Int), EvI (fun k => ag.l2 k x13 (m + 1 + 1) x15 v f g (i + 1) a b hs w c t sq cut txt vis y0 y1) P := fun v f g a b => ih (i + 1) (m + 1 + 1) v f g a b (by omega) (by omega) (by omega) (by omega)); refine EvI.step (fun k => by rw [ag.j3, e1, e2, e3]) ?_; refine EvI.ite (fun _ => EvI.pos hi0 (EvI.ite (fun _ => I1 ..) (fun _ => EvI.ite (fun _ => EvI.call hp (EvI.ite (fun _ => I2 ..) (fun _ => I1 ..))) (fun _ => I1 ..)))) (fun _ => EvI.ite (fun _ => I0 ..) (fun _ => EvI.ite (fun _ => EvI.call hp (EvI.ite (fun _ => EvI.pos hi0 (I1 ..)) (fun _ => I0 ..))) (fun _ => I0 ..)))
  obtain ⟨p, x, y, hp⟩ := Kw a b 1 3 (by omega) (by omega); refine EvI.step (fun k => by rw [ag.l2, if_pos (by omega), if_pos hi0]) ?_; exact EvI.ite (fun _ => EvI.ite (fun _ => EvI.call hp (J ..)) (fun _ => J ..)) (fun _ => J ..)
theorem Tw (a1 a2 a3 : Int) (x13 : List S86) (hx : 0 < x13.length) (hx' : x13.length ≤ 1000) (hs : List S66) (w c t : Int) (hh : 0 < hs.length ∧ (hs.length : Int) ≤ a1 ∧ ∀ h ∈ hs, pm a2 h) (hw : 0 ≤ w ∧ w ≤ 2) (hc : 0 ≤ c ∧ c ≤ 2) (cut : Int) :
 ∀ (d : Nat) (m a b : Int) (sq : List (List S27)) (txt : ByteArray) (vis : List Int), d ≤ 1000 → 0 ≤ m → m + 10 * d ≤ 100000 → ((sq.length : Int) + d ≤ a3) → (0 < sq.length + d) → txt.size + d ≤ 100000 → vis.length + d ≤ 100000 → sq.length + d ≤ 100000 → (∀ q ∈ sq, q.length ≤ 4 ∧ ∀ x ∈ q, qw x) →
  EvI (fun k => ag.l1 k x13 m (d : Int) a b hs w c t sq cut txt vis) (oZ a1 a2 a3) := by
 intro d
 induction d with
 | zero =>
  intro m a b sq txt vis hd hm hm1 h3 h4 h5 h6 h7 hq; obtain ⟨n, x, y, hn, hmem⟩ := EX a b [0, 0, 1, 2] (by simp) (by simp)
  have hn0 : 0 ≤ n ∧ n ≤ 2 := by
   simp only [List.mem_cons, List.not_mem_nil, or_false] at hmem; omega
  refine EvI.step (f := fun k => some (hs, w, c, mn 40 (wrap64 (m + n)), sq, cut, txt, vis, x, y)) (fun k => ?_) (EvI.now ⟨hh, hw, hc, ?_, by simpa using h4, by simp only []; omega, hq⟩)
  ·rw [ag.l1, if_neg (by omega), hn, Option.bind_some]
  ·simp only []; rw [eT (by omega) (by omega)]; unfold mn; split <;> omega
 | succ d ih =>
  intro m a b sq txt vis hd hm hm1 h3 h4 h5 h6 h7 hq; obtain ⟨u, x, y, hu, h8, h9⟩ := uC a b (x13.length : Int) (by omega) (by omega); have ew : wrap64 (w + 1) = w + 1 := eT (by omega) (by omega); have ec : wrap64 (c + 1) = c + 1 := eT (by omega) (by omega); obtain ⟨f, x1, y1, hf, _, _⟩ := uC x y (w + 1) (by omega) (by omega); obtain ⟨g, x2, y2, hg, _, _⟩ := uC x1 y1 (c + 1) (by omega) (by omega); refine EvI.step (f := fun k => ag.l2 k x13 m ((d + 1 : Nat) : Int) ((ai x13 u).f1) f g 0 x2 y2 hs w c t sq cut txt vis ((ai x13 u).f0) ((ai x13 u).f1)) (fun k => ?_) ?_
  ·rw [ag.l1, if_pos (by omega), hu, Option.bind_some]; simp only []; rw [if_pos h8, if_pos h9, ew, hf, Option.bind_some]; simp only []; rw [ec, hg, Option.bind_some]
  refine UT _ x13 _ hs w c t sq cut txt vis _ _ m hm (by omega) (fun m' v a b n hm0 hm1 hn => ?_) 5 0 m _ f g x2 y2 (by omega) (by omega) hm (by omega); refine TK _ x13 m' _ v hs w c t sq cut txt vis _ _ (by omega) (by omega) (by omega) (fun q a b hq1 hq2 => ?_) n [] a b (by simpa using hn) (fun x hx => absurd hx List.not_mem_nil); (have e1 : wrap64 (((d + 1 : Nat) : Int) - 1) = (d : Int) := by rw [eT (by omega) (by omega)]; omega); rw [e1]; refine ih m' a b (sq ++ [q]) _ _ (by omega) hm0 (by omega) (by simp; omega) (by simp; omega) ?_ (by simp; omega) (by simp; omega) ?_
  ·have : (strOfNums [(ai x13 u).f0]).size = 1 := rfl; rw [ByteArray.size_append]; omega
  ·intro z hz; rcases List.mem_append.1 hz with hz | hz
   ·exact hq z hz
   ·rw [List.mem_singleton] at hz; subst hz; exact ⟨hq1, hq2⟩
theorem U2 (a1 a2 a3 : Int) (h2 : 1 ≤ a2) (h2' : a2 ≤ 100) (h3 : 1 ≤ a3) (h3' : a3 ≤ 100) (w c : Int) (hw : 0 ≤ w ∧ w ≤ 2) (hc : 0 ≤ c ∧ c ≤ 2) :
 ∀ (d : Nat) (a b : Int) (hs : List S66), 0 < hs.length + d → (hs.length : Int) + d ≤ a1 → hs.length + d ≤ 1000 → (∀ h ∈ hs, pm a2 h) → EvI (fun k => ag.l0 k a2 a3 (d : Int) a b hs w c 0) (oZ a1 a2 a3) := by
 intro d
 induction d with
 | zero =>
  intro a b hs h4 h5 h6 hh; obtain ⟨u, x, y, hu, h8, h9⟩ := uC a b (hs.length : Int) (by omega) (by omega); obtain ⟨n, x1, y1, hn, h10, h11⟩ := xI x y 1 a3 h3 (by omega) (by omega); obtain ⟨j, rfl⟩ := Int.eq_ofNat_of_zero_le (show 0 ≤ n by omega)
  have hg := hh (ah hs u) (by
   obtain ⟨i, rfl⟩ := Int.eq_ofNat_of_zero_le h8; rw [Nq, List.getD_eq_getElem?_getD, List.getElem?_eq_getElem (by omega)]
   exact List.getElem_mem _)
  refine EvI.step (f := fun k => ag.l1 k ((ah hs u).f1) 0 (j : Int) x1 y1 hs w c 0 [] u ⟨#[]⟩ []) (fun k => ?_) ?_
  ·rw [ag.l0, if_neg (by omega), hu, Option.bind_some]; simp only []; rw [if_pos h8, if_pos h9, hn, Option.bind_some]
  ·refine Tw a1 a2 a3 _ hg.2.2.2.2.1 (by have := hg.2.2.2.2.2; omega) hs w c 0 ⟨by omega, by omega, hh⟩ hw hc u j 0 x1 y1 [] _ [] (by omega) (by omega) (by omega) (by simp; omega) (by simp; omega) ?_ (by simp; omega) (by simp; omega) (fun q hq => absurd hq List.not_mem_nil); have : (ByteArray.mk #[]).size = 0 := rfl; omega
 | succ d ih =>
  intro a b hs h4 h5 h6 hh; (have e1 : wrap64 (((d + 1 : Nat) : Int) - 1) = (d : Int) := by rw [eT (by omega) (by omega)]; omega); refine EvI.step (fun k => by rw [ag.l0, if_pos (by omega), e1]) ?_; refine EvI.bind (Hr a b a2 h2 h2') (fun r hr => ?_); refine EvI.call rfl (EvI.pos ?_ ?_)
  ·simp; omega
  ·refine ih _ _ _ (by simp; omega) (by simp; omega) (by simp; omega) (fun h hm => ?_); rcases List.mem_append.1 hm with hm | hm
   ·exact hh h hm
   ·rw [List.mem_singleton] at hm; subst hm; exact hr
theorem UV (a b a1 a2 a3 : Int) (h1 : 1 ≤ a1) (h1' : a1 ≤ 100) (h2 : 1 ≤ a2) (h2' : a2 ≤ 100) (h3 : 1 ≤ a3) (h3' : a3 ≤ 100) : EvI (fun k => ag.f k a b a1 a2 a3) (oZ a1 a2 a3) := by
 obtain ⟨w, x, y, hw, h4, h5⟩ := uC a b 3 (by omega) (by omega); obtain ⟨c, x1, y1, hc, h6, h7⟩ := uC x y 3 (by omega) (by omega); obtain ⟨n, x2, y2, hn, h8, h9⟩ := xI x1 y1 1 a1 h1 (by omega) (by omega); obtain ⟨j, rfl⟩ := Int.eq_ofNat_of_zero_le (show 0 ≤ n by omega); simp only [ag.f]; refine EvI.call hw (EvI.call hc (EvI.call hn ?_)); exact U2 a1 a2 a3 h2 h2' h3 h3' w c (by omega) (by omega) j x2 y2 [] (by simp; omega) (by simp; omega) (by simp; omega) (fun h hm => absurd hm List.not_mem_nil)
theorem C9 {m : Int} (hm : m ≤ 8) : ∀ {l : List S66}, (∀ h ∈ l, pm m h) → jh l = 0
 | [], _ => rfl
 | h :: r, hh => by
  rw [jh, if_pos ((hh h List.mem_cons_self).valid hm)]; exact C9 hm fun x hx => hh x (List.mem_cons_of_mem _ hx)
theorem AC : ∀ {l : List S27}, (∀ x ∈ l, qw x) → ku l = 0
 | [], _ => rfl
 | x :: r, hh => by
  have h := hh x List.mem_cons_self; rw [ku, if_pos ⟨h.1, h.2.1⟩, if_pos h.2.2]; exact AC fun x hx => hh x (List.mem_cons_of_mem _ hx)
theorem ze : ∀ {l : List (List S27)}, (∀ q ∈ l, q.length ≤ 4 ∧ ∀ x ∈ q, qw x) → jf l = 0
 | [], _ => rfl
 | q :: r, hh => by
  have h := hh q List.mem_cons_self; rw [jf, if_neg (by omega), if_pos (AC h.2)]; exact ze fun x hx => hh x (List.mem_cons_of_mem _ hx)
theorem oZ.check {a1 a2 a3 : Int} {r : AB} (h : oZ a1 a2 a3 r) (h1 : a1 ≤ 4) (h2 : a2 ≤ 8) (h3 : a3 ≤ 8) {t : Int} (h4 : 0 ≤ t) (h5 : t ≤ 40) {sq : List (List S27)} (h6 : sq.length = r.2.2.2.2.1.length) (h7 : ∀ q ∈ sq, q.length ≤ 4 ∧ ∀ x ∈ q, qw x) : eH r.1 r.2.1 r.2.2.1 t sq = 0 := by
 obtain ⟨⟨g1, g2, g3⟩, g4, g5, g6, g7, g8, g9⟩ := h; rw [eH, if_neg (by omega), if_neg (by omega), if_pos (C9 h2 g3), if_pos ⟨nV.2 (by omega), nV.2 (by omega), nV.2 (by omega)⟩, if_neg (by omega), if_neg (by omega)]; exact ze h7
set_option maxRecDepth 100000
theorem P8 : ∀ a b : Fin 32, Go.bits .and .i64 (a.1 : Int) (b.1 : Int) = ((a.1 &&& b.1 : Nat) : Int) := by decide +kernel
theorem aaz : ∀ a b : Fin 32, Go.bits .or .i64 (a.1 : Int) (b.1 : Int) = ((a.1 ||| b.1 : Nat) : Int) := by decide +kernel
theorem WR : ∀ a b : Fin 32, gp (a.1 : Int) (b.1 : Int) = ((a.1 &&& (31 ^^^ b.1) : Nat) : Int) := by decide +kernel
def pop (a : Nat) : Nat := (a.testBit 0).toNat + (a.testBit 1).toNat + (a.testBit 2).toNat + (a.testBit 3).toNat + (a.testBit 4).toNat
theorem RP : ∀ a : Fin 32, nM (a.1 : Int) = (pop a.1 : Int) := by decide +kernel
def lost (s v : Nat) : Nat := pop (s &&& (31 ^^^ v))
def made (s v : Nat) : Nat := pop (v &&& (31 ^^^ s))
theorem ZP : ∀ s v h : Fin 32, pop ((s.1 &&& h.1) &&& (31 ^^^ (v.1 &&& h.1))) ≤ lost s.1 v.1 ∧ pop ((v.1 &&& h.1) &&& (31 ^^^ s.1)) ≤ made s.1 v.1 := by decide +kernel
theorem TL : ∀ (s : Fin 32) (i : Fin 5), Go.bits .and .i64 (shr .i64 (s.1 : Int) (i.1 : Int)) 1 = (if s.1.testBit i.1 then 1 else 0) := by decide +kernel
theorem Ux : ∀ (i : Fin 5), shl .i64 1 (i.1 : Int) = ((2 ^ i.1 : Nat) : Int) := by decide +kernel
def Agree (s v i : Nat) : Bool := (s ^^^ v) / 2 ^ i == 0
theorem NG : ∀ (s v : Fin 32) (i : Fin 5), Agree s.1 v.1 i.1 = true → s.1.testBit i.1 = true → 2 ^ i.1 ≤ v.1 ∧ Agree s.1 (v.1 - 2 ^ i.1) (i.1 + 1) = true ∧ lost s.1 (v.1 - 2 ^ i.1) = lost s.1 v.1 + 1 ∧ made s.1 (v.1 - 2 ^ i.1) = made s.1 v.1 := by decide +kernel
theorem MZ : ∀ (s v : Fin 32) (i : Fin 5), Agree s.1 v.1 i.1 = true → s.1.testBit i.1 = false → v.1 + 2 ^ i.1 < 32 ∧ Agree s.1 (v.1 + 2 ^ i.1) (i.1 + 1) = true ∧ lost s.1 (v.1 + 2 ^ i.1) = lost s.1 v.1 ∧ made s.1 (v.1 + 2 ^ i.1) = made s.1 v.1 + 1 := by decide +kernel
theorem NP : ∀ (s v : Fin 32) (i : Fin 5), Agree s.1 v.1 i.1 = true → Agree s.1 v.1 (i.1 + 1) = true := by decide +kernel
theorem Km : ∀ s : Fin 32, Agree s.1 s.1 0 = true ∧ lost s.1 s.1 = 0 ∧ made s.1 s.1 = 0 := by decide +kernel
theorem Xd : ∀ a b : Fin 32, a.1 ||| b.1 < 32 := by decide +kernel
theorem ahz : ∀ a b c : Fin 32, a.1 &&& b.1 = a.1 → a.1 &&& (b.1 ||| c.1) = a.1 := by decide +kernel
theorem aeu : ∀ a b : Fin 32, a.1 &&& (b.1 ||| a.1) = a.1 := by decide +kernel
theorem ag0 : ∀ v a b : Fin 32, (v.1 &&& a.1) ||| (v.1 &&& b.1) = v.1 &&& (a.1 ||| b.1) := by decide +kernel
theorem afP : ∀ v h x : Fin 32, x.1 &&& h.1 = x.1 → (v.1 &&& h.1) &&& x.1 = v.1 &&& x.1 := by decide +kernel
theorem QW : ∀ a : Fin 32, pop a.1 ≤ 5 := by decide +kernel
def Et (v : Nat) (x : S27) : Prop := ∃ a : Nat, a < 32 ∧ x = ⟨(a : Int), ((v &&& a : Nat) : Int)⟩
theorem Et.ok {v : Nat} (hv : v < 32) {x : S27} (h : Et v x) : qw x := by
 obtain ⟨a, ha, rfl⟩ := h; have := EI (v : Int) (a : Int) (by omega) (by omega); rw [P8 ⟨v, hv⟩ ⟨a, ha⟩] at this; exact this
def fK (sh : List S86) (k : Nat) : Nat := (sh.getD k z86).f1.toNat
def QG (W S : Int) (sh : List S86) (q : List S27) (m c : Int) : Prop :=
 ∃ k v : Nat, k < sh.length ∧ v < 32 ∧ (∀ x ∈ q, Et v x) ∧ (lost (fK sh k) v : Int) ≤ W ∧ (made (fK sh k) v : Int) ≤ S ∧ ((lost (fK sh k) v : Int) + (made (fK sh k) v : Int)) ≤ m ∧ (sh.getD k z86).f0 = c
def yz (W S : Int) (sh : List S86) (sq : List (List S27)) (ms cs : List Int) : Prop := ms.length = sq.length ∧ cs.length = sq.length ∧ ∀ i (h : i < sq.length), QG W S sh sq[i] (ms.getD i 0) (cs.getD i 0)
theorem yz.snoc {W S : Int} {sh : List S86} {sq : List (List S27)} {ms cs : List Int} (h : yz W S sh sq ms cs) {q : List S27} {m c : Int} (hq : QG W S sh q m c) : yz W S sh (sq ++ [q]) (ms ++ [m]) (cs ++ [c]) := by
 obtain ⟨h1, h0, h2⟩ := h; refine ⟨by simp [h1], by simp [h0], fun i hi => ?_⟩; by_cases hi' : i < sq.length
 ·have e1 : (sq ++ [q])[i] = sq[i] := List.getElem_append_left hi'; (have e2 : (ms ++ [m]).getD i 0 = ms.getD i 0 := by simp [List.getD_eq_getElem?_getD, List.getElem?_append_left (show i < ms.length by omega)]); (have e3 : (cs ++ [c]).getD i 0 = cs.getD i 0 := by simp [List.getD_eq_getElem?_getD, List.getElem?_append_left (show i < cs.length by omega)]); rw [e1, e2, e3]; exact h2 i hi'
 ·(have e : i = sq.length := by simp at hi; omega); subst e; (have e1 : (sq ++ [q])[sq.length] = q := by simp); (have e2 : (ms ++ [m]).getD sq.length 0 = m := by rw [← h1]; simp [List.getD_eq_getElem?_getD]); (have e3 : (cs ++ [c]).getD sq.length 0 = c := by rw [← h0]; simp [List.getD_eq_getElem?_getD]); rw [e1, e2, e3]; exact hq
def Jq (sq : List (List S27)) (vis : List Int) : Prop := vis.length = sq.length ∧ ∀ i (h : i < sq.length), ∃ v : Nat, v < 32 ∧ vis.getD i 0 = (v : Int) ∧ ∀ x ∈ sq[i], Et v x
theorem Jq.snoc {sq : List (List S27)} {vis : List Int} (h : Jq sq vis) {q : List S27} {v : Nat} (hv : v < 32) (hq : ∀ x ∈ q, Et v x) : Jq (sq ++ [q]) (vis ++ [(v : Int)]) := by
 obtain ⟨h1, h2⟩ := h; refine ⟨by simp [h1], fun i hi => ?_⟩; by_cases hi' : i < sq.length
 ·have e1 : (sq ++ [q])[i] = sq[i] := List.getElem_append_left hi'; (have e2 : (vis ++ [(v : Int)]).getD i 0 = vis.getD i 0 := by simp [List.getD_eq_getElem?_getD, List.getElem?_append_left (show i < vis.length by omega)]); rw [e1, e2]; exact h2 i hi'
 ·(have e : i = sq.length := by simp at hi; omega); subst e; (have e1 : (sq ++ [q])[sq.length] = q := by simp); (have e2 : (vis ++ [(v : Int)]).getD sq.length 0 = v := by rw [← h1]; simp [List.getD_eq_getElem?_getD]); rw [e1]; exact ⟨v, hv, e2, hq⟩
def MH (r : AB) : Prop := 0 ≤ r.2.2.2.2.2.1 ∧ r.2.2.2.2.2.1 < (r.1.length : Int) ∧ ∃ ms cs : List Int, yz r.2.1 r.2.2.1 (ah r.1 r.2.2.2.2.2.1).f1 r.2.2.2.2.1 ms cs ∧ ms.sum ≤ r.2.2.2.1 ∧ r.2.2.2.2.2.2.1 = strOfNums cs ∧ Jq r.2.2.2.2.1 r.2.2.2.2.2.2.2.1
theorem Dx (l : List Int) (y : Int) : strOfNums (l ++ [y]) = strOfNums l ++ strOfNums [y] := ByteArray.ext (by rw [ByteArray.data_append]; simp [strOfNums])
theorem TN (P : AB → Prop) (x13 : List S86) (x14 x15 : Int) (v : Nat) (hv32 : v < 32) (hs : List S66) (w c t : Int) (sq : List (List S27)) (cut : Int) (txt : ByteArray) (vis : List Int) (y0 y1 : Int)
 (ht : txt.size ≤ 100000) (hv : vis.length ≤ 100000) (hq : sq.length ≤ 100000)
 (K : ∀ (q : List S27) (a b : Int), q.length ≤ 4 → (∀ x ∈ q, Et v x) → EvI (fun k => ag.l1 k x13 x14 (wrap64 (x15 - 1)) a b hs w c t (sq ++ [q]) cut (txt ++ strOfNums [y0]) (vis ++ [(v : Int)])) P) :
 ∀ (d : Nat) (q : List S27) (a b : Int), q.length + d ≤ 4 → (∀ x ∈ q, Et v x) → EvI (fun k => ag.l3 k x13 x14 x15 (v : Int) q (d : Int) a b hs w c t sq cut txt vis y0 y1) P := by
 intro d
 induction d with
 | zero =>
  intro q a b hl hx; refine EvI.step (f := fun k => ag.l1 k x13 x14 (wrap64 (x15 - 1)) a b hs w c t (sq ++ [q]) cut (txt ++ strOfNums [y0]) (vis ++ [(v : Int)])) (fun k => ?_) (K q a b (by omega) hx); rw [ag.l3, if_neg (by omega)]; simp only [Option.bind_some]; have e : (strOfNums [y0]).size = 1 := rfl; rw [if_pos (by omega), if_pos (by simp; omega), if_pos (by simp; omega)]
 | succ d ih =>
  intro q a b hl hx; obtain ⟨u, x, y, hu, h3, h4⟩ := uC a b 32 (by omega) (by omega); obtain ⟨s, x', y', hs', hm⟩ := EX x y [31, 15, u] (by simp) (by simp)
  have hs0 : 0 ≤ s ∧ s ≤ 31 := by
   simp only [List.mem_cons, List.not_mem_nil, or_false] at hm; omega
  obtain ⟨n, rfl⟩ := Int.eq_ofNat_of_zero_le hs0.1; (have e1 : wrap64 (((d + 1 : Nat) : Int) - 1) = (d : Int) := by rw [eT (by omega) (by omega)]; omega); refine EvI.step (f := fun k => ag.l3 k x13 x14 x15 (v : Int) (q ++ [⟨(n : Int), Go.bits .and .i64 (v : Int) (n : Int)⟩]) (d : Int) x' y' hs w c t sq cut txt vis y0 y1) (fun k => ?_) (ih _ _ _ (by simp; omega) ?_)
  ·rw [ag.l3, if_pos (by omega), hu, Option.bind_some]; simp only []; rw [hs', Option.bind_some]; simp only [Option.bind_some]; rw [if_pos (by simp; omega), e1]
  ·intro z hz; rcases List.mem_append.1 hz with hz | hz
   ·exact hx z hz
   ·rw [List.mem_singleton] at hz; subst hz; exact ⟨n, by omega, by rw [P8 ⟨v, hv32⟩ ⟨n, by omega⟩]⟩
theorem Uq (P : AB → Prop) (x13 : List S86) (x15 : Int) (hs : List S66) (w c t : Int) (sq : List (List S27)) (cut : Int) (txt : ByteArray) (vis : List Int) (y0 : Int) (s : Nat) (hs32 : s < 32) (m0 w0 c0 : Int) (h0 : 0 ≤ m0) (h1 : m0 ≤ 1000000) (hw0 : w0 ≤ 100) (hc0 : c0 ≤ 100)
 (K : ∀ (v : Nat) (a b : Int) (n : Nat), v < 32 → (lost s v : Int) ≤ w0 → (made s v : Int) ≤ c0 → n ≤ 4 → EvI (fun k => ag.l3 k x13 (m0 + (lost s v : Int) + (made s v : Int)) x15 (v : Int) [] (n : Int) a b hs w c t sq cut txt vis y0 (s : Int)) P) :
 ∀ (d i v : Nat) (a b : Int), i + d = 5 → v < 32 → Agree s v i = true → (lost s v : Int) ≤ w0 → (made s v : Int) ≤ c0 →
  EvI (fun k => ag.l2 k x13 (m0 + (lost s v : Int) + (made s v : Int)) x15 (v : Int) (w0 - (lost s v : Int)) (c0 - (made s v : Int)) (i : Int) a b hs w c t sq cut txt vis y0 (s : Int)) P := by
 intro d
 induction d with
 | zero =>
  intro i v a b hi hv ha hl hm; obtain ⟨n, x, y, hn, hmem⟩ := EX a b [0, 1, 1, 2, 3] (by simp) (by simp)
  have hn0 : 0 ≤ n ∧ n ≤ 3 := by
   simp only [List.mem_cons, List.not_mem_nil, or_false] at hmem; omega
  obtain ⟨j, rfl⟩ := Int.eq_ofNat_of_zero_le hn0.1; refine EvI.step (f := fun k => ag.l3 k x13 (m0 + (lost s v : Int) + (made s v : Int)) x15 (v : Int) [] (j : Int) x y hs w c t sq cut txt vis y0 (s : Int)) (fun k => ?_) (K v x y j hv hl hm (by omega)); rw [ag.l2, if_neg (by omega), hn, Option.bind_some]
 | succ d ih =>
  intro i v a b hi hv ha hl hm; (have hi5 : i < 5 := by omega); (have e1 : wrap64 ((i : Int) + 1) = ((i + 1 : Nat) : Int) := by rw [eT (by omega) (by omega)]; omega); have esh := Ux ⟨i, hi5⟩; have ehas := TL ⟨s, hs32⟩ ⟨i, hi5⟩; simp only [] at esh ehas; have same := NP ⟨s, hs32⟩ ⟨v, hv⟩ ⟨i, hi5⟩ ha; obtain ⟨p, x, y, hp⟩ := Kw a b 1 3 (by omega) (by omega); have I0 : ∀ (a b : Int), EvI (fun k => ag.l2 k x13 (m0 + (lost s v : Int) + (made s v : Int)) x15 (v : Int) (w0 - (lost s v : Int)) (c0 - (made s v : Int)) ((i + 1 : Nat) : Int) a b hs w c t sq cut txt vis y0 (s : Int)) P := fun a b => ih (i + 1) v a b (by omega) hv same hl hm
  cases hb : s.testBit i with
  | true =>
   rw [hb, if_pos rfl] at ehas; obtain ⟨g1, g2, g3, g4⟩ := NG ⟨s, hs32⟩ ⟨v, hv⟩ ⟨i, hi5⟩ ha hb; simp only [] at g1 g2 g3 g4; generalize hz : 2 ^ i = z at g1 g2 g3 g4 esh; have hz1 : 1 ≤ z := by rw [← hz]; exact Nat.one_le_two_pow
   have JF : ∀ (a b : Int), EvI (fun k => ag.j3 k x13 (m0 + (lost s v : Int) + (made s v : Int)) x15 (v : Int) (w0 - (lost s v : Int)) (c0 - (made s v : Int)) (i : Int) true false a b hs w c t sq cut txt vis y0 (s : Int)) P := fun a b => by
    refine EvI.step (fun k => ?_) (I0 a b); rw [ag.j3, if_neg (by simp), if_pos rfl, e1]
   have JT : (lost s v : Int) < w0 → ∀ (a b : Int), EvI (fun k => ag.j3 k x13 (m0 + (lost s v : Int) + (made s v : Int)) x15 (v : Int) (w0 - (lost s v : Int)) (c0 - (made s v : Int)) (i : Int) true true a b hs w c t sq cut txt vis y0 (s : Int)) P := fun hlt a b => by
    have q := ih (i + 1) (v - z) a b (by omega) (by omega) g2 (by rw [g3]; push_cast; omega) (by rw [g4]; exact hm); (have e2 : wrap64 (m0 + (lost s v : Int) + (made s v : Int) + 1) = m0 + (lost s (v - z) : Int) + (made s (v - z) : Int) := by rw [eT (by omega) (by omega), g3, g4]; push_cast; omega); (have e3 : wrap64 ((v : Int) - (z : Int)) = ((v - z : Nat) : Int) := by rw [eT (by omega) (by omega)]; omega); (have e4 : wrap64 (w0 - (lost s v : Int) - 1) = w0 - (lost s (v - z) : Int) := by rw [eT (by omega) (by omega), g3]; push_cast; omega); refine EvI.step (fun k => ?_) q; rw [ag.j3, if_pos rfl, if_pos (by omega), if_pos rfl, e1, e2, esh, e3, e4, g4]
   by_cases hf : w0 - (lost s v : Int) > 0
   ·cases p with
    | false =>
     refine EvI.step (fun k => ?_) (JF x y); rw [ag.l2, if_pos (by omega), if_pos (by omega), if_pos ehas, if_pos hf, hp, Option.bind_some, ehas]; rfl
    | true =>
     refine EvI.step (fun k => ?_) (JT (by omega) x y); rw [ag.l2, if_pos (by omega), if_pos (by omega), if_pos ehas, if_pos hf, hp, Option.bind_some, ehas]; rfl
   ·refine EvI.step (fun k => ?_) (JF a b); rw [ag.l2, if_pos (by omega), if_pos (by omega), if_pos ehas, if_neg hf, ehas]; rfl
  | false =>
   rw [hb, if_neg (by simp)] at ehas; obtain ⟨g1, g2, g3, g4⟩ := MZ ⟨s, hs32⟩ ⟨v, hv⟩ ⟨i, hi5⟩ ha hb; simp only [] at g1 g2 g3 g4; generalize hz : 2 ^ i = z at g1 g2 g3 g4 esh; have hz1 : 1 ≤ z := by rw [← hz]; exact Nat.one_le_two_pow
   have J : EvI (fun k => ag.j3 k x13 (m0 + (lost s v : Int) + (made s v : Int)) x15 (v : Int) (w0 - (lost s v : Int)) (c0 - (made s v : Int)) (i : Int) false false a b hs w c t sq cut txt vis y0 (s : Int)) P := by
    by_cases hg : c0 - (made s v : Int) > 0
    ·cases p with
     | false =>
      refine EvI.step (fun k => ?_) (I0 x y); rw [ag.j3, if_neg (by simp), if_neg (by simp), if_pos hg, hp, Option.bind_some, if_neg (by simp), e1]
     | true =>
      have q := ih (i + 1) (v + z) x y (by omega) g1 g2 (by rw [g3]; exact hl) (by rw [g4]; push_cast; omega); (have e2 : wrap64 (m0 + (lost s v : Int) + (made s v : Int) + 1) = m0 + (lost s (v + z) : Int) + (made s (v + z) : Int) := by rw [eT (by omega) (by omega), g3, g4]; push_cast; omega); (have e3 : wrap64 ((v : Int) + (z : Int)) = ((v + z : Nat) : Int) := by rw [eT (by omega) (by omega)]; omega); (have e4 : wrap64 (c0 - (made s v : Int) - 1) = c0 - (made s (v + z) : Int) := by rw [eT (by omega) (by omega), g4]; push_cast; omega); refine EvI.step (fun k => ?_) q; rw [ag.j3, if_neg (by simp), if_neg (by simp), if_pos hg, hp, Option.bind_some, if_pos rfl, if_pos (by omega), e1, e2, esh, e3, e4, g3]
    ·refine EvI.step (fun k => ?_) (I0 a b); rw [ag.j3, if_neg (by simp), if_neg (by simp), if_neg hg, e1]
   refine EvI.step (fun k => ?_) J; rw [ag.l2, if_pos (by omega), if_pos (by omega), if_neg (by rw [ehas]; decide), ehas]; rfl
theorem Pz (ms : List Int) (m : Int) : (ms ++ [m]).sum = ms.sum + m := by simp [List.sum_append]
theorem TW (a1 a2 a3 : Int) (sh : List S86) (hx : 0 < sh.length) (hx' : sh.length ≤ 1000) (hasc : Asc sh) (hs : List S66) (w c t : Int) (hh : 0 < hs.length ∧ (hs.length : Int) ≤ a1 ∧ ∀ h ∈ hs, pm a2 h) (hw : 0 ≤ w ∧ w ≤ 2) (hc : 0 ≤ c ∧ c ≤ 2) (cut : Int) (hcut0 : 0 ≤ cut) (hcut1 : cut < (hs.length : Int)) (hsh : (ah hs cut).f1 = sh) (h8 : a3 ≤ 8) :
 ∀ (d : Nat) (m a b : Int) (sq : List (List S27)) (txt : ByteArray) (vis : List Int) (ms cs : List Int), 0 ≤ m → ms.sum ≤ m → m ≤ 4 * sq.length → ((sq.length : Int) + d ≤ a3) → (0 < sq.length + d) → txt.size + d ≤ 1000 → vis.length + d ≤ 1000 → (∀ q ∈ sq, q.length ≤ 4 ∧ ∀ x ∈ q, qw x) → yz w c sh sq ms cs → txt = strOfNums cs → Jq sq vis →
  EvI (fun k => ag.l1 k sh m (d : Int) a b hs w c t sq cut txt vis) (fun r => oZ a1 a2 a3 r ∧ MH r) := by
 intro d
 induction d with
 | zero =>
  intro m a b sq txt vis ms cs hm hms hm1 h3 h4 h5 h6 hq hT htx hvs; obtain ⟨n, x, y, hn, hmem⟩ := EX a b [0, 0, 1, 2] (by simp) (by simp)
  have hn0 : 0 ≤ n ∧ n ≤ 2 := by
   simp only [List.mem_cons, List.not_mem_nil, or_false] at hmem; omega
  (have et : mn 40 (wrap64 (m + n)) = mn 40 (m + n) := by rw [eT (by omega) (by omega)]); refine EvI.step (f := fun k => some (hs, w, c, mn 40 (m + n), sq, cut, txt, vis, x, y)) (fun k => ?_) (EvI.now ⟨⟨hh, hw, hc, ?_, by simpa using h4, by simp only []; omega, hq⟩, hcut0, hcut1, ms, cs, ?_, ?_, htx, hvs⟩)
  ·rw [ag.l1, if_neg (by omega), hn, Option.bind_some, et]
  ·simp only []; unfold mn; split <;> omega
  ·simp only []; rw [hsh]; exact hT
  ·simp only []; unfold mn; split <;> omega
 | succ d ih =>
  intro m a b sq txt vis ms cs hm hms hm1 h3 h4 h5 h6 hq hT htx hvs; obtain ⟨u, x, y, hu, h9, h10⟩ := uC a b (sh.length : Int) (by omega) (by omega); have ew : wrap64 (w + 1) = w + 1 := eT (by omega) (by omega); have ec : wrap64 (c + 1) = c + 1 := eT (by omega) (by omega); obtain ⟨f, x1, y1, hf, hf0, hf1⟩ := uC x y (w + 1) (by omega) (by omega); obtain ⟨g, x2, y2, hg, hg0, hg1⟩ := uC x1 y1 (c + 1) (by omega) (by omega); obtain ⟨i, rfl⟩ := Int.eq_ofNat_of_zero_le h9; have hi : i < sh.length := by omega
  have hmem : sh.getD i z86 ∈ sh := by
   rw [List.getD_eq_getElem?_getD, List.getElem?_eq_getElem hi]; exact List.getElem_mem _
  have hst := hasc.1 _ hmem; (have hs32 : fK sh i < 32 := by unfold fK; omega); (have es : (sh.getD i z86).f1 = (fK sh i : Int) := by unfold fK; omega); have hself := Km ⟨fK sh i, hs32⟩; simp only [] at hself; refine EvI.step (f := fun k => ag.l2 k sh (m + (lost (fK sh i) (fK sh i) : Int) + (made (fK sh i) (fK sh i) : Int)) ((d + 1 : Nat) : Int) (fK sh i : Int) (f - (lost (fK sh i) (fK sh i) : Int)) (g - (made (fK sh i) (fK sh i) : Int)) ((0 : Nat) : Int) x2 y2 hs w c t sq cut txt vis ((sh.getD i z86).f0) (fK sh i : Int)) (fun k => ?_) ?_
  ·rw [ag.l1, if_pos (by omega), hu, Option.bind_some]; simp only []; rw [if_pos h9, if_pos h10, ew, hf, Option.bind_some]; simp only []; rw [ec, hg, Option.bind_some, Kg, es, hself.2.1, hself.2.2]; simp
  refine Uq _ sh _ hs w c t sq cut txt vis _ (fK sh i) hs32 m f g hm (by omega) (by omega) (by omega) (fun v a b n hv hl hm' hn => ?_) 5 0 (fK sh i) x2 y2 (by omega) hs32 hself.1 (by rw [hself.2.1]; exact hf0) (by rw [hself.2.2]; exact hg0); refine TN _ sh _ _ v hv hs w c t sq cut txt vis _ _ (by omega) (by omega) (by omega) (fun q a b hq1 hq2 => ?_) n [] a b (by simpa using hn) (fun x hx => absurd hx List.not_mem_nil); (have e1 : wrap64 (((d + 1 : Nat) : Int) - 1) = (d : Int) := by rw [eT (by omega) (by omega)]; omega); rw [e1]; refine ih _ a b (sq ++ [q]) _ _ (ms ++ [(lost (fK sh i) v : Int) + (made (fK sh i) v : Int)]) (cs ++ [(sh.getD i z86).f0]) (by omega) (by rw [Pz]; omega) (by simp; omega) (by simp; omega) (by simp; omega) ?_ (by simp; omega) ?_ (hT.snoc ⟨i, v, hi, hv, hq2, by omega, by omega, Int.le_refl _, rfl⟩) (by rw [htx, Dx]) (hvs.snoc hv hq2)
  ·have : (strOfNums [(sh.getD i z86).f0]).size = 1 := rfl; rw [ByteArray.size_append]; omega
  ·intro z hz; rcases List.mem_append.1 hz with hz | hz
   ·exact hq z hz
   ·rw [List.mem_singleton] at hz; subst hz; exact ⟨hq1, fun x hx => (hq2 x hx).ok hv⟩
theorem SQ (a1 a2 a3 : Int) (h2 : 1 ≤ a2) (h2' : a2 ≤ 100) (h3 : 1 ≤ a3) (h3' : a3 ≤ 8) (w c : Int) (hw : 0 ≤ w ∧ w ≤ 2) (hc : 0 ≤ c ∧ c ≤ 2) :
 ∀ (d : Nat) (a b : Int) (hs : List S66), 0 < hs.length + d → (hs.length : Int) + d ≤ a1 → hs.length + d ≤ 1000 → (∀ h ∈ hs, pm a2 h) → EvI (fun k => ag.l0 k a2 a3 (d : Int) a b hs w c 0) (fun r => oZ a1 a2 a3 r ∧ MH r) := by
 intro d
 induction d with
 | zero =>
  intro a b hs h4 h5 h6 hh; obtain ⟨u, x, y, hu, h8, h9⟩ := uC a b (hs.length : Int) (by omega) (by omega); obtain ⟨n, x1, y1, hn, h10, h11⟩ := xI x y 1 a3 h3 (by omega) (by omega); obtain ⟨j, rfl⟩ := Int.eq_ofNat_of_zero_le (show 0 ≤ n by omega)
  have hg := hh (ah hs u) (by
   obtain ⟨i, rfl⟩ := Int.eq_ofNat_of_zero_le h8; rw [Nq, List.getD_eq_getElem?_getD, List.getElem?_eq_getElem (by omega)]
   exact List.getElem_mem _)
  refine EvI.step (f := fun k => ag.l1 k ((ah hs u).f1) 0 (j : Int) x1 y1 hs w c 0 [] u ⟨#[]⟩ []) (fun k => ?_) ?_
  ·rw [ag.l0, if_neg (by omega), hu, Option.bind_some]; simp only []; rw [if_pos h8, if_pos h9, hn, Option.bind_some]
  ·refine TW a1 a2 a3 _ hg.2.2.2.2.1 (by have := hg.2.2.2.2.2; omega) hg.2.2.2.1 hs w c 0 ⟨by omega, by omega, hh⟩ hw hc u h8 h9 rfl h3' j 0 x1 y1 [] _ [] [] [] (by omega) (by simp) (by simp) (by simp; omega) (by simp; omega) ?_ (by simp; omega) (fun q hq => absurd hq List.not_mem_nil) ⟨rfl, rfl, fun i hi => absurd hi (by simp)⟩ rfl ⟨rfl, fun i hi => absurd hi (by simp)⟩; have : (ByteArray.mk #[]).size = 0 := rfl; omega
 | succ d ih =>
  intro a b hs h4 h5 h6 hh; (have e1 : wrap64 (((d + 1 : Nat) : Int) - 1) = (d : Int) := by rw [eT (by omega) (by omega)]; omega); refine EvI.step (fun k => by rw [ag.l0, if_pos (by omega), e1]) ?_; refine EvI.bind (Hr a b a2 h2 h2') (fun r hr => ?_); refine EvI.call rfl (EvI.pos ?_ ?_)
  ·simp; omega
  ·refine ih _ _ _ (by simp; omega) (by simp; omega) (by simp; omega) (fun h hm => ?_); rcases List.mem_append.1 hm with hm | hm
   ·exact hh h hm
   ·rw [List.mem_singleton] at hm; subst hm; exact hr
theorem ae6 (a b a1 a2 a3 : Int) (h1 : 1 ≤ a1) (h1' : a1 ≤ 100) (h2 : 1 ≤ a2) (h2' : a2 ≤ 100) (h3 : 1 ≤ a3) (h3' : a3 ≤ 8) : EvI (fun k => ag.f k a b a1 a2 a3) (fun r => oZ a1 a2 a3 r ∧ MH r) := by
 obtain ⟨w, x, y, hw, h4, h5⟩ := uC a b 3 (by omega) (by omega); obtain ⟨c, x1, y1, hc, h6, h7⟩ := uC x y 3 (by omega) (by omega); obtain ⟨n, x2, y2, hn, h8, h9⟩ := xI x1 y1 1 a1 h1 (by omega) (by omega); obtain ⟨j, rfl⟩ := Int.eq_ofNat_of_zero_le (show 0 ≤ n by omega); simp only [ag.f]; refine EvI.call hw (EvI.call hc (EvI.call hn ?_)); exact SQ a1 a2 a3 h2 h2' h3 h3' w c (by omega) (by omega) j x2 y2 [] (by simp; omega) (by simp; omega) (by simp; omega) (fun h hm => absurd hm List.not_mem_nil)
end Go.Proofs.Ytihedeofkhapiaa.Pr
end
section
namespace Go.Proofs.Ytihedeofkhapiaa.Pr
open Go.RowKit Go.Proofs.YtihedeofkhapiaaW.PrintWords Go.Proofs.YtihedeofkhapiaaW.PrintLast Go.Proofs.YtihedeofkhapiaaW.PrintMore
attribute [local go_sem] nQ nT qp qo oH oI qJ qx
def cK.l0 : Nat → Int → List Int → Int → Int → Option (Int)
 | 0, _, _, _, _ => none
 | k + 1, x0, x7, x8, x9 => if x9 < x8 then (if 0 ≤ x9 then (if x9 < (x7.length : Int) then (cK.l0 k (mn x0 (rd x7 x9)) x7 x8 (wrap64 (x9 + 1))) else (none)) else (none)) else (some x0)
def cK.f (k : Nat) (a0 : Int) (l1 : List Int) : Option (Int) := cK.l0 k a0 l1 (l1.length : Int) 0
theorem cK.gK : ∀ k, (∀ y0 y1 y2 y3, LeO (cK.l0 k y0 y1 y2 y3) (cK.l0 (k + 1) y0 y1 y2 y3))
 | 0 => fun _ _ _ _ r h => by simp [cK.l0] at h
 | k + 1 => by
  have ih0 := cK.gK k
  ·intro y0 y1 y2 y3; unfold cK.l0
   repeat' first | (with_reducible exact ih0 _ _ _ _) | (with_reducible exact LeO.refl _) | (with_reducible refine LeO.ite ?_ ?_)
theorem cK.mono : ∀ a0 a1 k, LeO (cK.f k a0 a1) (cK.f (k + 1) a0 a1) := by
 intro a0 a1 k; have ih0 := cK.gK k; unfold cK.f
 repeat' (with_reducible exact ih0 _ _ _ _)
set_option maxHeartbeats 8000000 in
set_option maxRecDepth 100000 in
theorem cK.calls (k : Nat) (a0 : Int) (A1 : Option Addr) (c1 : Nat) (l1 : List Int) (r : Int) (w : World) (hr1 : Kd.C (Kd.int .i64) w A1 l1.length l1) (hc1 : l1.length ≤ c1) (h : cK.f k a0 l1 = some r) :
 Calls Try.prog 56 #[.int .i64 a0, .slice A1 l1.length c1] w fun e w' => e = .returned (.int .i64 r) ∧ Below w.heap.size w w' := by
 have HR1 := aa.mk hr1; have HC1 := aa.mk hc1; clear hr1 hc1; have HB := aa.mk (Below.refl w.heap.size w); have H : (cK.l0 k a0 l1 (l1.length : Int) 0) = some r := h; clear h; have H' := aa.mk H; clear H; go_enter Try.func56, Try.ntmps56; go_wp2; (go_loopg [0, 9] k (fun kq v0 v9 w' => ∃ (Oa : Int) (uY : Int), v0 = .int .i64 Oa ∧ v9 = .int .i64 uY ∧ aa (cK.l0 kq Oa l1 (l1.length : Int) uY = some r) ∧ aa (kq ≤ k) ∧ aa (Below w.heap.size w w'))); case atStart => exact ⟨(a0), (0), (by rfl), (by rfl), H', ⟨Nat.le_refl _⟩, ⟨by exact HB.out⟩⟩
 case round =>
  clear H'; obtain ⟨Oa, uY, rfl, rfl, HA, HK1, HB⟩ := hrel
  cases gk with
  | zero => exact absurd HA.out (by simp [cK.l0])
  | succ k1 =>
   have H := HA.out; clear HA; simp only [cK.l0] at H; by_cases c3 : uY < (l1.length : Int)
   ·rw [if_pos c3] at H; have vD : decide (uY < (l1.length : Int)) = true := decide_eq_true c3; clear c3; by_cases c4 : 0 ≤ uY
    ·rw [if_pos c4] at H; have GX : decide (0 ≤ uY) = true := decide_eq_true c4; clear c4; by_cases c5 : uY < (l1.length : Int)
     ·rw [if_pos c5] at H; have GV : decide (uY < (l1.length : Int)) = true := decide_eq_true c5; clear c5; obtain ⟨ji6, ac0⟩ : ∃ j_ : Int, (mn Oa (rd l1 uY)) = j_ := ⟨_, rfl⟩; (replace H : (cK.l0 k1 ji6 l1 (l1.length : Int) (wrap64 (uY + 1))) = some r := by (rw [ac0] at H; exact H)); have aiI : (if (rd l1 uY) < Oa then (rd l1 uY) else Oa) = ji6 := ac0; have H' := aa.mk H; clear H; have Zh : 0 ≤ (uY : Int) := of_decide_eq_true (by with_reducible assumption); have Yx : uY < (l1.length : Int) := of_decide_eq_true (by with_reducible assumption); obtain ⟨aij, e124, Fv⟩ := Kd.zn HR1.out uY Zh Yx; cases e124; replace Fv := (HB.out.cell (World.block_lt_of_cell? w _ Fv)).trans Fv; replace Zh := eq_true Zh; replace Yx := eq_true Yx; go_wp2; go_roundg k1; (case measure => have := HK1.out; omega); case rel => exact ⟨(ji6), (wrap64 (uY + 1)), (by rfl), (by rfl), H', ⟨by have := HK1.out; omega⟩, ⟨by exact HB.out⟩⟩
     ·rw [if_neg c5] at H; exact absurd H (by simp)
    ·rw [if_neg c4] at H; exact absurd H (by simp)
   ·rw [if_neg c3] at H; have vD : decide (uY < (l1.length : Int)) = false := decide_eq_false c3; clear c3; obtain rfl := Option.some.inj H; go_wp2
    go_ret
    exact ⟨by rfl, by exact HB.out⟩
def nW.f (gu : Int) (aY : Int) (a1 : Int) (JE : Int) (Sm : Int) : Option (Bool) := if gu = a1 then (some (JE == aY)) else (some true)
set_option maxHeartbeats 8000000 in
set_option maxRecDepth 100000 in
theorem nW.calls (gu : Int) (aY : Int) (a1 : Int) (JE : Int) (Sm : Int) (r : Bool) (w : World) (h : nW.f gu aY a1 JE Sm = some r) :
 Calls Try.prog 75 #[.agg #[.int .i64 gu, .int .u8 aY], .int .i64 a1, .agg #[.int .u8 JE, .int .i64 Sm]] w fun e w' => e = .returned (.bool r) ∧ Below w.heap.size w w' := by
 have hu100 := Try.underlying100; have hu86 := Try.underlying86; have HB := aa.mk (Below.refl w.heap.size w); have H : (if gu = a1 then (some (JE == aY)) else (some true)) = some r := h; clear h; by_cases c4 : gu = a1
 ·rw [if_pos c4] at H; have GX : (gu == a1) = true := beq_iff_eq.mpr c4; have agW : (gu != a1) = false := bne_eq_false_iff_eq.mpr c4; clear c4; obtain rfl := Option.some.inj H; go_enter Try.func75, Try.ntmps75; go_wp2_with (first | ((with_reducible refine dm (N := 3) rfl ?_); refine dD ?hg (N := 3) ?hd (cs := #[.int .i64 gu, .int .u8 aY]) (t := 100) ?hr ?_; (case hd => rfl); (case hg => rfl); (case hr => (go_simp; done)); intro tZ hg w5 hbox hb; have wu := aa.mk (hbox); have abh := aa.mk ((by rw [hg]; exact (az (by exact HB.out)) : w.heap.size ≤ tZ)); have adt := aa.mk ((by rw [hg]; exact (az (by exact HB.out)) : w.heap.size ≤ tZ)); replace HB := aa.mk (ax (by exact HB.out) hb); clear hb hbox hg) | ((with_reducible refine dm (N := 5) rfl ?_); refine dD ?hg (N := 5) ?hd (cs := #[.int .u8 JE, .int .i64 Sm]) (t := 86) ?hr ?_; (case hd => rfl); (case hg => rfl); (case hr => (go_simp; done)); intro zk hg w6 hbox hb; have Xu := aa.mk (hbox); have aaq := aa.mk ((by rw [hg]; exact (az (by exact HB.out)) : w.heap.size ≤ zk)); have Z8 := aa.mk ((by rw [hg]; exact (az (by exact HB.out)) : w.heap.size ≤ zk)); replace HB := aa.mk (ax (by exact HB.out) hb); have zq := aa.mk ((by rw [hg]; exact Nat.ne_of_lt (bW (g := tZ) (o := .cells #[.int .i64 gu, .int .u8 aY] 100 (0, 0)) (bU wu.out)) : tZ ≠ zk)); have zw := aa.mk ((by rw [hg]; exact Nat.ne_of_gt (bW (g := tZ) (o := .cells #[.int .i64 gu, .int .u8 aY] 100 (0, 0)) (bU wu.out)) : zk ≠ tZ)); replace wu := aa.mk (au (bU wu.out) hb); clear hb hbox hg; have akb := zq.out; have ajA := zw.out; obtain ⟨CL, CO, Cc, Cs⟩ := mH wu.out; obtain ⟨Q3, Pg, Rw, QI⟩ := mH Xu.out))
  go_ret
  exact ⟨by rfl, by exact HB.out⟩
 ·rw [if_neg c4] at H; have GX : (gu == a1) = false := beq_eq_false_iff_ne.mpr c4; have agW : (gu != a1) = true := bne_iff_ne.mpr c4; obtain rfl := Option.some.inj H; go_enter Try.func75, Try.ntmps75; go_wp2_with (first | ((with_reducible refine dm (N := 3) rfl ?_); refine dD ?hg (N := 3) ?hd (cs := #[.int .i64 gu, .int .u8 aY]) (t := 100) ?hr ?_; (case hd => rfl); (case hg => rfl); (case hr => (go_simp; done)); intro tZ hg w10 hbox hb; have wu := aa.mk (hbox); have abh := aa.mk ((by rw [hg]; exact (az (by exact HB.out)) : w.heap.size ≤ tZ)); have adt := aa.mk ((by rw [hg]; exact (az (by exact HB.out)) : w.heap.size ≤ tZ)); replace HB := aa.mk (ax (by exact HB.out) hb); clear hb hbox hg) | ((with_reducible refine dm (N := 5) rfl ?_); refine dD ?hg (N := 5) ?hd (cs := #[.int .u8 JE, .int .i64 Sm]) (t := 86) ?hr ?_; (case hd => rfl); (case hg => rfl); (case hr => (go_simp; done)); intro zk hg w11 hbox hb; have Xu := aa.mk (hbox); have aaq := aa.mk ((by rw [hg]; exact (az (by exact HB.out)) : w.heap.size ≤ zk)); have Z8 := aa.mk ((by rw [hg]; exact (az (by exact HB.out)) : w.heap.size ≤ zk)); replace HB := aa.mk (ax (by exact HB.out) hb); have zq := aa.mk ((by rw [hg]; exact Nat.ne_of_lt (bW (g := tZ) (o := .cells #[.int .i64 gu, .int .u8 aY] 100 (0, 0)) (bU wu.out)) : tZ ≠ zk)); have zw := aa.mk ((by rw [hg]; exact Nat.ne_of_gt (bW (g := tZ) (o := .cells #[.int .i64 gu, .int .u8 aY] 100 (0, 0)) (bU wu.out)) : zk ≠ tZ)); replace wu := aa.mk (au (bU wu.out) hb); clear hb hbox hg; have aad := zq.out; have aaW := zw.out; obtain ⟨UX, V8, Wl, Wu⟩ := mH wu.out))
  go_ret
  exact ⟨by rfl, by exact HB.out⟩
theorem aa5 (d : Nat) (w : World) (x0 y0 : Int) (x1 y1 : Int) :
 (Op.equalIn (d + 2) 27 (.agg #[.int .i64 x0, .int .i64 x1]) (.agg #[.int .i64 y0, .int .i64 y1])).run Try.prog w = .ok (x0 == y0 && (x1 == y1)) w := by
 refine JA Try.underlying27 (by kernel_rfl) ?_; refine DY (by rfl) (by go_simp; rfl) (by go_simp; rfl) (by go_simp) ?_; exact Dn (by rfl) (by go_simp; rfl) (by go_simp; rfl) (by go_simp)
theorem ab3 (d : Nat) (w : World) (x0 y0 : Int) (x1 y1 : Int) :
 (Op.equalIn (d + 2) 63 (.agg #[.int .i64 x0, .int .i64 x1]) (.agg #[.int .i64 y0, .int .i64 y1])).run Try.prog w = .ok (x0 == y0 && (x1 == y1)) w := by
 refine JA Try.underlying63 (by kernel_rfl) ?_; refine DY (by rfl) (by go_simp; rfl) (by go_simp; rfl) (by go_simp) ?_; exact Dn (by rfl) (by go_simp; rfl) (by go_simp; rfl) (by go_simp)
theorem abZ (d : Nat) (w : World) (x0 y0 : Int) (x1 y1 : Int) :
 (Op.equalIn (d + 2) 86 (.agg #[.int .u8 x0, .int .i64 x1]) (.agg #[.int .u8 y0, .int .i64 y1])).run Try.prog w = .ok (x0 == y0 && (x1 == y1)) w := by
 refine JA Try.underlying86 (by kernel_rfl) ?_; refine DY (by rfl) (by go_simp; rfl) (by go_simp; rfl) (by go_simp) ?_; exact Dn (by rfl) (by go_simp; rfl) (by go_simp; rfl) (by go_simp)
end Go.Proofs.Ytihedeofkhapiaa.Pr
end
