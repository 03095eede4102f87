/- Part 21 of 34 of the proof of: SightEither: for every slice of numbers, the law returns true: of a line made of them, the order of lights, and of hands under other numbers, does not matter, and if squares change places, so do their letters; no condition beyond the statement's own. -/
import Derived.Test.YtihedeofkhapiaaProg
import Derived.Below
import Derived.Deep.Draws
import Derived.Deep.AppendLies
import Derived.Maps.AppendAt
import Derived.OwnWalk
import Derived.Laws.BytesArg
import Derived.Laws.MakeOwn
import Derived.Laws.OwnMore
import Derived.Deep.OwnRows
import Derived.Tactics
import Derived.Lib.ConvBytes
import Derived.Laws.Slices
import Derived.WalkKit
import Derived.KernelRfl
import Derived.RowKit3
import Derived.Deep.LoopGhost
import Derived.Deep.QuietTactic
import Derived.BigQuiet
import Derived.WideLaws
import Derived.Deep.DeepCutAuto
import Derived.Deep.CutBlock
import Derived.Deep.RegionHeld3
import Derived.Laws.Rows
import Derived.Lib.AppendStr
import Derived.ArgAppend
import Derived.Laws.IdiomCopy
import Derived.OrdersHeld
import Derived.Laws.BitsLemmas
import Derived.RowKit
import Derived.Test.YtihedeofkhapiaaSX4
import Derived.Test.YtihedeofkhapiaaSX18
import Derived.Test.YtihedeofkhapiaaSX19
import Derived.Test.YtihedeofkhapiaaSX20
set_option linter.unusedVariables false
set_option linter.unusedSimpArgs false
section
namespace Go.Proofs.Ytihedeofkhapiaa.Pr
open Go.RowKit Go.Proofs.YtihedeofkhapiaaW.PrintWords Go.Proofs.YtihedeofkhapiaaW.PrintLast Go.Proofs.YtihedeofkhapiaaW.PrintMore
attribute [local go_sem] nP nM oZ pE mi mq nL nJ
def adv : Option Int → Value
 | none => .nilIface
 | some c => .iface 0 (.int .i64 c)
theorem K5 : adv none = .nilIface := rfl
theorem LK (c : Int) : adv (some c) = .iface 0 (.int .i64 c) := rfl
theorem info3 : (Try.prog.info? 3).map (fun i => (i.zero, i.size, i.bytes)) = some (some (.int .i64 0), 1, 8) := by kernel_rfl
theorem info5 : (Try.prog.info? 5).map (fun i => (i.zero, i.size, i.bytes)) = some (some (.int .u8 0), 1, 1) := by kernel_rfl
theorem aaA : (Try.prog.info? 9).map (fun i => (i.zero, i.size, i.bytes)) = some (some (.string ⟨#[]⟩), 1, 16) := by kernel_rfl
theorem OP : (Try.prog.info? 27).map (fun i => (i.zero, i.size, i.bytes)) = some (some (.agg #[(.int .i64 0), (.int .i64 0)]), 2, 16) := by kernel_rfl
theorem PE : (Try.prog.info? 39).map (fun i => (i.zero, i.size, i.bytes)) = some (some (.slice none 0 0), 1, 24) := by kernel_rfl
theorem Pg : (Try.prog.info? 66).map (fun i => (i.zero, i.size, i.bytes)) = some (some (.agg #[(.int .i64 0), (.int .i64 0), (.slice none 0 0)]), 3, 40) := by kernel_rfl
theorem Yq : (Try.prog.info? 86).map (fun i => (i.zero, i.size, i.bytes)) = some (some (.agg #[(.int .u8 0), (.int .i64 0)]), 2, 16) := by kernel_rfl
theorem afn : (Try.prog.info? 126).map (fun i => (i.zero, i.size, i.bytes)) = some (some (.agg #[(.int .i64 0), (.int .u8 0)]), 2, 16) := by kernel_rfl
structure S63 where
 f0 : Int
 f1 : Int
def z63 : S63 := ⟨(0 : Int), (0 : Int)⟩
def k63 : Kd S63 := Kd.iso (Kd.pair (Kd.int .i64) (Kd.int .i64)) (fun x : S63 => (x.f0, x.f1))
theorem F9 {w : World} {x : S63} {cs : List Value} (h : k63.K w x cs) : cs = [.int .i64 x.f0, .int .i64 x.f1] := by
 obtain ⟨_, _, rfl, rfl, rfl⟩ := h; exact rfl
theorem LV {w : World} {base : Nat} {ok : Nat → Prop} {x : S63} {cs : List Value} (h : k63.M w base ok x cs) : cs = [.int .i64 x.f0, .int .i64 x.f1] := by
 obtain ⟨_, _, rfl, rfl, rfl⟩ := h; exact rfl
theorem P7 (w : World) (x : S63)  : k63.K w x [.int .i64 x.f0, .int .i64 x.f1] := ⟨[.int .i64 x.f0], [.int .i64 x.f1], rfl, rfl, rfl⟩
theorem Vq (w : World) (base : Nat) (ok : Nat → Prop) (x : S63)  : k63.M w base ok x [.int .i64 x.f0, .int .i64 x.f1] := ⟨[.int .i64 x.f0], [.int .i64 x.f1], rfl, rfl, rfl⟩
theorem aew (W : World) (ok : Nat → Prop) (x : S63) : Kd.FK k63 W ok x [.int .i64 x.f0, .int .i64 x.f1] := fun W2 _ => P7 W2 x
def Pw (xs : List S63) (i : Int) : S63 := xs.getD i.toNat z63
theorem agl {w : World} {A : Option Addr} {n : Nat} {xs : List S63} (h : Kd.C k63 w A n xs) (i : Int) (h0 : 0 ≤ i) (h1 : i < n) : ∃ ad , A = some ad ∧ w.cell? (ad.add (i.toNat * 2)) = some (.int .i64 (Pw xs i).f0) ∧ w.cell? ⟨(ad.add (i.toNat * 2)).block, (ad.add (i.toNat * 2)).off + 1, none⟩ = some (.int .i64 (Pw xs i).f1) := by
 obtain ⟨ad, c, e, _, hK, hc0⟩ := Kd.vQ h z63 i h0 h1; have hc : ∀ j u, c[j]? = some u → w.cell? (ad.add (i.toNat * 2 + j)) = some u := hc0; obtain rfl := F9 hK; exact ⟨ad, e, hc 0 _ rfl, by rw [← oM _ _ 1 (by omega)]; exact hc 1 _ rfl⟩
structure S86 where
 f0 : Int
 f1 : Int
def z86 : S86 := ⟨(0 : Int), (0 : Int)⟩
def k86 : Kd S86 := Kd.iso (Kd.pair (Kd.int .u8) (Kd.int .i64)) (fun x : S86 => (x.f0, x.f1))
theorem PN {w : World} {x : S86} {cs : List Value} (h : k86.K w x cs) : cs = [.int .u8 x.f0, .int .i64 x.f1] := by
 obtain ⟨_, _, rfl, rfl, rfl⟩ := h; exact rfl
theorem ZP {w : World} {base : Nat} {ok : Nat → Prop} {x : S86} {cs : List Value} (h : k86.M w base ok x cs) : cs = [.int .u8 x.f0, .int .i64 x.f1] := by
 obtain ⟨_, _, rfl, rfl, rfl⟩ := h; exact rfl
theorem Yj (w : World) (x : S86)  : k86.K w x [.int .u8 x.f0, .int .i64 x.f1] := ⟨[.int .u8 x.f0], [.int .i64 x.f1], rfl, rfl, rfl⟩
theorem uZ (w : World) (base : Nat) (ok : Nat → Prop) (x : S86)  : k86.M w base ok x [.int .u8 x.f0, .int .i64 x.f1] := ⟨[.int .u8 x.f0], [.int .i64 x.f1], rfl, rfl, rfl⟩
theorem aer (W : World) (ok : Nat → Prop) (x : S86) : Kd.FK k86 W ok x [.int .u8 x.f0, .int .i64 x.f1] := fun W2 _ => Yj W2 x
def au (xs : List S86) (i : Int) : S86 := xs.getD i.toNat z86
theorem rW {w : World} {A : Option Addr} {n : Nat} {xs : List S86} (h : Kd.C k86 w A n xs) (i : Int) (h0 : 0 ≤ i) (h1 : i < n) : ∃ ad , A = some ad ∧ w.cell? (ad.add (i.toNat * 2)) = some (.int .u8 (au xs i).f0) ∧ w.cell? ⟨(ad.add (i.toNat * 2)).block, (ad.add (i.toNat * 2)).off + 1, none⟩ = some (.int .i64 (au xs i).f1) := by
 obtain ⟨ad, c, e, _, hK, hc0⟩ := Kd.vQ h z86 i h0 h1; have hc : ∀ j u, c[j]? = some u → w.cell? (ad.add (i.toNat * 2 + j)) = some u := hc0; obtain rfl := PN hK; exact ⟨ad, e, hc 0 _ rfl, by rw [← oM _ _ 1 (by omega)]; exact hc 1 _ rfl⟩
def JL (xs : List (List S86)) (i : Int) : (List S86) := xs.getD i.toNat ([] : List S86)
theorem aki {w : World} {A : Option Addr} {n : Nat} {xs : List (List S86)} (h : Kd.C (Kd.slice 86 k86) w A n xs) (i : Int) (h0 : 0 ≤ i) (h1 : i < n) : ∃ ad A0 c0, A = some ad ∧ w.cell? (ad.add i.toNat) = some (.slice A0 (JL xs i).length c0) ∧ (JL xs i).length ≤ c0 ∧ k86.C w A0 (JL xs i).length (JL xs i) := by
 obtain ⟨ad, c, e, _, hK, hc0⟩ := Kd.vQ h ([] : List S86) i h0 h1; have hc : ∀ j u, c[j]? = some u → w.cell? (ad.add (i.toNat * 1 + j)) = some u := hc0; obtain ⟨A0, c0, rfl, l0, g0⟩ := hK; exact ⟨ad, A0, c0, e, by have hq := hc 0 _ rfl; rwa [Nat.mul_one, Nat.add_zero] at hq, l0, g0⟩
structure S66 where
 f0 : S63
 f1 : (List S86)
def z66 : S66 := ⟨z63, ([] : List S86)⟩
def k66 : Kd S66 := Kd.iso (Kd.pair k63 (Kd.slice 86 k86)) (fun x : S66 => (x.f0, x.f1))
theorem CF {w : World} {x : S66} {cs : List Value} (h : k66.K w x cs) : ∃ A2 c2, cs = [.int .i64 x.f0.f0, .int .i64 x.f0.f1, .slice A2 x.f1.length c2] ∧ x.f1.length ≤ c2 ∧ k86.C w A2 x.f1.length x.f1 := by
 obtain ⟨_, _, rfl, s0, ⟨A2, c2, rfl, l2, g2⟩⟩ := h; obtain rfl := F9 s0; exact ⟨A2, c2, rfl, l2, g2⟩
theorem ZQ {w : World} {base : Nat} {ok : Nat → Prop} {x : S66} {cs : List Value} (h : k66.M w base ok x cs) : ∃ v2, cs = [.int .i64 x.f0.f0, .int .i64 x.f0.f1, v2] ∧ k86.R 86 w base ok v2 x.f1 := by
 obtain ⟨_, _, rfl, s0, ⟨v2, rfl, g2⟩⟩ := h; obtain rfl := LV s0; exact ⟨v2, rfl, g2⟩
theorem ZL (w : World) (x : S66) {A2 : Option Addr} {c2 : Nat} (l2 : x.f1.length ≤ c2) (g2 : k86.C w A2 x.f1.length x.f1) : k66.K w x [.int .i64 x.f0.f0, .int .i64 x.f0.f1, .slice A2 x.f1.length c2] := ⟨[.int .i64 x.f0.f0, .int .i64 x.f0.f1], [.slice A2 x.f1.length c2], rfl, (P7 w x.f0 ), ⟨A2, c2, rfl, l2, g2⟩⟩
theorem afc (w : World) (base : Nat) (ok : Nat → Prop) (x : S66) {v2 : Value} (g2 : k86.R 86 w base ok v2 x.f1) : k66.M w base ok x [.int .i64 x.f0.f0, .int .i64 x.f0.f1, v2] := ⟨[.int .i64 x.f0.f0, .int .i64 x.f0.f1], [v2], rfl, (Vq w base ok x.f0 ), ⟨v2, rfl, g2⟩⟩
theorem Df {W : World} {ok : Nat → Prop} {x : S66} {cs : List Value} (h : Kd.FK k66 W ok x cs) : ∃ A2 c2, cs = [.int .i64 x.f0.f0, .int .i64 x.f0.f1, .slice A2 x.f1.length c2] ∧ x.f1.length ≤ c2 ∧ Kd.F k86 W ok A2 x.f1.length x.f1 := by
 obtain ⟨A2, c2, rfl, l2, _⟩ := CF (Kd.ou h); exact ⟨A2, c2, rfl, l2, (fun W' hW => by obtain ⟨A2_, c2_, he, l2_, g2_⟩ := CF (h W' hW); injection (Option.some.inj (show some (Value.slice A2 x.f1.length c2) = some (Value.slice A2_ x.f1.length c2_) from congrArg (fun l => l[2]?) he)) with ha_ _ _; rw [ha_]; exact g2_)⟩
theorem AQ (W : World) (ok : Nat → Prop) (x : S66) {A2 : Option Addr} {c2 : Nat} (l2 : x.f1.length ≤ c2) (g2 : Kd.F k86 W ok A2 x.f1.length x.f1) : Kd.FK k66 W ok x [.int .i64 x.f0.f0, .int .i64 x.f0.f1, .slice A2 x.f1.length c2] := fun W2 hW => ZL W2 x l2 (g2 W2 hW)
def ah (xs : List S66) (i : Int) : S66 := xs.getD i.toNat z66
theorem xP {w : World} {A : Option Addr} {n : Nat} {xs : List S66} (h : Kd.C k66 w A n xs) (i : Int) (h0 : 0 ≤ i) (h1 : i < n) : ∃ ad A2 c2, A = some ad ∧ w.cell? (ad.add (i.toNat * 3)) = some (.int .i64 (ah xs i).f0.f0) ∧ w.cell? ⟨(ad.add (i.toNat * 3)).block, (ad.add (i.toNat * 3)).off + 1, none⟩ = some (.int .i64 (ah xs i).f0.f1) ∧ w.cell? ⟨(ad.add (i.toNat * 3)).block, (ad.add (i.toNat * 3)).off + 2, none⟩ = some (.slice A2 (ah xs i).f1.length c2) ∧ (ah xs i).f1.length ≤ c2 ∧ k86.C w A2 (ah xs i).f1.length (ah xs i).f1 := by
 obtain ⟨ad, c, e, _, hK, hc0⟩ := Kd.vQ h z66 i h0 h1; have hc : ∀ j u, c[j]? = some u → w.cell? (ad.add (i.toNat * 3 + j)) = some u := hc0; obtain ⟨A2, c2, rfl, l2, g2⟩ := CF hK; exact ⟨ad, A2, c2, e, hc 0 _ rfl, by rw [← oM _ _ 1 (by omega)]; exact hc 1 _ rfl, by rw [← oM _ _ 2 (by omega)]; exact hc 2 _ rfl, l2, g2⟩
structure S27 where
 f0 : Int
 f1 : Int
def z27 : S27 := ⟨(0 : Int), (0 : Int)⟩
def k27 : Kd S27 := Kd.iso (Kd.pair (Kd.int .i64) (Kd.int .i64)) (fun x : S27 => (x.f0, x.f1))
theorem L8 {w : World} {x : S27} {cs : List Value} (h : k27.K w x cs) : cs = [.int .i64 x.f0, .int .i64 x.f1] := by
 obtain ⟨_, _, rfl, rfl, rfl⟩ := h; exact rfl
theorem ZO {w : World} {base : Nat} {ok : Nat → Prop} {x : S27} {cs : List Value} (h : k27.M w base ok x cs) : cs = [.int .i64 x.f0, .int .i64 x.f1] := by
 obtain ⟨_, _, rfl, rfl, rfl⟩ := h; exact rfl
theorem XJ (w : World) (x : S27)  : k27.K w x [.int .i64 x.f0, .int .i64 x.f1] := ⟨[.int .i64 x.f0], [.int .i64 x.f1], rfl, rfl, rfl⟩
theorem wT (w : World) (base : Nat) (ok : Nat → Prop) (x : S27)  : k27.M w base ok x [.int .i64 x.f0, .int .i64 x.f1] := ⟨[.int .i64 x.f0], [.int .i64 x.f1], rfl, rfl, rfl⟩
theorem aeM (W : World) (ok : Nat → Prop) (x : S27) : Kd.FK k27 W ok x [.int .i64 x.f0, .int .i64 x.f1] := fun W2 _ => XJ W2 x
def eB (xs : List S27) (i : Int) : S27 := xs.getD i.toNat z27
theorem Bp {w : World} {A : Option Addr} {n : Nat} {xs : List S27} (h : Kd.C k27 w A n xs) (i : Int) (h0 : 0 ≤ i) (h1 : i < n) : ∃ ad , A = some ad ∧ w.cell? (ad.add (i.toNat * 2)) = some (.int .i64 (eB xs i).f0) ∧ w.cell? ⟨(ad.add (i.toNat * 2)).block, (ad.add (i.toNat * 2)).off + 1, none⟩ = some (.int .i64 (eB xs i).f1) := by
 obtain ⟨ad, c, e, _, hK, hc0⟩ := Kd.vQ h z27 i h0 h1; have hc : ∀ j u, c[j]? = some u → w.cell? (ad.add (i.toNat * 2 + j)) = some u := hc0; obtain rfl := L8 hK; exact ⟨ad, e, hc 0 _ rfl, by rw [← oM _ _ 1 (by omega)]; exact hc 1 _ rfl⟩
def eH (xs : List (List S27)) (i : Int) : (List S27) := xs.getD i.toNat ([] : List S27)
theorem Ga {w : World} {A : Option Addr} {n : Nat} {xs : List (List S27)} (h : Kd.C (Kd.slice 27 k27) w A n xs) (i : Int) (h0 : 0 ≤ i) (h1 : i < n) : ∃ ad A0 c0, A = some ad ∧ w.cell? (ad.add i.toNat) = some (.slice A0 (eH xs i).length c0) ∧ (eH xs i).length ≤ c0 ∧ k27.C w A0 (eH xs i).length (eH xs i) := by
 obtain ⟨ad, c, e, _, hK, hc0⟩ := Kd.vQ h ([] : List S27) i h0 h1; have hc : ∀ j u, c[j]? = some u → w.cell? (ad.add (i.toNat * 1 + j)) = some u := hc0; obtain ⟨A0, c0, rfl, l0, g0⟩ := hK; exact ⟨ad, A0, c0, e, by have hq := hc 0 _ rfl; rwa [Nat.mul_one, Nat.add_zero] at hq, l0, g0⟩
def vN (xs : List (List Int)) (i : Int) : (List Int) := xs.getD i.toNat ([] : List Int)
theorem abJ {w : World} {A : Option Addr} {n : Nat} {xs : List (List Int)} (h : Kd.C (Kd.slice 5 (Kd.int .u8)) w A n xs) (i : Int) (h0 : 0 ≤ i) (h1 : i < n) : ∃ ad A0 c0, A = some ad ∧ w.cell? (ad.add i.toNat) = some (.slice A0 (vN xs i).length c0) ∧ (vN xs i).length ≤ c0 ∧ (Kd.int .u8).C w A0 (vN xs i).length (vN xs i) := by
 obtain ⟨ad, c, e, _, hK, hc0⟩ := Kd.vQ h ([] : List Int) i h0 h1; have hc : ∀ j u, c[j]? = some u → w.cell? (ad.add (i.toNat * 1 + j)) = some u := hc0; obtain ⟨A0, c0, rfl, l0, g0⟩ := hK; exact ⟨ad, A0, c0, e, by have hq := hc 0 _ rfl; rwa [Nat.mul_one, Nat.add_zero] at hq, l0, g0⟩
structure BO where
 f0 : Int
 f1 : Int
def OM : BO := ⟨(0 : Int), (0 : Int)⟩
def LZ : Kd BO := Kd.iso (Kd.pair (Kd.int .i64) (Kd.int .u8)) (fun x : BO => (x.f0, x.f1))
theorem Ll {w : World} {x : BO} {cs : List Value} (h : LZ.K w x cs) : cs = [.int .i64 x.f0, .int .u8 x.f1] := by
 obtain ⟨_, _, rfl, rfl, rfl⟩ := h; exact rfl
theorem Yc {w : World} {base : Nat} {ok : Nat → Prop} {x : BO} {cs : List Value} (h : LZ.M w base ok x cs) : cs = [.int .i64 x.f0, .int .u8 x.f1] := by
 obtain ⟨_, _, rfl, rfl, rfl⟩ := h; exact rfl
theorem Si (w : World) (x : BO)  : LZ.K w x [.int .i64 x.f0, .int .u8 x.f1] := ⟨[.int .i64 x.f0], [.int .u8 x.f1], rfl, rfl, rfl⟩
theorem ace (w : World) (base : Nat) (ok : Nat → Prop) (x : BO)  : LZ.M w base ok x [.int .i64 x.f0, .int .u8 x.f1] := ⟨[.int .i64 x.f0], [.int .u8 x.f1], rfl, rfl, rfl⟩
theorem aa4 (W : World) (ok : Nat → Prop) (x : BO) : Kd.FK LZ W ok x [.int .i64 x.f0, .int .u8 x.f1] := fun W2 _ => Si W2 x
def KR (xs : List BO) (i : Int) : BO := xs.getD i.toNat OM
theorem aeX {w : World} {A : Option Addr} {n : Nat} {xs : List BO} (h : Kd.C LZ w A n xs) (i : Int) (h0 : 0 ≤ i) (h1 : i < n) : ∃ ad , A = some ad ∧ w.cell? (ad.add (i.toNat * 2)) = some (.int .i64 (KR xs i).f0) ∧ w.cell? ⟨(ad.add (i.toNat * 2)).block, (ad.add (i.toNat * 2)).off + 1, none⟩ = some (.int .u8 (KR xs i).f1) := by
 obtain ⟨ad, c, e, _, hK, hc0⟩ := Kd.vQ h OM i h0 h1; have hc : ∀ j u, c[j]? = some u → w.cell? (ad.add (i.toNat * 2 + j)) = some u := hc0; obtain rfl := Ll hK; exact ⟨ad, e, hc 0 _ rfl, by rw [← oM _ _ 1 (by omega)]; exact hc 1 _ rfl⟩
end Go.Proofs.Ytihedeofkhapiaa.Pr
end
section
namespace Go.Proofs.Ytihedeofkhapiaa.Pr
open Go.RowKit Go.Proofs.YtihedeofkhapiaaW.PrintWords Go.Proofs.YtihedeofkhapiaaW.PrintLast Go.Proofs.YtihedeofkhapiaaW.PrintMore
theorem nA {w : World} {g : Nat} {t : TypeId} {a0 a1 : Value} (h : w.heap[g]? = some (.cells #[a0, a1] t (0, 0))) : w.cell? ⟨g, 0, none⟩ = some a0 ∧ w.cell? ⟨g, 1, none⟩ = some a1 ∧ w.frozen? ⟨g, 0, none⟩ = false ∧ w.frozen? ⟨g, 1, none⟩ = false := ⟨(ai h 0).trans rfl, (ai h 1).trans rfl, bf h 0, bf h 1⟩
theorem cells3 {w : World} {g : Nat} {t : TypeId} {a0 a1 a2 : Value} (h : w.heap[g]? = some (.cells #[a0, a1, a2] t (0, 0))) : w.cell? ⟨g, 0, none⟩ = some a0 ∧ w.cell? ⟨g, 1, none⟩ = some a1 ∧ w.cell? ⟨g, 2, none⟩ = some a2 ∧ w.frozen? ⟨g, 0, none⟩ = false ∧ w.frozen? ⟨g, 1, none⟩ = false ∧ w.frozen? ⟨g, 2, none⟩ = false := ⟨(ai h 0).trans rfl, (ai h 1).trans rfl, (ai h 2).trans rfl, bf h 0, bf h 1, bf h 2⟩
theorem ahf {w : World} {g : Nat} {t : TypeId} {a0 a1 a2 a3 : Value} (h : w.heap[g]? = some (.cells #[a0, a1, a2, a3] t (0, 0))) : w.cell? ⟨g, 0, none⟩ = some a0 ∧ w.cell? ⟨g, 1, none⟩ = some a1 ∧ w.cell? ⟨g, 2, none⟩ = some a2 ∧ w.cell? ⟨g, 3, none⟩ = some a3 ∧ w.frozen? ⟨g, 0, none⟩ = false ∧ w.frozen? ⟨g, 1, none⟩ = false ∧ w.frozen? ⟨g, 2, none⟩ = false ∧ w.frozen? ⟨g, 3, none⟩ = false := ⟨(ai h 0).trans rfl, (ai h 1).trans rfl, (ai h 2).trans rfl, (ai h 3).trans rfl, bf h 0, bf h 1, bf h 2, bf h 3⟩
theorem cells5 {w : World} {g : Nat} {t : TypeId} {a0 a1 a2 a3 a4 : Value} (h : w.heap[g]? = some (.cells #[a0, a1, a2, a3, a4] t (0, 0))) : w.cell? ⟨g, 0, none⟩ = some a0 ∧ w.cell? ⟨g, 1, none⟩ = some a1 ∧ w.cell? ⟨g, 2, none⟩ = some a2 ∧ w.cell? ⟨g, 3, none⟩ = some a3 ∧ w.cell? ⟨g, 4, none⟩ = some a4 ∧ w.frozen? ⟨g, 0, none⟩ = false ∧ w.frozen? ⟨g, 1, none⟩ = false ∧ w.frozen? ⟨g, 2, none⟩ = false ∧ w.frozen? ⟨g, 3, none⟩ = false ∧ w.frozen? ⟨g, 4, none⟩ = false := ⟨(ai h 0).trans rfl, (ai h 1).trans rfl, (ai h 2).trans rfl, (ai h 3).trans rfl, (ai h 4).trans rfl, bf h 0, bf h 1, bf h 2, bf h 3, bf h 4⟩
theorem af0 {w : World} {g : Nat} {t : TypeId} {a0 a1 a2 a3 a4 a5 : Value} (h : w.heap[g]? = some (.cells #[a0, a1, a2, a3, a4, a5] t (0, 0))) : w.cell? ⟨g, 0, none⟩ = some a0 ∧ w.cell? ⟨g, 1, none⟩ = some a1 ∧ w.cell? ⟨g, 2, none⟩ = some a2 ∧ w.cell? ⟨g, 3, none⟩ = some a3 ∧ w.cell? ⟨g, 4, none⟩ = some a4 ∧ w.cell? ⟨g, 5, none⟩ = some a5 ∧ w.frozen? ⟨g, 0, none⟩ = false ∧ w.frozen? ⟨g, 1, none⟩ = false ∧ w.frozen? ⟨g, 2, none⟩ = false ∧ w.frozen? ⟨g, 3, none⟩ = false ∧ w.frozen? ⟨g, 4, none⟩ = false ∧ w.frozen? ⟨g, 5, none⟩ = false := ⟨(ai h 0).trans rfl, (ai h 1).trans rfl, (ai h 2).trans rfl, (ai h 3).trans rfl, (ai h 4).trans rfl, (ai h 5).trans rfl, bf h 0, bf h 1, bf h 2, bf h 3, bf h 4, bf h 5⟩
end Go.Proofs.Ytihedeofkhapiaa.Pr
end
section
namespace Go.Proofs.Ytihedeofkhapiaa.Pr
open Go.RowKit Go.Proofs.YtihedeofkhapiaaW.PrintWords Go.Proofs.YtihedeofkhapiaaW.PrintLast Go.Proofs.YtihedeofkhapiaaW.PrintMore
attribute [local go_sem] nP nM oZ pE mi mq nL nJ
def aD (w0 W : World) (g : Nat) (f0 : Int) (f1 : Int) : Prop := W.heap[g]? = some (.cells #[.int .u64 f0, .int .u64 f1] 91 (0, 0)) ∧ w0.heap.size ≤ g
theorem aD.grown {w0 W : World} {g : Nat} {f0 : Int} {f1 : Int} {W1 : World} {row : Option Nat} (h : aD w0 W g f0 f1) (hw : W.grownBy W1 row) (hne : some g ≠ row) : aD w0 W1 g f0 f1 := by
 obtain ⟨hb, hg⟩ := h; exact ⟨dI hb hw hne, hg⟩
theorem aD.yn {w0 W : World} {g : Nat} {f0 : Int} {f1 : Int} {α : Type} {d : Kd α} {e : Nat} {base : Nat} {ok : Nat → Prop} {v : Value} {xs : List α} (h : aD w0 W g f0 f1) (ho : Kd.N d e W base ok v xs) (ht : e ≠ 91) : some g ≠ v.ownBlock := by
 obtain ⟨hb, hg⟩ := h; exact Kd.wm ho hb ht
theorem aD.fresh {w0 W : World} {g : Nat} {f0 : Int} {f1 : Int} (h : aD w0 W g f0 f1) : ∀ k, W.heap.size ≤ k → k ≠ g := by
 obtain ⟨hb, hg⟩ := h; exact Kd.jU hb
theorem aD.below {w0 W : World} {g : Nat} {f0 : Int} {f1 : Int} {W1 : World} (h : aD w0 W g f0 f1) (hw : Below W.heap.size W W1) : aD w0 W1 g f0 f1 := h.grown (kr hw none) (by simp)
theorem aD.alloc {w0 W : World} {g : Nat} {f0 : Int} {f1 : Int} (h : aD w0 W g f0 f1) (o : Obj) : aD w0 (W.alloc o) g f0 f1 := h.below (bv (Below.refl _ _) o)
theorem aD.drewN {w0 W : World} {g : Nat} {f0 : Int} {f1 : Int} (h : aD w0 W g f0 f1) (m : Nat) : aD w0 (W.drewN m) g f0 f1 := h
theorem aD.drew {w0 W : World} {g : Nat} {f0 : Int} {f1 : Int} (h : aD w0 W g f0 f1) : aD w0 W.drew g f0 f1 := h
theorem aD.at_ {w0 W : World} {g : Nat} {f0 : Int} {f1 : Int} {w' : World} {m : Nat} (hq : W.drewN m = w') (h : aD w0 W g f0 f1) : aD w0 w' g f0 f1 := by subst hq; exact aD.drewN h m
theorem aD.apart {w0 W : World} {g : Nat} {f0 : Int} {f1 : Int} {α : Type} {d : Kd α} {e : Nat} {base : Nat} {ok : Nat → Prop} {v : Value} {xs : List α} (h : aD w0 W g f0 f1) (ho : d.R e W base ok v xs) (ht : ∀ q, q ∈ e :: d.E → q ≠ 91) : d.R e W base (fun k => ok k ∧ k ≠ g) v xs := by
 obtain ⟨hb, hg⟩ := h; exact Kd.dQ ho hb ht
theorem aD.own_ne {w0 W : World} {g : Nat} {f0 : Int} {f1 : Int} {α : Type} {d : Kd α} {e : Nat} {base : Nat} {ok : Nat → Prop} {v : Value} {xs : List α} (h : aD w0 W g f0 f1) (ho : d.R e W base ok v xs) (ht : e ≠ 91) : some g ≠ v.ownBlock := by
 obtain ⟨hb, hg⟩ := h; exact Kd.pQ ho hb ht
theorem aD.lt {w0 W : World} {g : Nat} {f0 : Int} {f1 : Int} (h : aD w0 W g f0 f1) : g < W.heap.size := by
 obtain ⟨hb, hg⟩ := h; exact bY hb
theorem aD.ge {w0 W : World} {g : Nat} {f0 : Int} {f1 : Int} (h : aD w0 W g f0 f1) : w0.heap.size ≤ g := by
 obtain ⟨hb, hg⟩ := h; exact hg
theorem aD.agu {w0 W : World} {g : Nat} {f0 : Int} {f1 : Int} {a : Nat} {cs : Array Value} {t : TypeId} {fr : Nat × Nat} (h : aD w0 W g f0 f1) (hb2 : W.heap[a]? = some (.cells cs t fr)) (ht : t ≠ 91) : g ≠ a := by
 obtain ⟨hb, hg⟩ := h; rintro rfl; rw [hb] at hb2; injection hb2 with hb2; injection hb2 with _ ht2; exact ht ht2.symm
theorem aD.far {w0 W : World} {g : Nat} {f0 : Int} {f1 : Int} {p : Addr} (h : aD w0 W g f0 f1) (hne : g ≠ p.block) (u : Value) : aD w0 (W.setCell p u) g f0 f1 := by
 obtain ⟨hb, hg⟩ := h; exact ⟨bA hb hne u, hg⟩
theorem zN {W : World} {g : Nat} {f0 : Int} {f1 : Int} (h : W.heap[g]? = some (.cells #[.int .u64 f0, .int .u64 f1] 91 (0, 0))) : W.cell? ⟨g, 0, none⟩ = some (.int .u64 f0) := (ai h 0).trans rfl
theorem aD.acE {w0 W : World} {g : Nat} {f0 : Int} {f1 : Int} (h : aD w0 W g f0 f1) (x : Int) : aD w0 (W.setCell ⟨g, 0, none⟩ (.int .u64 x)) g x f1 := by
 obtain ⟨hb, hg⟩ := h; exact ⟨by simpa using AL hb 0 (.int .u64 x), hg⟩
theorem zt {W : World} {g : Nat} {f0 : Int} {f1 : Int} (h : W.heap[g]? = some (.cells #[.int .u64 f0, .int .u64 f1] 91 (0, 0))) : W.cell? ⟨g, 1, none⟩ = some (.int .u64 f1) := (ai h 1).trans rfl
theorem aD.Pf {w0 W : World} {g : Nat} {f0 : Int} {f1 : Int} (h : aD w0 W g f0 f1) (x : Int) : aD w0 (W.setCell ⟨g, 1, none⟩ (.int .u64 x)) g f0 x := by
 obtain ⟨hb, hg⟩ := h; exact ⟨by simpa using AL hb 1 (.int .u64 x), hg⟩
theorem aD.new (w0 W : World) (f0 : Int) (f1 : Int) (hB : Below w0.heap.size w0 W) : aD w0 (W.alloc (.cells #[.int .u64 f0, .int .u64 f1] 91)) W.heap.size f0 f1 := ⟨by simpa using heap_alloc_new W _, hB.size⟩
end Go.Proofs.Ytihedeofkhapiaa.Pr
end
section
namespace Go.Proofs.Ytihedeofkhapiaa.Pr
open Go.RowKit Go.Proofs.YtihedeofkhapiaaW.PrintWords Go.Proofs.YtihedeofkhapiaaW.PrintLast Go.Proofs.YtihedeofkhapiaaW.PrintMore
class inductive UpC : World → World → Prop
 | refl (w : World) : UpC w w
 | alloc {w w' : World} (o : Obj) (h : UpC w w') : UpC w (w'.alloc o)
 | drewN {w w' : World} (n : Nat) (h : UpC w w') : UpC w (w'.drewN n)
 | drew {w w' : World} (h : UpC w w') : UpC w w'.drew
instance UpC.iA {w w' : World} {o : Obj} [h : UpC w w'] : UpC w (w'.alloc o) := .alloc o h
instance UpC.iN {w w' : World} {n : Nat} [h : UpC w w'] : UpC w (w'.drewN n) := .drewN n h
instance UpC.iD {w w' : World} [h : UpC w w'] : UpC w w'.drew := .drew h
instance (priority := high) UpC.iR {w : World} : UpC w w := .refl w
theorem bU {w w' : World} {g : Nat} {o : Obj} (hb : w.heap[g]? = some o) [h : UpC w w'] : w'.heap[g]? = some o := by
 induction h with
 | refl => exact hb
 | alloc o _ ih => exact dF ih _
 | drewN n _ ih => exact jN ih _
 | drew _ ih => exact fe ih
theorem rU {α : Type} {d : Kd α} {e : Nat} {w w' : World} {base : Nat} {ok : Nat → Prop} {v : Value} {xs : List α} (hb : Kd.R d e w base ok v xs) [h : UpC w w'] : Kd.R d e w' base ok v xs := by
 induction h with
 | refl => exact hb
 | alloc o _ ih => exact Kd.RX ih _
 | drewN n _ ih => exact Kd.yF ih _
 | drew _ ih => exact Kd.iE ih
theorem nU {α : Type} {d : Kd α} {e : Nat} {w w' : World} {base : Nat} {ok : Nat → Prop} {v : Value} {xs : List α} (hb : Kd.N d e w base ok v xs) [h : UpC w w'] : Kd.N d e w' base ok v xs := by
 induction h with
 | refl => exact hb
 | alloc o _ ih => exact Kd.Qq ih _
 | drewN n _ ih => exact Kd.yT ih _
 | drew _ ih => exact Kd.jH ih
theorem vU {α : Type} {d : Kd α} {e : Nat} {w w' : World} {base : Nat} {ok : Nat → Prop} {v : Value} {xs : List α} (hb : Kd.V d e w base ok v xs) [h : UpC w w'] : Kd.V d e w' base ok v xs := by
 induction h with
 | refl => exact hb
 | alloc o _ ih => exact Kd.U3 ih _
 | drewN n _ ih => exact Kd.UO ih _
 | drew _ ih => exact Kd.Ez ih
theorem iU {w0 w w' : World} {g : Nat} {x y : Int} (hb : aD w0 w g x y) [h : UpC w w'] : aD w0 w' g x y := by
 induction h with
 | refl => exact hb
 | alloc o _ ih => exact aD.alloc ih _
 | drewN n _ ih => exact aD.drewN ih _
 | drew _ ih => exact aD.drew ih
theorem kU {w0 w w' : World} {g : Nat} (hb : ak w0 w g none) [h : UpC w w'] : ak w0 w' g none := by
 induction h with
 | refl => exact hb
 | alloc o _ ih => exact Jd ih _
 | drewN n _ ih => exact uH ih _
 | drew _ ih => exact qh ih
theorem lU {w0 w w' : World} (hb : Below w0.heap.size w0 w) [h : UpC w w'] : Below w0.heap.size w0 w' := by
 induction h with
 | refl => exact hb
 | alloc o _ ih => exact bv ih _
 | drewN n _ ih => exact fI ih _
 | drew _ ih => exact gz ih
end Go.Proofs.Ytihedeofkhapiaa.Pr
end
section
namespace Go.Proofs.Ytihedeofkhapiaa.Pr
open Go.RowKit Go.Proofs.YtihedeofkhapiaaW.PrintWords Go.Proofs.YtihedeofkhapiaaW.PrintLast Go.Proofs.YtihedeofkhapiaaW.PrintMore
attribute [local go_sem] nP nM oZ pE mi mq nL nJ
mutual
def dH.l0 : Nat → List (S27) → Int → Int → Bool → List (S27) → Int → Int → Option (Int × Int × Bool)
 | 0, _, _, _, _, _, _, _ => none
 | k + 1, x0, x2, x3, x4, x9, x10, x11 => if x11 < x10 then (if 0 ≤ x11 then (if x11 < (x9.length : Int) then (dH.l0 k x0 (Go.bits .or .i64 x2 ((eB x9 x11).f0)) (Go.bits .or .i64 x3 ((eB x9 x11).f1)) x4 x9 x10 (wrap64 (x11 + 1))) else (none)) else (none)) else (dH.l1 k x2 x3 x4 x0 (x0.length : Int) 0)
def dH.l1 : Nat → Int → Int → Bool → List (S27) → Int → Int → Option (Int × Int × Bool)
 | 0, _, _, _, _, _, _ => none
 | k + 1, x2, x3, x4, x24, x25, x26 => if x26 < x25 then (if 0 ≤ x26 then (if x26 < (x24.length : Int) then (if x4 = true then (dH.l1 k x2 x3 ((Go.bits .and .i64 x3 ((eB x24 x26).f0)) == ((eB x24 x26).f1)) x24 x25 (wrap64 (x26 + 1))) else (dH.l1 k x2 x3 false x24 x25 (wrap64 (x26 + 1)))) else (none)) else (none)) else (some (x2, x3, x4))
end
def dH.f (k : Nat) (l0 : List (S27)) : Option (Int × Int × Bool) := dH.l0 k l0 0 0 true l0 (l0.length : Int) 0
theorem dH.iB : ∀ k, (∀ y0 y1 y2 y3 y4 y5 y6, LeO (dH.l0 k y0 y1 y2 y3 y4 y5 y6) (dH.l0 (k + 1) y0 y1 y2 y3 y4 y5 y6)) ∧ (∀ y0 y1 y2 y3 y4 y5, LeO (dH.l1 k y0 y1 y2 y3 y4 y5) (dH.l1 (k + 1) y0 y1 y2 y3 y4 y5))
 | 0 => ⟨fun _ _ _ _ _ _ _ r h => by simp [dH.l0] at h, fun _ _ _ _ _ _ r h => by simp [dH.l1] at h⟩
 | k + 1 => by
  obtain ⟨ih0, ih1⟩ := dH.iB k; refine ⟨?_, ?_⟩
  ·intro y0 y1 y2 y3 y4 y5 y6; unfold dH.l0
   repeat' first | (with_reducible exact ih0 _ _ _ _ _ _ _) | (with_reducible exact ih1 _ _ _ _ _ _) | (with_reducible exact LeO.refl _) | (with_reducible refine LeO.ite ?_ ?_)
  ·intro y0 y1 y2 y3 y4 y5; unfold dH.l1
   repeat' first | (with_reducible exact ih1 _ _ _ _ _ _) | (with_reducible exact LeO.refl _) | (with_reducible refine LeO.ite ?_ ?_)
theorem dH.mono : ∀ a0 k, LeO (dH.f k a0) (dH.f (k + 1) a0) := by
 intro a0 k; obtain ⟨ih0, ih1⟩ := dH.iB k; unfold dH.f
 repeat' (with_reducible exact ih0 _ _ _ _ _ _ _)
set_option maxHeartbeats 8000000 in
set_option maxRecDepth 100000 in
theorem dH.calls (k : Nat) (A0 : Option Addr) (c0 : Nat) (l0 : List (S27)) (r1 : Int) (r2 : Int) (r3 : Bool) (w : World) (hr0 : Kd.C k27 w A0 l0.length l0) (hc0 : l0.length ≤ c0) (h : dH.f k l0 = some (r1, r2, r3)) :
 Calls Try.prog 82 #[.slice A0 l0.length c0] w fun e w' => e = .returned (.tuple #[.int .i64 r1, .int .i64 r2, .bool r3]) ∧ Below w.heap.size w w' := by
 have hu27 := Try.underlying27; have HR0 := aa.mk hr0; have HC0 := aa.mk hc0; clear hr0 hc0; have HB := aa.mk (Below.refl w.heap.size w); have H : (dH.l0 k l0 0 0 true l0 (l0.length : Int) 0) = some (r1, r2, r3) := h; clear h; have H' := aa.mk H; clear H; go_enter Try.func82, Try.ntmps82; go_wp2; (go_loopg [2, 3, 11] k (fun kq v2 v3 v11 w' => ∃ (Nn : Int) (LD : Int) (lq : Int), v2 = .int .i64 Nn ∧ v3 = .int .i64 LD ∧ v11 = .int .i64 lq ∧ aa (dH.l0 kq l0 Nn LD true l0 (l0.length : Int) lq = some (r1, r2, r3)) ∧ aa (kq ≤ k) ∧ aa (Below w.heap.size w w'))); case atStart => exact ⟨(0), (0), (0), (by rfl), (by rfl), (by rfl), H', ⟨Nat.le_refl _⟩, ⟨by exact HB.out⟩⟩
 case round =>
  clear H'; obtain ⟨Nn, LD, lq, rfl, rfl, rfl, HA, HK1, HB⟩ := hrel
  cases gk with
  | zero => exact absurd HA.out (by simp [dH.l0])
  | succ k1 =>
   have H := HA.out; clear HA; simp only [dH.l0] at H; by_cases c2 : lq < (l0.length : Int)
   ·rw [if_pos c2] at H; have Ji : decide (lq < (l0.length : Int)) = true := decide_eq_true c2; clear c2; by_cases c3 : 0 ≤ lq
    ·rw [if_pos c3] at H; have xz : decide (0 ≤ lq) = true := decide_eq_true c3; clear c3; by_cases c4 : lq < (l0.length : Int)
     ·rw [if_pos c4] at H; have EZ : decide (lq < (l0.length : Int)) = true := decide_eq_true c4; clear c4; have H' := aa.mk H; clear H; have NT : 0 ≤ (lq : Int) := of_decide_eq_true (by with_reducible assumption); have Oj : lq < (l0.length : Int) := of_decide_eq_true (by with_reducible assumption); obtain ⟨agO, e1166, CK, CL⟩ := Bp HR0.out lq NT Oj; cases e1166; replace CK := (HB.out.cell (World.block_lt_of_cell? w _ CK)).trans CK; replace CL := (HB.out.cell (World.block_lt_of_cell? w _ CL)).trans CL; replace NT := eq_true NT; replace Oj := eq_true Oj; (go_wp2_with (((with_reducible refine dL (N := 6) rfl ?_); refine eG ?hg (N := 6) ?hd (cs := #[.int .i64 0, .int .i64 0]) (t := 27) ?hr ?_; (case hd => rfl); (case hg => rfl); (case hr => (go_simp; done)); intro wI hg w5 hbox hb; have BG := aa.mk (hbox); have N9 := aa.mk ((by rw [hg]; exact (aK (by exact HB.out)) : w.heap.size ≤ wI)); have Iu := aa.mk ((by rw [hg]; exact (aK (by exact HB.out)) : w.heap.size ≤ wI)); replace HB := aa.mk (bn (by exact HB.out) hb); clear hb hbox hg; obtain ⟨En, E5, EW, Fs⟩ := nA BG.out))); (repeat (go_quiet (first | ((with_reducible refine dL (N := 6) rfl ?_); refine eG ?hg (N := 6) ?hd (cs := #[.int .i64 0, .int .i64 0]) (t := 27) ?hr ?_; (case hd => rfl); (case hg => rfl); (case hr => first | (go_simp; done) | (go_simp; rfl)); intro wI hg w5 hbox hb; have BG := aa.mk (hbox); have N9 := aa.mk ((by rw [hg]; exact (aK (by repeat (first | (with_reducible first | exact HB.out | apply bv | apply fI | apply gz) | exact HB.out))) : w.heap.size ≤ wI)); have Iu := aa.mk ((by rw [hg]; exact (aK (by repeat (first | (with_reducible first | exact HB.out | apply bv | apply fI | apply gz) | exact HB.out))) : w.heap.size ≤ wI)); replace HB := aa.mk (bn (by repeat (first | (with_reducible first | exact HB.out | apply bv | apply fI | apply gz) | exact HB.out)) hb); clear hb hbox hg; obtain ⟨En, E5, EW, Fs⟩ := nA BG.out)); go_wp2_with (first | ((with_reducible refine dL (N := 6) rfl ?_); refine eG ?hg (N := 6) ?hd (cs := #[.int .i64 0, .int .i64 0]) (t := 27) ?hr ?_; (case hd => rfl); (case hg => rfl); (case hr => first | (go_simp; done) | (go_simp; rfl)); intro wI hg w5 hbox hb; have BG := aa.mk (hbox); have N9 := aa.mk ((by rw [hg]; exact (aK (by repeat (first | (with_reducible first | exact HB.out | apply bv | apply fI | apply gz) | exact HB.out))) : w.heap.size ≤ wI)); have Iu := aa.mk ((by rw [hg]; exact (aK (by repeat (first | (with_reducible first | exact HB.out | apply bv | apply fI | apply gz) | exact HB.out))) : w.heap.size ≤ wI)); replace HB := aa.mk (bn (by repeat (first | (with_reducible first | exact HB.out | apply bv | apply fI | apply gz) | exact HB.out)) hb); clear hb hbox hg; obtain ⟨En, E5, EW, Fs⟩ := nA BG.out)))); go_roundg k1; (case measure => have := HK1.out; omega); case rel => exact ⟨(Go.bits .or .i64 Nn ((eB l0 lq).f0)), (Go.bits .or .i64 LD ((eB l0 lq).f1)), (wrap64 (lq + 1)), (by rfl), (by rfl), (by rfl), H', ⟨by have := HK1.out; omega⟩, ⟨by repeat ((with_reducible first | exact HB.out | apply fI | refine dJ ?_ Iu.out))⟩⟩
     ·rw [if_neg c4] at H; exact absurd H (by simp)
    ·rw [if_neg c3] at H; exact absurd H (by simp)
   ·rw [if_neg c2] at H; have Ji : decide (lq < (l0.length : Int)) = false := decide_eq_false c2; clear c2; have H' := aa.mk H; clear H; go_wp2; (go_loopg [4, 26] k1 (fun kq v4 v26 w' => ∃ (TY : Bool) (oI : Int), v4 = .bool TY ∧ v26 = .int .i64 oI ∧ aa (dH.l1 kq Nn LD TY l0 (l0.length : Int) oI = some (r1, r2, r3)) ∧ aa (kq ≤ k1) ∧ aa (Below w.heap.size w w'))); case atStart => exact ⟨(true), (0), (by rfl), (by rfl), H', ⟨Nat.le_refl _⟩, ⟨by exact HB.out⟩⟩
    case round =>
     clear H' Ji; obtain ⟨TY, oI, rfl, rfl, HA, HK2, HB⟩ := hrel
     cases gk with
     | zero => exact absurd HA.out (by simp [dH.l1])
     | succ k2 =>
      have H := HA.out; clear HA; simp only [dH.l1] at H; by_cases c7 : oI < (l0.length : Int)
      ·rw [if_pos c7] at H; have XY : decide (oI < (l0.length : Int)) = true := decide_eq_true c7; clear c7; by_cases c8 : 0 ≤ oI
       ·rw [if_pos c8] at H; have MZ : decide (0 ≤ oI) = true := decide_eq_true c8; clear c8; by_cases c9 : oI < (l0.length : Int)
        ·rw [if_pos c9] at H; have Uf : decide (oI < (l0.length : Int)) = true := decide_eq_true c9; clear c9; by_cases c10 : TY = true
         ·subst c10; rw [if_pos rfl] at H; have H' := aa.mk H; clear H; have Bb : 0 ≤ (oI : Int) := of_decide_eq_true (by with_reducible assumption); have BJ : oI < (l0.length : Int) := of_decide_eq_true (by with_reducible assumption); obtain ⟨YC, e1168, rP, rZ⟩ := Bp HR0.out oI Bb BJ; cases e1168; replace rP := (HB.out.cell (World.block_lt_of_cell? w _ rP)).trans rP; replace rZ := (HB.out.cell (World.block_lt_of_cell? w _ rZ)).trans rZ; replace Bb := eq_true Bb; replace BJ := eq_true BJ; (go_wp2_with (((with_reducible refine dL (N := 8) rfl ?_); refine eG ?hg (N := 8) ?hd (cs := #[.int .i64 0, .int .i64 0]) (t := 27) ?hr ?_; (case hd => rfl); (case hg => rfl); (case hr => (go_simp; done)); intro Bw hg w11 hbox hb; have Iz := aa.mk (hbox); have YL := aa.mk ((by rw [hg]; exact (aK (by exact HB.out)) : w.heap.size ≤ Bw)); have IY := aa.mk ((by rw [hg]; exact (aK (by exact HB.out)) : w.heap.size ≤ Bw)); replace HB := aa.mk (bn (by exact HB.out) hb); clear hb hbox hg; obtain ⟨D5, EI, EH, EY⟩ := nA Iz.out))); go_roundg k2; (case measure => have := HK1.out; have := HK2.out; omega); case rel => exact ⟨(((Go.bits .and .i64 LD ((eB l0 oI).f0)) == ((eB l0 oI).f1))), (wrap64 (oI + 1)), (by rfl), (by rfl), H', ⟨by have := HK1.out; have := HK2.out; omega⟩, ⟨by repeat ((with_reducible first | exact HB.out | refine dJ ?_ IY.out))⟩⟩
         ·replace c10 := Bool.eq_false_iff.mpr c10; subst c10; rw [if_neg (show ¬ (false = true) by decide)] at H; have H' := aa.mk H; clear H; have Bb : 0 ≤ (oI : Int) := of_decide_eq_true (by with_reducible assumption); have BJ : oI < (l0.length : Int) := of_decide_eq_true (by with_reducible assumption); obtain ⟨YC, e1168, rP, rZ⟩ := Bp HR0.out oI Bb BJ; cases e1168; replace rP := (HB.out.cell (World.block_lt_of_cell? w _ rP)).trans rP; replace rZ := (HB.out.cell (World.block_lt_of_cell? w _ rZ)).trans rZ; replace Bb := eq_true Bb; replace BJ := eq_true BJ; (go_wp2_with (((with_reducible refine dL (N := 8) rfl ?_); refine eG ?hg (N := 8) ?hd (cs := #[.int .i64 0, .int .i64 0]) (t := 27) ?hr ?_; (case hd => rfl); (case hg => rfl); (case hr => (go_simp; done)); intro Bw hg w13 hbox hb; have Iz := aa.mk (hbox); have YL := aa.mk ((by rw [hg]; exact (aK (by exact HB.out)) : w.heap.size ≤ Bw)); have IY := aa.mk ((by rw [hg]; exact (aK (by exact HB.out)) : w.heap.size ≤ Bw)); replace HB := aa.mk (bn (by exact HB.out) hb); clear hb hbox hg; obtain ⟨ad5, aeG, aei, ae6⟩ := nA Iz.out))); go_roundg k2; (case measure => have := HK1.out; have := HK2.out; omega); case rel => exact ⟨(false), (wrap64 (oI + 1)), (by rfl), (by rfl), H', ⟨by have := HK1.out; have := HK2.out; omega⟩, ⟨by repeat ((with_reducible first | exact HB.out | refine dJ ?_ IY.out))⟩⟩
        ·rw [if_neg c9] at H; exact absurd H (by simp)
       ·rw [if_neg c8] at H; exact absurd H (by simp)
      ·rw [if_neg c7] at H; have XY : decide (oI < (l0.length : Int)) = false := decide_eq_false c7; clear c7; simp only [Option.some.injEq, Prod.mk.injEq] at H; obtain ⟨rfl, rfl, rfl⟩ := H; go_wp2
       go_ret3
       exact ⟨by rfl, by exact HB.out⟩
def kS.f (a0 : Int) : Option (Int) := some (Go.bits .and .i64 (wrap64 (IntKind.u64.wrap ((IntKind.u64.wrap ((IntKind.u64.wrap ((Go.bits .and .u64 (IntKind.u64.wrap (((IntKind.u64.wrap ((Go.bits .and .u64 ((IntKind.u64.wrap ((Go.bits .and .u64 (a0 / 2) 6148914691236517205) + (Go.bits .and .u64 a0 6148914691236517205))) / 4) 3689348814741910323) + (Go.bits .and .u64 (IntKind.u64.wrap ((Go.bits .and .u64 (a0 / 2) 6148914691236517205) + (Go.bits .and .u64 a0 6148914691236517205))) 3689348814741910323))) / 16) + (IntKind.u64.wrap ((Go.bits .and .u64 ((IntKind.u64.wrap ((Go.bits .and .u64 (a0 / 2) 6148914691236517205) + (Go.bits .and .u64 a0 6148914691236517205))) / 4) 3689348814741910323) + (Go.bits .and .u64 (IntKind.u64.wrap ((Go.bits .and .u64 (a0 / 2) 6148914691236517205) + (Go.bits .and .u64 a0 6148914691236517205))) 3689348814741910323))))) 1085102592571150095) + ((Go.bits .and .u64 (IntKind.u64.wrap (((IntKind.u64.wrap ((Go.bits .and .u64 ((IntKind.u64.wrap ((Go.bits .and .u64 (a0 / 2) 6148914691236517205) + (Go.bits .and .u64 a0 6148914691236517205))) / 4) 3689348814741910323) + (Go.bits .and .u64 (IntKind.u64.wrap ((Go.bits .and .u64 (a0 / 2) 6148914691236517205) + (Go.bits .and .u64 a0 6148914691236517205))) 3689348814741910323))) / 16) + (IntKind.u64.wrap ((Go.bits .and .u64 ((IntKind.u64.wrap ((Go.bits .and .u64 (a0 / 2) 6148914691236517205) + (Go.bits .and .u64 a0 6148914691236517205))) / 4) 3689348814741910323) + (Go.bits .and .u64 (IntKind.u64.wrap ((Go.bits .and .u64 (a0 / 2) 6148914691236517205) + (Go.bits .and .u64 a0 6148914691236517205))) 3689348814741910323))))) 1085102592571150095) / 256))) + ((IntKind.u64.wrap ((Go.bits .and .u64 (IntKind.u64.wrap (((IntKind.u64.wrap ((Go.bits .and .u64 ((IntKind.u64.wrap ((Go.bits .and .u64 (a0 / 2) 6148914691236517205) + (Go.bits .and .u64 a0 6148914691236517205))) / 4) 3689348814741910323) + (Go.bits .and .u64 (IntKind.u64.wrap ((Go.bits .and .u64 (a0 / 2) 6148914691236517205) + (Go.bits .and .u64 a0 6148914691236517205))) 3689348814741910323))) / 16) + (IntKind.u64.wrap ((Go.bits .and .u64 ((IntKind.u64.wrap ((Go.bits .and .u64 (a0 / 2) 6148914691236517205) + (Go.bits .and .u64 a0 6148914691236517205))) / 4) 3689348814741910323) + (Go.bits .and .u64 (IntKind.u64.wrap ((Go.bits .and .u64 (a0 / 2) 6148914691236517205) + (Go.bits .and .u64 a0 6148914691236517205))) 3689348814741910323))))) 1085102592571150095) + ((Go.bits .and .u64 (IntKind.u64.wrap (((IntKind.u64.wrap ((Go.bits .and .u64 ((IntKind.u64.wrap ((Go.bits .and .u64 (a0 / 2) 6148914691236517205) + (Go.bits .and .u64 a0 6148914691236517205))) / 4) 3689348814741910323) + (Go.bits .and .u64 (IntKind.u64.wrap ((Go.bits .and .u64 (a0 / 2) 6148914691236517205) + (Go.bits .and .u64 a0 6148914691236517205))) 3689348814741910323))) / 16) + (IntKind.u64.wrap ((Go.bits .and .u64 ((IntKind.u64.wrap ((Go.bits .and .u64 (a0 / 2) 6148914691236517205) + (Go.bits .and .u64 a0 6148914691236517205))) / 4) 3689348814741910323) + (Go.bits .and .u64 (IntKind.u64.wrap ((Go.bits .and .u64 (a0 / 2) 6148914691236517205) + (Go.bits .and .u64 a0 6148914691236517205))) 3689348814741910323))))) 1085102592571150095) / 256))) / 65536))) + ((IntKind.u64.wrap ((IntKind.u64.wrap ((Go.bits .and .u64 (IntKind.u64.wrap (((IntKind.u64.wrap ((Go.bits .and .u64 ((IntKind.u64.wrap ((Go.bits .and .u64 (a0 / 2) 6148914691236517205) + (Go.bits .and .u64 a0 6148914691236517205))) / 4) 3689348814741910323) + (Go.bits .and .u64 (IntKind.u64.wrap ((Go.bits .and .u64 (a0 / 2) 6148914691236517205) + (Go.bits .and .u64 a0 6148914691236517205))) 3689348814741910323))) / 16) + (IntKind.u64.wrap ((Go.bits .and .u64 ((IntKind.u64.wrap ((Go.bits .and .u64 (a0 / 2) 6148914691236517205) + (Go.bits .and .u64 a0 6148914691236517205))) / 4) 3689348814741910323) + (Go.bits .and .u64 (IntKind.u64.wrap ((Go.bits .and .u64 (a0 / 2) 6148914691236517205) + (Go.bits .and .u64 a0 6148914691236517205))) 3689348814741910323))))) 1085102592571150095) + ((Go.bits .and .u64 (IntKind.u64.wrap (((IntKind.u64.wrap ((Go.bits .and .u64 ((IntKind.u64.wrap ((Go.bits .and .u64 (a0 / 2) 6148914691236517205) + (Go.bits .and .u64 a0 6148914691236517205))) / 4) 3689348814741910323) + (Go.bits .and .u64 (IntKind.u64.wrap ((Go.bits .and .u64 (a0 / 2) 6148914691236517205) + (Go.bits .and .u64 a0 6148914691236517205))) 3689348814741910323))) / 16) + (IntKind.u64.wrap ((Go.bits .and .u64 ((IntKind.u64.wrap ((Go.bits .and .u64 (a0 / 2) 6148914691236517205) + (Go.bits .and .u64 a0 6148914691236517205))) / 4) 3689348814741910323) + (Go.bits .and .u64 (IntKind.u64.wrap ((Go.bits .and .u64 (a0 / 2) 6148914691236517205) + (Go.bits .and .u64 a0 6148914691236517205))) 3689348814741910323))))) 1085102592571150095) / 256))) + ((IntKind.u64.wrap ((Go.bits .and .u64 (IntKind.u64.wrap (((IntKind.u64.wrap ((Go.bits .and .u64 ((IntKind.u64.wrap ((Go.bits .and .u64 (a0 / 2) 6148914691236517205) + (Go.bits .and .u64 a0 6148914691236517205))) / 4) 3689348814741910323) + (Go.bits .and .u64 (IntKind.u64.wrap ((Go.bits .and .u64 (a0 / 2) 6148914691236517205) + (Go.bits .and .u64 a0 6148914691236517205))) 3689348814741910323))) / 16) + (IntKind.u64.wrap ((Go.bits .and .u64 ((IntKind.u64.wrap ((Go.bits .and .u64 (a0 / 2) 6148914691236517205) + (Go.bits .and .u64 a0 6148914691236517205))) / 4) 3689348814741910323) + (Go.bits .and .u64 (IntKind.u64.wrap ((Go.bits .and .u64 (a0 / 2) 6148914691236517205) + (Go.bits .and .u64 a0 6148914691236517205))) 3689348814741910323))))) 1085102592571150095) + ((Go.bits .and .u64 (IntKind.u64.wrap (((IntKind.u64.wrap ((Go.bits .and .u64 ((IntKind.u64.wrap ((Go.bits .and .u64 (a0 / 2) 6148914691236517205) + (Go.bits .and .u64 a0 6148914691236517205))) / 4) 3689348814741910323) + (Go.bits .and .u64 (IntKind.u64.wrap ((Go.bits .and .u64 (a0 / 2) 6148914691236517205) + (Go.bits .and .u64 a0 6148914691236517205))) 3689348814741910323))) / 16) + (IntKind.u64.wrap ((Go.bits .and .u64 ((IntKind.u64.wrap ((Go.bits .and .u64 (a0 / 2) 6148914691236517205) + (Go.bits .and .u64 a0 6148914691236517205))) / 4) 3689348814741910323) + (Go.bits .and .u64 (IntKind.u64.wrap ((Go.bits .and .u64 (a0 / 2) 6148914691236517205) + (Go.bits .and .u64 a0 6148914691236517205))) 3689348814741910323))))) 1085102592571150095) / 256))) / 65536))) / 4294967296)))) 127)
set_option maxHeartbeats 8000000 in
set_option maxRecDepth 100000 in
theorem kS.calls (a0 : Int) (r : Int) (w : World) (h : kS.f a0 = some r) :
 Calls Try.prog 100 #[.int .u64 a0] w fun e w' => e = .returned (.int .i64 r) ∧ gm w w' := by
 have H : (some (Go.bits .and .i64 (wrap64 (IntKind.u64.wrap ((IntKind.u64.wrap ((IntKind.u64.wrap ((Go.bits .and .u64 (IntKind.u64.wrap (((IntKind.u64.wrap ((Go.bits .and .u64 ((IntKind.u64.wrap ((Go.bits .and .u64 (a0 / 2) 6148914691236517205) + (Go.bits .and .u64 a0 6148914691236517205))) / 4) 3689348814741910323) + (Go.bits .and .u64 (IntKind.u64.wrap ((Go.bits .and .u64 (a0 / 2) 6148914691236517205) + (Go.bits .and .u64 a0 6148914691236517205))) 3689348814741910323))) / 16) + (IntKind.u64.wrap ((Go.bits .and .u64 ((IntKind.u64.wrap ((Go.bits .and .u64 (a0 / 2) 6148914691236517205) + (Go.bits .and .u64 a0 6148914691236517205))) / 4) 3689348814741910323) + (Go.bits .and .u64 (IntKind.u64.wrap ((Go.bits .and .u64 (a0 / 2) 6148914691236517205) + (Go.bits .and .u64 a0 6148914691236517205))) 3689348814741910323))))) 1085102592571150095) + ((Go.bits .and .u64 (IntKind.u64.wrap (((IntKind.u64.wrap ((Go.bits .and .u64 ((IntKind.u64.wrap ((Go.bits .and .u64 (a0 / 2) 6148914691236517205) + (Go.bits .and .u64 a0 6148914691236517205))) / 4) 3689348814741910323) + (Go.bits .and .u64 (IntKind.u64.wrap ((Go.bits .and .u64 (a0 / 2) 6148914691236517205) + (Go.bits .and .u64 a0 6148914691236517205))) 3689348814741910323))) / 16) + (IntKind.u64.wrap ((Go.bits .and .u64 ((IntKind.u64.wrap ((Go.bits .and .u64 (a0 / 2) 6148914691236517205) + (Go.bits .and .u64 a0 6148914691236517205))) / 4) 3689348814741910323) + (Go.bits .and .u64 (IntKind.u64.wrap ((Go.bits .and .u64 (a0 / 2) 6148914691236517205) + (Go.bits .and .u64 a0 6148914691236517205))) 3689348814741910323))))) 1085102592571150095) / 256))) + ((IntKind.u64.wrap ((Go.bits .and .u64 (IntKind.u64.wrap (((IntKind.u64.wrap ((Go.bits .and .u64 ((IntKind.u64.wrap ((Go.bits .and .u64 (a0 / 2) 6148914691236517205) + (Go.bits .and .u64 a0 6148914691236517205))) / 4) 3689348814741910323) + (Go.bits .and .u64 (IntKind.u64.wrap ((Go.bits .and .u64 (a0 / 2) 6148914691236517205) + (Go.bits .and .u64 a0 6148914691236517205))) 3689348814741910323))) / 16) + (IntKind.u64.wrap ((Go.bits .and .u64 ((IntKind.u64.wrap ((Go.bits .and .u64 (a0 / 2) 6148914691236517205) + (Go.bits .and .u64 a0 6148914691236517205))) / 4) 3689348814741910323) + (Go.bits .and .u64 (IntKind.u64.wrap ((Go.bits .and .u64 (a0 / 2) 6148914691236517205) + (Go.bits .and .u64 a0 6148914691236517205))) 3689348814741910323))))) 1085102592571150095) + ((Go.bits .and .u64 (IntKind.u64.wrap (((IntKind.u64.wrap ((Go.bits .and .u64 ((IntKind.u64.wrap ((Go.bits .and .u64 (a0 / 2) 6148914691236517205) + (Go.bits .and .u64 a0 6148914691236517205))) / 4) 3689348814741910323) + (Go.bits .and .u64 (IntKind.u64.wrap ((Go.bits .and .u64 (a0 / 2) 6148914691236517205) + (Go.bits .and .u64 a0 6148914691236517205))) 3689348814741910323))) / 16) + (IntKind.u64.wrap ((Go.bits .and .u64 ((IntKind.u64.wrap ((Go.bits .and .u64 (a0 / 2) 6148914691236517205) + (Go.bits .and .u64 a0 6148914691236517205))) / 4) 3689348814741910323) + (Go.bits .and .u64 (IntKind.u64.wrap ((Go.bits .and .u64 (a0 / 2) 6148914691236517205) + (Go.bits .and .u64 a0 6148914691236517205))) 3689348814741910323))))) 1085102592571150095) / 256))) / 65536))) + ((IntKind.u64.wrap ((IntKind.u64.wrap ((Go.bits .and .u64 (IntKind.u64.wrap (((IntKind.u64.wrap ((Go.bits .and .u64 ((IntKind.u64.wrap ((Go.bits .and .u64 (a0 / 2) 6148914691236517205) + (Go.bits .and .u64 a0 6148914691236517205))) / 4) 3689348814741910323) + (Go.bits .and .u64 (IntKind.u64.wrap ((Go.bits .and .u64 (a0 / 2) 6148914691236517205) + (Go.bits .and .u64 a0 6148914691236517205))) 3689348814741910323))) / 16) + (IntKind.u64.wrap ((Go.bits .and .u64 ((IntKind.u64.wrap ((Go.bits .and .u64 (a0 / 2) 6148914691236517205) + (Go.bits .and .u64 a0 6148914691236517205))) / 4) 3689348814741910323) + (Go.bits .and .u64 (IntKind.u64.wrap ((Go.bits .and .u64 (a0 / 2) 6148914691236517205) + (Go.bits .and .u64 a0 6148914691236517205))) 3689348814741910323))))) 1085102592571150095) + ((Go.bits .and .u64 (IntKind.u64.wrap (((IntKind.u64.wrap ((Go.bits .and .u64 ((IntKind.u64.wrap ((Go.bits .and .u64 (a0 / 2) 6148914691236517205) + (Go.bits .and .u64 a0 6148914691236517205))) / 4) 3689348814741910323) + (Go.bits .and .u64 (IntKind.u64.wrap ((Go.bits .and .u64 (a0 / 2) 6148914691236517205) + (Go.bits .and .u64 a0 6148914691236517205))) 3689348814741910323))) / 16) + (IntKind.u64.wrap ((Go.bits .and .u64 ((IntKind.u64.wrap ((Go.bits .and .u64 (a0 / 2) 6148914691236517205) + (Go.bits .and .u64 a0 6148914691236517205))) / 4) 3689348814741910323) + (Go.bits .and .u64 (IntKind.u64.wrap ((Go.bits .and .u64 (a0 / 2) 6148914691236517205) + (Go.bits .and .u64 a0 6148914691236517205))) 3689348814741910323))))) 1085102592571150095) / 256))) + ((IntKind.u64.wrap ((Go.bits .and .u64 (IntKind.u64.wrap (((IntKind.u64.wrap ((Go.bits .and .u64 ((IntKind.u64.wrap ((Go.bits .and .u64 (a0 / 2) 6148914691236517205) + (Go.bits .and .u64 a0 6148914691236517205))) / 4) 3689348814741910323) + (Go.bits .and .u64 (IntKind.u64.wrap ((Go.bits .and .u64 (a0 / 2) 6148914691236517205) + (Go.bits .and .u64 a0 6148914691236517205))) 3689348814741910323))) / 16) + (IntKind.u64.wrap ((Go.bits .and .u64 ((IntKind.u64.wrap ((Go.bits .and .u64 (a0 / 2) 6148914691236517205) + (Go.bits .and .u64 a0 6148914691236517205))) / 4) 3689348814741910323) + (Go.bits .and .u64 (IntKind.u64.wrap ((Go.bits .and .u64 (a0 / 2) 6148914691236517205) + (Go.bits .and .u64 a0 6148914691236517205))) 3689348814741910323))))) 1085102592571150095) + ((Go.bits .and .u64 (IntKind.u64.wrap (((IntKind.u64.wrap ((Go.bits .and .u64 ((IntKind.u64.wrap ((Go.bits .and .u64 (a0 / 2) 6148914691236517205) + (Go.bits .and .u64 a0 6148914691236517205))) / 4) 3689348814741910323) + (Go.bits .and .u64 (IntKind.u64.wrap ((Go.bits .and .u64 (a0 / 2) 6148914691236517205) + (Go.bits .and .u64 a0 6148914691236517205))) 3689348814741910323))) / 16) + (IntKind.u64.wrap ((Go.bits .and .u64 ((IntKind.u64.wrap ((Go.bits .and .u64 (a0 / 2) 6148914691236517205) + (Go.bits .and .u64 a0 6148914691236517205))) / 4) 3689348814741910323) + (Go.bits .and .u64 (IntKind.u64.wrap ((Go.bits .and .u64 (a0 / 2) 6148914691236517205) + (Go.bits .and .u64 a0 6148914691236517205))) 3689348814741910323))))) 1085102592571150095) / 256))) / 65536))) / 4294967296)))) 127)) = some r := h; clear h; obtain rfl := Option.some.inj H; go_enter Try.func100, Try.ntmps100; go_wp2
 go_ret
 exact ⟨by rfl, by exact gm.refl _⟩
def mf.f (a0 : Int) : Option (Int) := (kS.f a0).bind fun GY => (some GY)
set_option maxHeartbeats 8000000 in
set_option maxRecDepth 100000 in
theorem mf.calls (a0 : Int) (r : Int) (w : World) (h : mf.f a0 = some r) :
 Calls Try.prog 87 #[.int .u64 a0] w fun e w' => e = .returned (.int .i64 r) ∧ gm w w' := by
 have H : ((kS.f a0).bind fun GY => (some GY)) = some r := h; clear h; replace H := Option.bind_eq_some_iff.mp H; obtain ⟨GY, A20, H⟩ := H; have A2 := aa.mk A20; clear A20; obtain rfl := Option.some.inj H; go_enter Try.func87, Try.ntmps87; go_wp2_with (((with_reducible refine bC (f := 100) rfl ?_); refine fA (some 7) rfl rfl Try.func100 (by kernel_rfl) rfl #[.int .u64 a0] rfl (by (simp only [List.map_toArray, List.map_cons, List.map_nil]); rfl) ?_; (with_reducible refine (kS.calls a0 GY _ A2.out).mono ?_); rintro e w' ⟨rfl, ⟨nd, rfl⟩⟩; refine ⟨_, rfl, ?_⟩))
 go_ret
 exact ⟨by rfl, by repeat (first | exact gm.refl _ | apply gm.step)⟩
def ji.f (a0 : Int) : Option (Int) := (mf.f (IntKind.u64.wrap (a0))).bind fun F6 => (some F6)
set_option maxHeartbeats 8000000 in
set_option maxRecDepth 100000 in
theorem ji.calls (a0 : Int) (r : Int) (w : World) (h : ji.f a0 = some r) :
 Calls Try.prog 83 #[.int .i64 a0] w fun e w' => e = .returned (.int .i64 r) ∧ gm w w' := by
 have H : ((mf.f (IntKind.u64.wrap (a0))).bind fun F6 => (some F6)) = some r := h; clear h; replace H := Option.bind_eq_some_iff.mp H; obtain ⟨F6, A20, H⟩ := H; have A2 := aa.mk A20; clear A20; obtain rfl := Option.some.inj H; go_enter Try.func83, Try.ntmps83; go_wp2_with (((with_reducible refine bC (f := 87) rfl ?_); refine fA (some 5) rfl rfl Try.func87 (by kernel_rfl) rfl #[.int .u64 (IntKind.u64.wrap (a0))] rfl (by (simp only [List.map_toArray, List.map_cons, List.map_nil]); rfl) ?_; (with_reducible refine (mf.calls (IntKind.u64.wrap (a0)) F6 _ A2.out).mono ?_); rintro e w' ⟨rfl, ⟨nd, rfl⟩⟩; refine ⟨_, rfl, ?_⟩))
 go_ret
 exact ⟨by rfl, by repeat (first | exact gm.refl _ | apply gm.step)⟩
def gG.f (a0 : Int) (a1 : Int) : Option (Int) := some (Go.bits .andNot .i64 a0 a1)
set_option maxHeartbeats 8000000 in
set_option maxRecDepth 100000 in
theorem gG.calls (a0 : Int) (a1 : Int) (r : Int) (w : World) (h : gG.f a0 a1 = some r) :
 Calls Try.prog 65 #[.int .i64 a0, .int .i64 a1] w fun e w' => e = .returned (.int .i64 r) ∧ gm w w' := by
 have H : (some (Go.bits .andNot .i64 a0 a1)) = some r := h; clear h; obtain rfl := Option.some.inj H; go_enter Try.func65, Try.ntmps65; go_wp2
 go_ret
 exact ⟨by first | rfl | (simp; done) | (simp [*]; done), by repeat (first | exact gm.refl _ | apply gm.step)⟩
end Go.Proofs.Ytihedeofkhapiaa.Pr
end
section
namespace Go.Proofs.Ytihedeofkhapiaa.Pr
open Go.RowKit Go.Proofs.YtihedeofkhapiaaW.PrintWords Go.Proofs.YtihedeofkhapiaaW.PrintLast Go.Proofs.YtihedeofkhapiaaW.PrintMore
theorem zY {i : Int} {n : Nat} (h0 : 0 ≤ i) (h : i < (n : Int)) (hn : n ≤ 9223372036854775807) : wrap64 (i + 1) = i + 1 := by
 unfold wrap64; omega
theorem mh {α : Type} (l : List α) (d : α) (i : Nat) (h : i < l.length) : l.drop i = l.getD i d :: l.drop (i + 1) := by
 rw [List.drop_eq_getElem_cons h]; simp [List.getD_eq_getElem?_getD, List.getElem?_eq_getElem h]
def seenStep (s : Int × Int) (x : S27) : Int × Int := (Go.bits .or .i64 s.1 x.f0, Go.bits .or .i64 s.2 x.f1)
def yY (l : List S27) : Int × Int := l.foldl seenStep (0, 0)
def tT (v : Int) (b : Bool) (x : S27) : Bool := if b = true then (Go.bits .and .i64 v x.f0 == x.f1) else false
def jY (l : List S27) : Int × Int × Bool := ((yY l).1, (yY l).2, l.foldl (tT (yY l).2) true)
theorem Tg (l : List S27) (hl : l.length ≤ 9223372036854775807) (x2 x3 : Int) : ∀ (d k i : Nat) (b : Bool), i + d = l.length → d < k →
 dH.l1 k x2 x3 b l (l.length : Int) (i : Int) = some (x2, x3, (l.drop i).foldl (tT x3) b) := by
 intro d
 induction d with
 | zero =>
  intro k i b hi hk; obtain ⟨k, rfl⟩ : ∃ m, k = m + 1 := ⟨k - 1, by omega⟩; simp only [dH.l1]; rw [if_neg (by omega), List.drop_eq_nil_of_le (by omega)]; rfl
 | succ d ih =>
  intro k i b hi hk; obtain ⟨k, rfl⟩ : ∃ m, k = m + 1 := ⟨k - 1, by omega⟩; simp only [dH.l1]; rw [if_pos (by omega), if_pos (by omega), if_pos (by omega), zY (by omega) (by omega) hl, mh l z27 i (by omega)]; (have e : eB l (i : Int) = l.getD i z27 := by simp [eB]); rw [e, List.foldl_cons]; have hc : ((i : Int) + 1) = ((i + 1 : Nat) : Int) := by omega
  cases b with
  | true =>
   rw [if_pos rfl, hc, ih k (i + 1) _ (by omega) (by omega)]; simp [tT]
  | false =>
   rw [if_neg (by decide), hc, ih k (i + 1) _ (by omega) (by omega)]; simp [tT]
theorem UK (l : List S27) (hl : l.length ≤ 9223372036854775807) : ∀ (d k i : Nat) (s : Int × Int), i + d = l.length → l.length + d + 1 < k →
 dH.l0 k l s.1 s.2 true l (l.length : Int) (i : Int) = some (((l.drop i).foldl seenStep s).1, ((l.drop i).foldl seenStep s).2, l.foldl (tT ((l.drop i).foldl seenStep s).2) true) := by
 intro d
 induction d with
 | zero =>
  intro k i s hi hk; obtain ⟨k, rfl⟩ : ∃ m, k = m + 1 := ⟨k - 1, by omega⟩; simp only [dH.l0]; rw [if_neg (by omega), List.drop_eq_nil_of_le (show l.length ≤ i by omega)]; have := Tg l hl s.1 s.2 l.length k 0 true (by omega) (by omega)
  simpa using this
 | succ d ih =>
  intro k i s hi hk; obtain ⟨k, rfl⟩ : ∃ m, k = m + 1 := ⟨k - 1, by omega⟩; simp only [dH.l0]; rw [if_pos (by omega), if_pos (by omega), if_pos (by omega), zY (by omega) (by omega) hl, mh l z27 i (by omega)]; (have e : eB l (i : Int) = l.getD i z27 := by simp [eB]); (have hc : ((i : Int) + 1) = ((i + 1 : Nat) : Int) := by omega); rw [e, hc, List.foldl_cons]; exact ih k (i + 1) (seenStep s (l.getD i z27)) (by omega) (by omega)
theorem YM (l : List S27) (hl : l.length ≤ 9223372036854775807) : dH.f (2 * l.length + 2) l = some (jY l) := by
 have := UK l hl l.length (2 * l.length + 2) 0 (0, 0) (by omega) (by omega)
 simpa [dH.f, jY, yY] using this
theorem IK (A0 : Option Addr) (c0 : Nat) (l0 : List S27) (w : World) (hr0 : Kd.C k27 w A0 l0.length l0) (hc0 : l0.length ≤ c0) (hl : l0.length ≤ 9223372036854775807) :
 Calls Try.prog 82 #[.slice A0 l0.length c0] w fun e w' => e = .returned (.tuple #[.int .i64 (jY l0).1, .int .i64 (jY l0).2.1, .bool (jY l0).2.2]) ∧ Below w.heap.size w w' :=
 dH.calls _ A0 c0 l0 _ _ _ w hr0 hc0 (YM l0 hl)
def oP (a : Int) : Int := (ji.f a).getD 0
theorem YO (a : Int) : ji.f a = some (oP a) := by
 obtain ⟨r, h⟩ : ∃ r, ji.f a = some r := by
  simp only [ji.f, mf.f, kS.f, Option.bind_some]; exact ⟨_, rfl⟩
 rw [oP, h]; rfl
theorem Jp (a : Int) (w : World) : Calls Try.prog 83 #[.int .i64 a] w fun e w' => e = .returned (.int .i64 (oP a)) ∧ gm w w' :=
 ji.calls a _ w (YO a)
def iM (a b : Int) : Int := Go.bits .andNot .i64 a b
theorem CY (a b : Int) (w : World) : Calls Try.prog 65 #[.int .i64 a, .int .i64 b] w fun e w' => e = .returned (.int .i64 (iM a b)) ∧ gm w w' :=
 gG.calls a b _ w rfl
end Go.Proofs.Ytihedeofkhapiaa.Pr
end
section
namespace Go.Proofs.Ytihedeofkhapiaa.Pr
open Go.RowKit Go.Proofs.YtihedeofkhapiaaW.PrintWords Go.Proofs.YtihedeofkhapiaaW.PrintLast Go.Proofs.YtihedeofkhapiaaW.PrintMore
attribute [local go_sem] nP nM oZ pE mi mq nL nJ
def dA.l0 : Nat → Int → List Int → Int → Int → Option (Int)
 | 0, _, _, _, _ => none
 | k + 1, x0, x7, x8, x9 => if x9 < x8 then (if 0 ≤ x9 then (if x9 < (x7.length : Int) then (dA.l0 k (mn x0 (rd x7 x9)) x7 x8 (wrap64 (x9 + 1))) else (none)) else (none)) else (some x0)
def dA.f (k : Nat) (a0 : Int) (l1 : List Int) : Option (Int) := dA.l0 k a0 l1 (l1.length : Int) 0
theorem dA.iB : ∀ k, (∀ y0 y1 y2 y3, LeO (dA.l0 k y0 y1 y2 y3) (dA.l0 (k + 1) y0 y1 y2 y3))
 | 0 => fun _ _ _ _ r h => by simp [dA.l0] at h
 | k + 1 => by
  have ih0 := dA.iB k
  ·intro y0 y1 y2 y3; unfold dA.l0
   repeat' first | (with_reducible exact ih0 _ _ _ _) | (with_reducible exact LeO.refl _) | (with_reducible refine LeO.ite ?_ ?_)
theorem dA.mono : ∀ a0 a1 k, LeO (dA.f k a0 a1) (dA.f (k + 1) a0 a1) := by
 intro a0 a1 k; have ih0 := dA.iB k; unfold dA.f
 repeat' (with_reducible exact ih0 _ _ _ _)
set_option maxHeartbeats 8000000 in
set_option maxRecDepth 100000 in
theorem dA.calls (k : Nat) (a0 : Int) (A1 : Option Addr) (c1 : Nat) (l1 : List Int) (r : Int) (w : World) (hr1 : Kd.C (Kd.int .i64) w A1 l1.length l1) (hc1 : l1.length ≤ c1) (h : dA.f k a0 l1 = some r) :
 Calls Try.prog 56 #[.int .i64 a0, .slice A1 l1.length c1] w fun e w' => e = .returned (.int .i64 r) ∧ Below w.heap.size w w' := by
 have HR1 := aa.mk hr1; have HC1 := aa.mk hc1; clear hr1 hc1; have HB := aa.mk (Below.refl w.heap.size w); have H : (dA.l0 k a0 l1 (l1.length : Int) 0) = some r := h; clear h; have H' := aa.mk H; clear H; go_enter Try.func56, Try.ntmps56; go_wp2; (go_loopg [0, 9] k (fun kq v0 v9 w' => ∃ (LX : Int) (jf : Int), v0 = .int .i64 LX ∧ v9 = .int .i64 jf ∧ aa (dA.l0 kq LX l1 (l1.length : Int) jf = some r) ∧ aa (kq ≤ k) ∧ aa (Below w.heap.size w w'))); case atStart => exact ⟨(a0), (0), (by rfl), (by rfl), H', ⟨Nat.le_refl _⟩, ⟨by exact HB.out⟩⟩
 case round =>
  clear H'; obtain ⟨LX, jf, rfl, rfl, HA, HK1, HB⟩ := hrel
  cases gk with
  | zero => exact absurd HA.out (by simp [dA.l0])
  | succ k1 =>
   have H := HA.out; clear HA; simp only [dA.l0] at H; by_cases c3 : jf < (l1.length : Int)
   ·rw [if_pos c3] at H; have xz : decide (jf < (l1.length : Int)) = true := decide_eq_true c3; clear c3; by_cases c4 : 0 ≤ jf
    ·rw [if_pos c4] at H; have EZ : decide (0 ≤ jf) = true := decide_eq_true c4; clear c4; by_cases c5 : jf < (l1.length : Int)
     ·rw [if_pos c5] at H; have Et : decide (jf < (l1.length : Int)) = true := decide_eq_true c5; clear c5; obtain ⟨ji6, abB⟩ : ∃ j_ : Int, (mn LX (rd l1 jf)) = j_ := ⟨_, rfl⟩; (replace H : (dA.l0 k1 ji6 l1 (l1.length : Int) (wrap64 (jf + 1))) = some r := by (rw [abB] at H; exact H)); have ajF : (if (rd l1 jf) < LX then (rd l1 jf) else LX) = ji6 := abB; have H' := aa.mk H; clear H; have Zx : 0 ≤ (jf : Int) := of_decide_eq_true (by with_reducible assumption); have YX : jf < (l1.length : Int) := of_decide_eq_true (by with_reducible assumption); obtain ⟨ajB, e124, ET⟩ := Kd.lW HR1.out jf Zx YX; cases e124; replace ET := (HB.out.cell (World.block_lt_of_cell? w _ ET)).trans ET; replace Zx := eq_true Zx; replace YX := eq_true YX; go_wp2; go_roundg k1; (case measure => have := HK1.out; omega); case rel => exact ⟨(ji6), (wrap64 (jf + 1)), (by rfl), (by rfl), H', ⟨by have := HK1.out; omega⟩, ⟨by exact HB.out⟩⟩
     ·rw [if_neg c5] at H; exact absurd H (by simp)
    ·rw [if_neg c4] at H; exact absurd H (by simp)
   ·rw [if_neg c3] at H; have xz : decide (jf < (l1.length : Int)) = false := decide_eq_false c3; clear c3; obtain rfl := Option.some.inj H; go_wp2
    go_ret
    exact ⟨by rfl, by exact HB.out⟩
def om.f (gZ : Int) (bM : Int) (a1 : Int) (Ju : Int) (MU : Int) : Option (Bool) := if gZ = a1 then (some (Ju == bM)) else (some true)
set_option maxHeartbeats 8000000 in
set_option maxRecDepth 100000 in
theorem om.calls (gZ : Int) (bM : Int) (a1 : Int) (Ju : Int) (MU : Int) (r : Bool) (w : World) (h : om.f gZ bM a1 Ju MU = some r) :
 Calls Try.prog 75 #[.agg #[.int .i64 gZ, .int .u8 bM], .int .i64 a1, .agg #[.int .u8 Ju, .int .i64 MU]] w fun e w' => e = .returned (.bool r) ∧ Below w.heap.size w w' := by
 have hu100 := Try.underlying100; have hu86 := Try.underlying86; have HB := aa.mk (Below.refl w.heap.size w); have H : (if gZ = a1 then (some (Ju == bM)) else (some true)) = some r := h; clear h; by_cases c4 : gZ = a1
 ·rw [if_pos c4] at H; have EZ : (gZ == a1) = true := beq_iff_eq.mpr c4; have agM : (gZ != a1) = false := bne_eq_false_iff_eq.mpr c4; clear c4; obtain rfl := Option.some.inj H; go_enter Try.func75, Try.ntmps75; go_wp2_with (first | ((with_reducible refine dL (N := 3) rfl ?_); refine eG ?hg (N := 3) ?hd (cs := #[.int .i64 gZ, .int .u8 bM]) (t := 100) ?hr ?_; (case hd => rfl); (case hg => rfl); (case hr => (go_simp; done)); intro uC hg w5 hbox hb; have vY := aa.mk (hbox); have aay := aa.mk ((by rw [hg]; exact (aK (by exact HB.out)) : w.heap.size ≤ uC)); have acf := aa.mk ((by rw [hg]; exact (aK (by exact HB.out)) : w.heap.size ≤ uC)); replace HB := aa.mk (bn (by exact HB.out) hb); clear hb hbox hg) | ((with_reducible refine dL (N := 5) rfl ?_); refine eG ?hg (N := 5) ?hd (cs := #[.int .u8 Ju, .int .i64 MU]) (t := 86) ?hr ?_; (case hd => rfl); (case hg => rfl); (case hr => (go_simp; done)); intro zl hg w6 hbox hb; have Wv := aa.mk (hbox); have aao := aa.mk ((by rw [hg]; exact (aK (by exact HB.out)) : w.heap.size ≤ zl)); have acl := aa.mk ((by rw [hg]; exact (aK (by exact HB.out)) : w.heap.size ≤ zl)); replace HB := aa.mk (bn (by exact HB.out) hb); have zC := aa.mk ((by rw [hg]; exact Nat.ne_of_lt (bY (g := uC) (o := .cells #[.int .i64 gZ, .int .u8 bM] 100 (0, 0)) (bU vY.out)) : uC ≠ zl)); have zo := aa.mk ((by rw [hg]; exact Nat.ne_of_gt (bY (g := uC) (o := .cells #[.int .i64 gZ, .int .u8 bM] 100 (0, 0)) (bU vY.out)) : zl ≠ uC)); replace vY := aa.mk (aN (bU vY.out) hb); clear hb hbox hg; have akj := zC.out; have ak5 := zo.out; obtain ⟨Hg, Hf, Ht, Hw⟩ := nA vY.out; obtain ⟨M0, N8, Qj, OD⟩ := nA Wv.out))
  go_ret
  exact ⟨by rfl, by exact HB.out⟩
 ·rw [if_neg c4] at H; have EZ : (gZ == a1) = false := beq_eq_false_iff_ne.mpr c4; have agM : (gZ != a1) = true := bne_iff_ne.mpr c4; obtain rfl := Option.some.inj H; go_enter Try.func75, Try.ntmps75; go_wp2_with (first | ((with_reducible refine dL (N := 3) rfl ?_); refine eG ?hg (N := 3) ?hd (cs := #[.int .i64 gZ, .int .u8 bM]) (t := 100) ?hr ?_; (case hd => rfl); (case hg => rfl); (case hr => (go_simp; done)); intro uC hg w10 hbox hb; have vY := aa.mk (hbox); have aay := aa.mk ((by rw [hg]; exact (aK (by exact HB.out)) : w.heap.size ≤ uC)); have acf := aa.mk ((by rw [hg]; exact (aK (by exact HB.out)) : w.heap.size ≤ uC)); replace HB := aa.mk (bn (by exact HB.out) hb); clear hb hbox hg) | ((with_reducible refine dL (N := 5) rfl ?_); refine eG ?hg (N := 5) ?hd (cs := #[.int .u8 Ju, .int .i64 MU]) (t := 86) ?hr ?_; (case hd => rfl); (case hg => rfl); (case hr => (go_simp; done)); intro zl hg w11 hbox hb; have Wv := aa.mk (hbox); have aao := aa.mk ((by rw [hg]; exact (aK (by exact HB.out)) : w.heap.size ≤ zl)); have acl := aa.mk ((by rw [hg]; exact (aK (by exact HB.out)) : w.heap.size ≤ zl)); replace HB := aa.mk (bn (by exact HB.out) hb); have zC := aa.mk ((by rw [hg]; exact Nat.ne_of_lt (bY (g := uC) (o := .cells #[.int .i64 gZ, .int .u8 bM] 100 (0, 0)) (bU vY.out)) : uC ≠ zl)); have zo := aa.mk ((by rw [hg]; exact Nat.ne_of_gt (bY (g := uC) (o := .cells #[.int .i64 gZ, .int .u8 bM] 100 (0, 0)) (bU vY.out)) : zl ≠ uC)); replace vY := aa.mk (aN (bU vY.out) hb); clear hb hbox hg; have ado := zC.out; have ac7 := zo.out; obtain ⟨D6, Ei, ES, Eg⟩ := nA vY.out))
  go_ret
  exact ⟨by rfl, by exact HB.out⟩
def fP.f (a0 : Int) (a1 : Int) (a2 : Int) : Option (Bool) := if a1 ≤ a0 then (some (decide (a0 ≤ a2))) else (some false)
set_option maxHeartbeats 8000000 in
set_option maxRecDepth 100000 in
theorem fP.calls (a0 : Int) (a1 : Int) (a2 : Int) (r : Bool) (w : World) (h : fP.f a0 a1 a2 = some r) :
 Calls Try.prog 64 #[.int .i64 a0, .int .i64 a1, .int .i64 a2] w fun e w' => e = .returned (.bool r) ∧ gm w w' := by
 have H : (if a1 ≤ a0 then (some (decide (a0 ≤ a2))) else (some false)) = some r := h; clear h; by_cases c4 : a1 ≤ a0
 ·rw [if_pos c4] at H; have EZ : decide (a1 ≤ a0) = true := decide_eq_true c4; clear c4; obtain rfl := Option.some.inj H; go_enter Try.func64, Try.ntmps64; go_wp2
  go_ret
  exact ⟨by rfl, by exact gm.refl _⟩
 ·rw [if_neg c4] at H; have EZ : decide (a1 ≤ a0) = false := decide_eq_false c4; clear c4; obtain rfl := Option.some.inj H; go_enter Try.func64, Try.ntmps64; go_wp2
  go_ret
  exact ⟨by rfl, by exact gm.refl _⟩
mutual
def aG.j0 : Nat → Bool → Int → Int → List (S86) → Option (Int)
 | 0, _, _, _, _ => none
 | k + 1, x5, sZ, sJ, nQ => if x5 = true then (some 1) else (if sZ > sJ then (some 5) else (if (nQ.length : Int) = 0 then (some 7) else (if (nQ.length : Int) > 8 then (some 6) else (aG.l0 k nQ (nQ.length : Int) 0 sZ sJ nQ))))
def aG.l0 : Nat → List (S86) → Int → Int → Int → Int → List (S86) → Option (Int)
 | 0, _, _, _, _, _, _ => none
 | k + 1, x35, x36, x37, sZ, sJ, nQ => if x37 < x36 then (if 0 ≤ x37 then (if x37 < (x35.length : Int) then (if ((au x35 x37).f0) < 65 then (aG.j2 k x37 x35 x36 x37 (decide (((au x35 x37).f0) < 65)) sZ sJ nQ ((au x35 x37).f0) ((au x35 x37).f1)) else (aG.j2 k x37 x35 x36 x37 (decide (((au x35 x37).f0) > 90)) sZ sJ nQ ((au x35 x37).f0) ((au x35 x37).f1))) else (none)) else (none)) else (some 0)
def aG.j2 : Nat → Int → List (S86) → Int → Int → Bool → Int → Int → List (S86) → Int → Int → Option (Int)
 | 0, _, _, _, _, _, _, _, _, _, _ => none
 | k + 1, x3, x35, x36, x37, x42, sZ, sJ, nQ, TZ, Td => if x42 = true then (some 8) else ((fP.f Td 1 1023).bind fun Y9 => (if Y9 = true then (if x3 > 0 then (if 0 ≤ (wrap64 (x3 - 1)) then (if (wrap64 (x3 - 1)) < (nQ.length : Int) then (if TZ ≤ ((au nQ (wrap64 (x3 - 1))).f0) then (some 5) else (aG.l0 k x35 x36 (wrap64 (x37 + 1)) sZ sJ nQ)) else (none)) else (none)) else (aG.l0 k x35 x36 (wrap64 (x37 + 1)) sZ sJ nQ)) else (some 1)))
end
def aG.f (k : Nat) (gZ : Int) (bM : Int) (gP : List (S86)) : Option (Int) := (fP.f gZ (-3000) 3000).bind fun GX => (if GX = true then ((fP.f bM (-3000) 3000).bind fun Le => (aG.j0 k (!Le) gZ bM gP)) else (aG.j0 k (!GX) gZ bM gP))
theorem aG.iB : ∀ k, (∀ y0 y1 y2 y3, LeO (aG.j0 k y0 y1 y2 y3) (aG.j0 (k + 1) y0 y1 y2 y3)) ∧ (∀ y0 y1 y2 y3 y4 y5, LeO (aG.l0 k y0 y1 y2 y3 y4 y5) (aG.l0 (k + 1) y0 y1 y2 y3 y4 y5)) ∧ (∀ y0 y1 y2 y3 y4 y5 y6 y7 y8 y9, LeO (aG.j2 k y0 y1 y2 y3 y4 y5 y6 y7 y8 y9) (aG.j2 (k + 1) y0 y1 y2 y3 y4 y5 y6 y7 y8 y9))
 | 0 => ⟨fun _ _ _ _ r h => by simp [aG.j0] at h, fun _ _ _ _ _ _ r h => by simp [aG.l0] at h, fun _ _ _ _ _ _ _ _ _ _ r h => by simp [aG.j2] at h⟩
 | k + 1 => by
  obtain ⟨ih0, ih1, ih2⟩ := aG.iB k; refine ⟨?_, ?_, ?_⟩
  ·intro y0 y1 y2 y3; unfold aG.j0
   repeat' first | (with_reducible exact ih1 _ _ _ _ _ _) | (with_reducible exact LeO.refl _) | (with_reducible refine LeO.ite ?_ ?_)
  ·intro y0 y1 y2 y3 y4 y5; unfold aG.l0
   repeat' first | (with_reducible exact ih2 _ _ _ _ _ _ _ _ _ _) | (with_reducible exact LeO.refl _) | (with_reducible refine LeO.ite ?_ ?_)
  ·intro y0 y1 y2 y3 y4 y5 y6 y7 y8 y9; unfold aG.j2
   repeat' first | (with_reducible exact ih1 _ _ _ _ _ _) | (with_reducible exact LeO.refl _) | (with_reducible refine LeO.ite ?_ ?_) | (with_reducible refine LeO.bind ?_ (fun _ => ?_))
theorem aG.mono : ∀ a0 a1 a2 k, LeO (aG.f k a0 a1 a2) (aG.f (k + 1) a0 a1 a2) := by
 intro a0 a1 a2 k; obtain ⟨ih0, ih1, ih2⟩ := aG.iB k; unfold aG.f
 repeat' first | (with_reducible exact ih0 _ _ _ _) | (with_reducible exact LeO.refl _) | (with_reducible refine LeO.ite ?_ ?_) | (with_reducible refine LeO.bind ?_ (fun _ => ?_))
set_option maxHeartbeats 8000000 in
set_option maxRecDepth 100000 in
theorem aG.calls (k : Nat) (gZ : Int) (bM : Int) (NK : Option Addr) (GM : Nat) (gP : List (S86)) (r : Int) (w : World) (Wm : Kd.C k86 w NK gP.length gP) (Wx : gP.length ≤ GM) (h : aG.f k gZ bM gP = some r) :
 Calls Try.prog 63 #[.agg #[.int .i64 gZ, .int .i64 bM, .slice NK gP.length GM]] w fun e w' => e = .returned (.int .i64 r) ∧ Below w.heap.size w w' := by
 have hu66 := Try.underlying66; have hu86 := Try.underlying86; have BI := aa.mk Wm; have akh := aa.mk Wx; clear Wm Wx; have HB := aa.mk (Below.refl w.heap.size w); have H : ((fP.f gZ (-3000) 3000).bind fun GX => (if GX = true then ((fP.f bM (-3000) 3000).bind fun Le => (aG.j0 k (!Le) gZ bM gP)) else (aG.j0 k (!GX) gZ bM gP))) = some r := h; clear h; replace H := Option.bind_eq_some_iff.mp H; obtain ⟨GX, A20, H⟩ := H; have A2 := aa.mk A20; clear A20; have HC3 := aa.mk H; clear H; go_enter Try.func63, Try.ntmps63; (go_upto_if 5 with (first | ((with_reducible refine dL (N := 1) rfl ?_); refine eG ?hg (N := 1) ?hd (cs := #[.int .i64 gZ, .int .i64 bM, .slice NK gP.length GM]) (t := 66) ?hr ?_; (case hd => rfl); (case hg => rfl); (case hr => (go_simp; done)); intro yM hg w4 hbox hb; have mI := aa.mk (hbox); have aiV := aa.mk ((by rw [hg]; exact (aK (by exact HB.out)) : w.heap.size ≤ yM)); have ajZ := aa.mk ((by rw [hg]; exact (aK (by exact HB.out)) : w.heap.size ≤ yM)); replace HB := aa.mk (bn (by exact HB.out) hb); clear hb hbox hg; obtain ⟨Hm, IM, Il, Jt, I9, H9⟩ := cells3 mI.out) | (go_at_call 64; (with_reducible refine (fP.calls gZ (-3000) 3000 GX _ A2.out).mono ?_); rintro e w' ⟨rfl, ⟨nd, rfl⟩⟩))); (skip); go_cut [5] (fun v5 wc => ∃ (kq : Nat) (Uz : Bool), v5 = .bool Uz ∧ aa (aG.j0 kq Uz gZ bM gP = some r) ∧ aa (kq ≤ k) ∧ aa (wc.heap[yM]? = some (.cells #[.int .i64 gZ, .int .i64 bM, (.slice NK gP.length GM)] 66 (0, 0))) ∧ aa (Below w.heap.size w wc))
 case first =>
  have H := HC3.out; clear HC3; by_cases c6 : GX = true
  ·subst c6; rw [if_pos rfl] at H; replace H := Option.bind_eq_some_iff.mp H; obtain ⟨Le, A70, H⟩ := H; have A7 := aa.mk A70; clear A70; have H' := aa.mk H; clear H; obtain ⟨Hg, Hf, Px, Ht, Hw, Oz⟩ := cells3 mI.out; (go_wp2_with ((go_at_call 64; (with_reducible refine (fP.calls bM (-3000) 3000 Le _ A7.out).mono ?_); rintro e w' ⟨rfl, ⟨nd, rfl⟩⟩))); go_meet; case rel => exact ⟨_, (!Le), (by rfl), H', ⟨by omega⟩, ⟨by (with_reducible repeat (refine jN ?_ _)); exact mI.out⟩, ⟨by exact lU HB.out⟩⟩
  ·replace c6 := Bool.eq_false_iff.mpr c6; subst c6; rw [if_neg (show ¬ (false = true) by decide)] at H; have H' := aa.mk H; clear H; go_wp2; go_meet; case rel => exact ⟨_, (!false), (by rfl), H', ⟨by omega⟩, ⟨by (with_reducible repeat (refine jN ?_ _)); exact mI.out⟩, ⟨by exact lU HB.out⟩⟩
 case rest =>
  clear HC3 Hm IM Il Jt I9 H9; obtain ⟨kq, Uz, rfl, HA, HJ2, mI, HB⟩ := hcut
  cases kq with
  | zero => exact absurd HA.out (by simp [aG.j0])
  | succ kj2 =>
   have H := HA.out; clear HA; simp only [aG.j0] at H; by_cases c9 : Uz = true
   ·subst c9; rw [if_pos rfl] at H; obtain rfl := Option.some.inj H; go_wp2
    go_ret
    exact ⟨by rfl, by exact HB.out⟩
   ·replace c9 := Bool.eq_false_iff.mpr c9; subst c9; rw [if_neg (show ¬ (false = true) by decide)] at H; by_cases c10 : gZ > bM
    ·rw [if_pos c10] at H; have Ac : decide (bM < gZ) = true := decide_eq_true c10; clear c10; obtain rfl := Option.some.inj H; obtain ⟨afH, adI, adO, afM, aeP, ad2⟩ := cells3 mI.out; go_wp2
     go_ret
     exact ⟨by rfl, by exact HB.out⟩
    ·rw [if_neg c10] at H; have Ac : decide (bM < gZ) = false := decide_eq_false c10; clear c10; by_cases c12 : (gP.length : Int) = 0
     ·rw [if_pos c12] at H; have Aj : ((gP.length : Int) == 0) = true := beq_iff_eq.mpr c12; have Ky : ((gP.length : Int) != 0) = false := bne_eq_false_iff_eq.mpr c12; clear c12; obtain rfl := Option.some.inj H; obtain ⟨D6, Ei, JW, ES, Eg, JS⟩ := cells3 mI.out; go_wp2
      go_ret
      exact ⟨by rfl, by exact HB.out⟩
     ·rw [if_neg c12] at H; have Aj : ((gP.length : Int) == 0) = false := beq_eq_false_iff_ne.mpr c12; have Ky : ((gP.length : Int) != 0) = true := bne_iff_ne.mpr c12; (have acD : ¬ (gP = []) := fun h_ => c12 (by rw [h_]; rfl)); by_cases c14 : (gP.length : Int) > 8
      ·rw [if_pos c14] at H; have Gy : decide (8 < (gP.length : Int)) = true := decide_eq_true c14; have Gt : decide (8 < gP.length) = true := decide_eq_true (by omega); clear c14; obtain rfl := Option.some.inj H; obtain ⟨Sj, VX, SA, Vx, QM, SN⟩ := cells3 mI.out; go_wp2
       go_ret
       exact ⟨by rfl, by exact HB.out⟩
      ·rw [if_neg c14] at H; have Gy : decide (8 < (gP.length : Int)) = false := decide_eq_false c14; have Gt : decide (8 < gP.length) = false := decide_eq_false (by omega); clear c14; have H' := aa.mk H; clear H; obtain ⟨zm, yO, xU, yU, yI, yE⟩ := cells3 mI.out; go_wp2; (go_loopg [37] kj2 (fun kq v37 w' => ∃ (il : Int), v37 = .int .i64 il ∧ aa (aG.l0 kq gP (gP.length : Int) il gZ bM gP = some r) ∧ aa (kq ≤ kj2) ∧ aa (w'.heap[yM]? = some (.cells #[.int .i64 gZ, .int .i64 bM, (.slice NK gP.length GM)] 66 (0, 0))) ∧ aa (Below w.heap.size w w'))); case atStart => exact ⟨(0), (by rfl), H', ⟨Nat.le_refl _⟩, ⟨by (with_reducible skip); exact mI.out⟩, ⟨by exact HB.out⟩⟩
       case round =>
        clear H' Ac c12 Aj Ky acD Gy Gt zm yO xU yU yI yE; obtain ⟨il, rfl, HA, HK2, mI, HB⟩ := hrel
        cases gk with
        | zero => exact absurd HA.out (by simp [aG.l0])
        | succ k2 =>
         have H := HA.out; clear HA; simp only [aG.l0] at H; by_cases c17 : il < (gP.length : Int)
         ·rw [if_pos c17] at H; have J3 : decide (il < (gP.length : Int)) = true := decide_eq_true c17; clear c17; by_cases c18 : 0 ≤ il
          ·rw [if_pos c18] at H; have GI : decide (0 ≤ il) = true := decide_eq_true c18; clear c18; by_cases c19 : il < (gP.length : Int)
           ·rw [if_pos c19] at H; have WC : decide (il < (gP.length : Int)) = true := decide_eq_true c19; clear c19; have Zw := aa.mk H; clear H; have Qu : 0 ≤ (il : Int) := of_decide_eq_true (by with_reducible assumption); have Sa : il < (gP.length : Int) := of_decide_eq_true (by with_reducible assumption); obtain ⟨xY, e107, AP, AY⟩ := rW BI.out il Qu Sa; cases e107; replace AP := (HB.out.cell (World.block_lt_of_cell? w _ AP)).trans AP; replace AY := (HB.out.cell (World.block_lt_of_cell? w _ AY)).trans AY; replace Qu := eq_true Qu; replace Sa := eq_true Sa; (go_upto_if 42 with (((with_reducible refine dL (N := 4) rfl ?_); refine eG ?hg (N := 4) ?hd (cs := #[.int .u8 0, .int .i64 0]) (t := 86) ?hr ?_; (case hd => rfl); (case hg => rfl); (case hr => (go_simp; done)); intro Gd hg w21 hbox hb; have yc := aa.mk (hbox); have aie := aa.mk ((by rw [hg]; exact (aK (by exact HB.out)) : w.heap.size ≤ Gd)); have We := aa.mk ((by rw [hg]; exact (aK (by exact HB.out)) : w.heap.size ≤ Gd)); replace HB := aa.mk (bn (by exact HB.out) hb); have nz := aa.mk ((by rw [hg]; exact Nat.ne_of_lt (bY (g := yM) (o := .cells #[.int .i64 gZ, .int .i64 bM, .slice (some xY) gP.length GM] 66 (0, 0)) (bU mI.out)) : yM ≠ Gd)); have rD := aa.mk ((by rw [hg]; exact Nat.ne_of_gt (bY (g := yM) (o := .cells #[.int .i64 gZ, .int .i64 bM, .slice (some xY) gP.length GM] 66 (0, 0)) (bU mI.out)) : Gd ≠ yM)); replace mI := aa.mk (aN (bU mI.out) hb); clear hb hbox hg; have aiI := rD.out; have akd := nz.out; obtain ⟨RZ, R6, Sr, Ri⟩ := nA yc.out))); (skip); go_cut [42] (fun v42 wc => ∃ (kq : Nat) (Eu : Bool), v42 = .bool Eu ∧ aa (aG.j2 kq il gP (gP.length : Int) il Eu gZ bM gP ((au gP il).f0) ((au gP il).f1) = some r) ∧ aa (kq ≤ k2) ∧ aa (wc.heap[yM]? = some (.cells #[.int .i64 gZ, .int .i64 bM, (.slice (some xY) gP.length GM)] 66 (0, 0))) ∧ aa (wc.heap[Gd]? = some (.cells #[.int .u8 ((au gP il).f0), .int .i64 ((au gP il).f1)] 86 (0, 0))) ∧ aa (Below w.heap.size w wc))
            case first =>
             have H := Zw.out; clear Zw; by_cases c24 : ((au gP il).f0) < 65
             ·rw [if_pos c24] at H; have Mm : decide (((au gP il).f0) < 65) = true := decide_eq_true c24; clear c24; (rw [Mm]); have H' := aa.mk H; clear H; go_wp2; go_meet; case rel => exact ⟨_, (decide (((au gP il).f0) < 65)), (by simp [*]; done), H', ⟨by have := HJ2.out; have := HK2.out; omega⟩, ⟨by (with_reducible skip); refine bA ?_ nz.out _; (with_reducible skip); refine bA ?_ nz.out _; (with_reducible skip); exact mI.out⟩, ⟨by (with_reducible skip); refine dm (cs := #[.int .u8 ((au gP il).f0), .int .i64 0]) ?_ 1 _ rfl; (with_reducible skip); refine dm (cs := #[.int .u8 0, .int .i64 0]) ?_ 0 _ rfl; (with_reducible skip); exact yc.out⟩, ⟨by repeat ((with_reducible first | exact HB.out | refine dJ ?_ We.out))⟩⟩
             ·rw [if_neg c24] at H; have Mm : decide (((au gP il).f0) < 65) = false := decide_eq_false c24; clear c24; (rw [Mm]); have H' := aa.mk H; clear H; have Z6 := rD.out; have ac3 := nz.out; obtain ⟨adH, afU, afJ, ad1⟩ := nA yc.out; go_wp2; go_meet; case rel => exact ⟨_, (decide (((au gP il).f0) > 90)), (by rfl), H', ⟨by have := HJ2.out; have := HK2.out; omega⟩, ⟨by (with_reducible skip); refine bA ?_ nz.out _; (with_reducible skip); refine bA ?_ nz.out _; (with_reducible skip); exact mI.out⟩, ⟨by (with_reducible skip); refine dm (cs := #[.int .u8 ((au gP il).f0), .int .i64 0]) ?_ 1 _ rfl; (with_reducible skip); refine dm (cs := #[.int .u8 0, .int .i64 0]) ?_ 0 _ rfl; (with_reducible skip); exact yc.out⟩, ⟨by repeat ((with_reducible first | exact HB.out | refine dJ ?_ We.out))⟩⟩
            case rest =>
             clear Zw J3 GI WC RZ R6 Sr Ri AP AY Qu Sa; obtain ⟨kq, Eu, rfl, HA, HJ19, mI, yc, HB⟩ := hcut
             cases kq with
             | zero => exact absurd HA.out (by simp [aG.j2])
             | succ kj19 =>
              have H := HA.out; clear HA; simp only [aG.j2] at H; by_cases c27 : Eu = true
              ·subst c27; rw [if_pos rfl] at H; obtain rfl := Option.some.inj H; go_wp2
               go_ret
               exact ⟨by rfl, by exact HB.out⟩
              ·replace c27 := Bool.eq_false_iff.mpr c27; subst c27; rw [if_neg (show ¬ (false = true) by decide)] at H; replace H := Option.bind_eq_some_iff.mp H; obtain ⟨Y9, ac9, H⟩ := H; have A28 := aa.mk ac9; clear ac9; by_cases c29 : Y9 = true
               ·subst c29; rw [if_pos rfl] at H; by_cases c30 : il > 0
                ·rw [if_pos c30] at H; have WV : decide (0 < il) = true := decide_eq_true c30; clear c30; obtain ⟨pF, WT⟩ : ∃ j_ : Int, (wrap64 (il - 1)) = j_ := ⟨_, rfl⟩; (replace H : (if 0 ≤ (pF) then (if (pF) < (gP.length : Int) then (if ((au gP il).f0) ≤ ((au gP (pF)).f0) then (some 5) else (aG.l0 kj19 gP (gP.length : Int) (wrap64 (il + 1)) gZ bM gP)) else (none)) else (none)) = some r := by (rw [WT] at H; exact H)); (skip); have ahG : (IntKind.i64.wrap (il - 1)) = pF := (bG _).trans WT; by_cases c32 : 0 ≤ (pF)
                 ·rw [if_pos c32] at H; have WL : decide (0 ≤ (pF)) = true := decide_eq_true c32; clear c32; by_cases c33 : (pF) < (gP.length : Int)
                  ·rw [if_pos c33] at H; have Ma : decide ((pF) < (gP.length : Int)) = true := decide_eq_true c33; clear c33; by_cases c34 : ((au gP il).f0) ≤ ((au gP (pF)).f0)
                   ·rw [if_pos c34] at H; have aa7 : decide (((au gP il).f0) ≤ ((au gP (pF)).f0)) = true := decide_eq_true c34; clear c34; obtain rfl := Option.some.inj H; have Mg := rD.out; have OB := nz.out; obtain ⟨UL, QF, UU, Sc⟩ := nA yc.out; (go_wp2_with ((go_at_call 64; (with_reducible refine (fP.calls ((au gP il).f1) 1 1023 true _ A28.out).mono ?_); rintro e w' ⟨rfl, ⟨nd, rfl⟩⟩; obtain ⟨xe, xk, xm, wV, xq, wN⟩ := cells3 mI.out; have sj : 0 ≤ ((pF) : Int) := of_decide_eq_true (by with_reducible assumption); have rO : (pF) < (gP.length : Int) := of_decide_eq_true (by with_reducible assumption); obtain ⟨wy, e110, jI, jD⟩ := rW BI.out (pF) sj rO; obtain rfl : xY = wy := (by injection e110); replace jI := (HB.out.cell (World.block_lt_of_cell? w _ jI)).trans jI; replace jD := (HB.out.cell (World.block_lt_of_cell? w _ jD)).trans jD; replace sj := eq_true sj; replace rO := eq_true rO))); repeat (go_quiet (first | (go_at_call 64; (with_reducible refine (fP.calls ((au gP il).f1) 1 1023 true _ A28.out).mono ?_); rintro e w' ⟨rfl, ⟨nd, rfl⟩⟩; (try first | exact ⟨rfl, _, World.drewN_drewN _ _ _⟩ | exact ⟨rfl, _, Eq.trans (World.drewN_drewN _ _ _) (congrArg (World.drewN _) (Nat.add_assoc _ _ _))⟩); obtain ⟨xe, xk, xm, wV, xq, wN⟩ := cells3 mI.out; have sj : 0 ≤ ((pF) : Int) := of_decide_eq_true (by first | (with_reducible assumption) | assumption); have rO : (pF) < (gP.length : Int) := of_decide_eq_true (by first | (with_reducible assumption) | assumption); obtain ⟨wy, e110, jI, jD⟩ := rW BI.out (pF) sj rO; obtain rfl : xY = wy := (by injection e110); replace jI := (HB.out.cell (World.block_lt_of_cell? w _ jI)).trans jI; replace jD := (HB.out.cell (World.block_lt_of_cell? w _ jD)).trans jD; replace sj := eq_true sj; replace rO := eq_true rO)); go_wp2_with (first | (go_at_call 64; (with_reducible refine (fP.calls ((au gP il).f1) 1 1023 true _ A28.out).mono ?_); rintro e w' ⟨rfl, ⟨nd, rfl⟩⟩; (try first | exact ⟨rfl, _, World.drewN_drewN _ _ _⟩ | exact ⟨rfl, _, Eq.trans (World.drewN_drewN _ _ _) (congrArg (World.drewN _) (Nat.add_assoc _ _ _))⟩); obtain ⟨xe, xk, xm, wV, xq, wN⟩ := cells3 mI.out; have sj : 0 ≤ ((pF) : Int) := of_decide_eq_true (by first | (with_reducible assumption) | assumption); have rO : (pF) < (gP.length : Int) := of_decide_eq_true (by first | (with_reducible assumption) | assumption); obtain ⟨wy, e110, jI, jD⟩ := rW BI.out (pF) sj rO; obtain rfl : xY = wy := (by injection e110); replace jI := (HB.out.cell (World.block_lt_of_cell? w _ jI)).trans jI; replace jD := (HB.out.cell (World.block_lt_of_cell? w _ jD)).trans jD; replace sj := eq_true sj; replace rO := eq_true rO)))
                    go_ret
                    exact ⟨by rfl, by exact lU HB.out⟩
                   ·rw [if_neg c34] at H; have aa7 : decide (((au gP il).f0) ≤ ((au gP (pF)).f0)) = false := decide_eq_false c34; clear c34; have H' := aa.mk H; clear H; have aiu := rD.out; have aju := nz.out; obtain ⟨aeg, aeN, afA, adP⟩ := nA yc.out; (go_wp2_with ((go_at_call 64; (with_reducible refine (fP.calls ((au gP il).f1) 1 1023 true _ A28.out).mono ?_); rintro e w' ⟨rfl, ⟨nd, rfl⟩⟩; obtain ⟨Kw, KC, J5, J7, J8, KN⟩ := cells3 mI.out; have sj : 0 ≤ ((pF) : Int) := of_decide_eq_true (by with_reducible assumption); have rO : (pF) < (gP.length : Int) := of_decide_eq_true (by with_reducible assumption); obtain ⟨wy, e110, jI, jD⟩ := rW BI.out (pF) sj rO; obtain rfl : xY = wy := (by injection e110); replace jI := (HB.out.cell (World.block_lt_of_cell? w _ jI)).trans jI; replace jD := (HB.out.cell (World.block_lt_of_cell? w _ jD)).trans jD; replace sj := eq_true sj; replace rO := eq_true rO))); (repeat (go_quiet (first | (go_at_call 64; (with_reducible refine (fP.calls ((au gP il).f1) 1 1023 true _ A28.out).mono ?_); rintro e w' ⟨rfl, ⟨nd, rfl⟩⟩; (try first | exact ⟨rfl, _, World.drewN_drewN _ _ _⟩ | exact ⟨rfl, _, Eq.trans (World.drewN_drewN _ _ _) (congrArg (World.drewN _) (Nat.add_assoc _ _ _))⟩); obtain ⟨Kw, KC, J5, J7, J8, KN⟩ := cells3 mI.out; have sj : 0 ≤ ((pF) : Int) := of_decide_eq_true (by first | (with_reducible assumption) | assumption); have rO : (pF) < (gP.length : Int) := of_decide_eq_true (by first | (with_reducible assumption) | assumption); obtain ⟨wy, e110, jI, jD⟩ := rW BI.out (pF) sj rO; obtain rfl : xY = wy := (by injection e110); replace jI := (HB.out.cell (World.block_lt_of_cell? w _ jI)).trans jI; replace jD := (HB.out.cell (World.block_lt_of_cell? w _ jD)).trans jD; replace sj := eq_true sj; replace rO := eq_true rO)); go_wp2_with (first | (go_at_call 64; (with_reducible refine (fP.calls ((au gP il).f1) 1 1023 true _ A28.out).mono ?_); rintro e w' ⟨rfl, ⟨nd, rfl⟩⟩; (try first | exact ⟨rfl, _, World.drewN_drewN _ _ _⟩ | exact ⟨rfl, _, Eq.trans (World.drewN_drewN _ _ _) (congrArg (World.drewN _) (Nat.add_assoc _ _ _))⟩); obtain ⟨Kw, KC, J5, J7, J8, KN⟩ := cells3 mI.out; have sj : 0 ≤ ((pF) : Int) := of_decide_eq_true (by first | (with_reducible assumption) | assumption); have rO : (pF) < (gP.length : Int) := of_decide_eq_true (by first | (with_reducible assumption) | assumption); obtain ⟨wy, e110, jI, jD⟩ := rW BI.out (pF) sj rO; obtain rfl : xY = wy := (by injection e110); replace jI := (HB.out.cell (World.block_lt_of_cell? w _ jI)).trans jI; replace jD := (HB.out.cell (World.block_lt_of_cell? w _ jD)).trans jD; replace sj := eq_true sj; replace rO := eq_true rO)))); go_roundg kj19; (case measure => have := HJ2.out; have := HK2.out; have := HJ19.out; omega); case rel => exact ⟨(wrap64 (il + 1)), (by rfl), H', ⟨by have := HJ2.out; have := HK2.out; have := HJ19.out; omega⟩, ⟨by (with_reducible repeat (refine jN ?_ _)); exact mI.out⟩, ⟨by exact lU HB.out⟩⟩
                  ·rw [if_neg c33] at H; exact absurd H (by simp)
                 ·rw [if_neg c32] at H; exact absurd H (by simp)
                ·rw [if_neg c30] at H; have WV : decide (0 < il) = false := decide_eq_false c30; clear c30; have H' := aa.mk H; clear H; have NR := rD.out; have Pt := nz.out; obtain ⟨ad8, afa, ad3, afE⟩ := nA yc.out; (go_wp2_with ((go_at_call 64; (with_reducible refine (fP.calls ((au gP il).f1) 1 1023 true _ A28.out).mono ?_); rintro e w' ⟨rfl, ⟨nd, rfl⟩⟩))); (repeat (go_quiet (first | (go_at_call 64; (with_reducible refine (fP.calls ((au gP il).f1) 1 1023 true _ A28.out).mono ?_); rintro e w' ⟨rfl, ⟨nd, rfl⟩⟩; (try first | exact ⟨rfl, _, World.drewN_drewN _ _ _⟩ | exact ⟨rfl, _, Eq.trans (World.drewN_drewN _ _ _) (congrArg (World.drewN _) (Nat.add_assoc _ _ _))⟩))); go_wp2_with (first | (go_at_call 64; (with_reducible refine (fP.calls ((au gP il).f1) 1 1023 true _ A28.out).mono ?_); rintro e w' ⟨rfl, ⟨nd, rfl⟩⟩; (try first | exact ⟨rfl, _, World.drewN_drewN _ _ _⟩ | exact ⟨rfl, _, Eq.trans (World.drewN_drewN _ _ _) (congrArg (World.drewN _) (Nat.add_assoc _ _ _))⟩))))); go_roundg kj19; (case measure => have := HJ2.out; have := HK2.out; have := HJ19.out; omega); case rel => exact ⟨(wrap64 (il + 1)), (by rfl), H', ⟨by have := HJ2.out; have := HK2.out; have := HJ19.out; omega⟩, ⟨by (with_reducible repeat (refine jN ?_ _)); exact mI.out⟩, ⟨by exact lU HB.out⟩⟩
               ·replace c29 := Bool.eq_false_iff.mpr c29; subst c29; rw [if_neg (show ¬ (false = true) by decide)] at H; obtain rfl := Option.some.inj H; have Oe := rD.out; have OA := nz.out; obtain ⟨adL, afh, ad7, aeF⟩ := nA yc.out; go_wp2_with ((go_at_call 64; (with_reducible refine (fP.calls ((au gP il).f1) 1 1023 false _ A28.out).mono ?_); rintro e w' ⟨rfl, ⟨nd, rfl⟩⟩))
                go_ret
                exact ⟨by rfl, by exact lU HB.out⟩
           ·rw [if_neg c19] at H; exact absurd H (by simp)
          ·rw [if_neg c18] at H; exact absurd H (by simp)
         ·rw [if_neg c17] at H; have J3 : decide (il < (gP.length : Int)) = false := decide_eq_false c17; clear c17; obtain rfl := Option.some.inj H; go_wp2
          go_ret
          exact ⟨by rfl, by exact HB.out⟩
mutual
def aM.l0 : Nat → List (S66) → Int → Int → List (S66) → Int → Int → Int → List (List (S27)) → Option (Int)
 | 0, _, _, _, _, _, _, _, _ => none
 | k + 1, x21, x22, x23, zf, wO, wX, xn, rz => if x23 < x22 then (if 0 ≤ x23 then (if x23 < (x21.length : Int) then ((aG.f k ((ah x21 x23).f0.f0) ((ah x21 x23).f0.f1) ((ah x21 x23).f1)).bind fun CV => (if CV = 0 then (aM.l0 k x21 x22 (wrap64 (x23 + 1)) zf wO wX xn rz) else (some CV))) else (none)) else (none)) else ((fP.f wO 0 10).bind fun Mh => (if Mh = true then ((fP.f wX 0 10).bind fun Tm => (if Tm = true then ((fP.f xn 0 40).bind fun Ro => (aM.j1 k (!Ro) zf wO wX xn rz)) else (aM.j1 k (!Tm) zf wO wX xn rz))) else (aM.j1 k (!Mh) zf wO wX xn rz)))
def aM.j1 : Nat → Bool → List (S66) → Int → Int → Int → List (List (S27)) → Option (Int)
 | 0, _, _, _, _, _, _ => none
 | k + 1, x33, zf, wO, wX, xn, rz => if x33 = true then (some 1) else (if (rz.length : Int) = 0 then (some 7) else (if (rz.length : Int) > 8 then (some 6) else (aM.l1 k rz (rz.length : Int) 0)))
def aM.l1 : Nat → List (List (S27)) → Int → Int → Option (Int)
 | 0, _, _, _ => none
 | k + 1, x57, x58, x59 => if x59 < x58 then (if 0 ≤ x59 then (if x59 < (x57.length : Int) then (if ((eH x57 x59).length : Int) > 4 then (some 6) else (aM.l2 k x57 x58 x59 (eH x57 x59) ((eH x57 x59).length : Int) 0)) else (none)) else (none)) else (some 0)
def aM.l2 : Nat → List (List (S27)) → Int → Int → List (S27) → Int → Int → Option (Int)
 | 0, _, _, _, _, _, _ => none
 | k + 1, x57, x58, x59, x66, x67, x68 => if x68 < x67 then (if 0 ≤ x68 then (if x68 < (x66.length : Int) then ((fP.f ((eB x66 x68).f0) 0 1023).bind fun OZ => (if OZ = true then ((fP.f ((eB x66 x68).f1) 0 1023).bind fun Vb => (aM.j4 k x57 x58 x59 x66 x67 x68 (!Vb) ((eB x66 x68).f0) ((eB x66 x68).f1))) else (aM.j4 k x57 x58 x59 x66 x67 x68 (!OZ) ((eB x66 x68).f0) ((eB x66 x68).f1)))) else (none)) else (none)) else (aM.l1 k x57 x58 (wrap64 (x59 + 1)))
def aM.j4 : Nat → List (List (S27)) → Int → Int → List (S27) → Int → Int → Bool → Int → Int → Option (Int)
 | 0, _, _, _, _, _, _, _, _, _ => none
 | k + 1, x57, x58, x59, x66, x67, x68, x72, Ud, UC => if x72 = true then (some 1) else ((gG.f UC Ud).bind fun EE => (if EE = 0 then (aM.l2 k x57 x58 x59 x66 x67 (wrap64 (x68 + 1))) else (some 2)))
end
def aM.f (k : Nat) (bH : List (S66)) (bM : Int) (dG : Int) (dO : Int) (bD : List (List (S27))) : Option (Int) := if (bH.length : Int) = 0 then (some 7) else (if (bH.length : Int) > 4 then (some 6) else (aM.l0 k bH (bH.length : Int) 0 bH bM dG dO bD))
theorem aM.iB : ∀ k, (∀ y0 y1 y2 y3 y4 y5 y6 y7, LeO (aM.l0 k y0 y1 y2 y3 y4 y5 y6 y7) (aM.l0 (k + 1) y0 y1 y2 y3 y4 y5 y6 y7)) ∧ (∀ y0 y1 y2 y3 y4 y5, LeO (aM.j1 k y0 y1 y2 y3 y4 y5) (aM.j1 (k + 1) y0 y1 y2 y3 y4 y5)) ∧ (∀ y0 y1 y2, LeO (aM.l1 k y0 y1 y2) (aM.l1 (k + 1) y0 y1 y2)) ∧ (∀ y0 y1 y2 y3 y4 y5, LeO (aM.l2 k y0 y1 y2 y3 y4 y5) (aM.l2 (k + 1) y0 y1 y2 y3 y4 y5)) ∧ (∀ y0 y1 y2 y3 y4 y5 y6 y7 y8, LeO (aM.j4 k y0 y1 y2 y3 y4 y5 y6 y7 y8) (aM.j4 (k + 1) y0 y1 y2 y3 y4 y5 y6 y7 y8))
 | 0 => ⟨fun _ _ _ _ _ _ _ _ r h => by simp [aM.l0] at h, fun _ _ _ _ _ _ r h => by simp [aM.j1] at h, fun _ _ _ r h => by simp [aM.l1] at h, fun _ _ _ _ _ _ r h => by simp [aM.l2] at h, fun _ _ _ _ _ _ _ _ _ r h => by simp [aM.j4] at h⟩
 | k + 1 => by
  obtain ⟨ih0, ih1, ih2, ih3, ih4⟩ := aM.iB k; refine ⟨?_, ?_, ?_, ?_, ?_⟩
  ·intro y0 y1 y2 y3 y4 y5 y6 y7; unfold aM.l0
   repeat' first | (with_reducible exact ih0 _ _ _ _ _ _ _ _) | (with_reducible exact ih1 _ _ _ _ _ _) | (with_reducible exact aG.mono _ _ _ _) | (with_reducible exact LeO.refl _) | (with_reducible refine LeO.ite ?_ ?_) | (with_reducible refine LeO.bind ?_ (fun _ => ?_))
  ·intro y0 y1 y2 y3 y4 y5; unfold aM.j1
   repeat' first | (with_reducible exact ih2 _ _ _) | (with_reducible exact LeO.refl _) | (with_reducible refine LeO.ite ?_ ?_)
  ·intro y0 y1 y2; unfold aM.l1
   repeat' first | (with_reducible exact ih3 _ _ _ _ _ _) | (with_reducible exact LeO.refl _) | (with_reducible refine LeO.ite ?_ ?_)
  ·intro y0 y1 y2 y3 y4 y5; unfold aM.l2
   repeat' first | (with_reducible exact ih2 _ _ _) | (with_reducible exact ih4 _ _ _ _ _ _ _ _ _) | (with_reducible exact LeO.refl _) | (with_reducible refine LeO.ite ?_ ?_) | (with_reducible refine LeO.bind ?_ (fun _ => ?_))
  ·intro y0 y1 y2 y3 y4 y5 y6 y7 y8; unfold aM.j4
   repeat' first | (with_reducible exact ih3 _ _ _ _ _ _) | (with_reducible exact LeO.refl _) | (with_reducible refine LeO.ite ?_ ?_) | (with_reducible refine LeO.bind ?_ (fun _ => ?_))
theorem aM.mono : ∀ a0 a1 a2 a3 a4 k, LeO (aM.f k a0 a1 a2 a3 a4) (aM.f (k + 1) a0 a1 a2 a3 a4) := by
 intro a0 a1 a2 a3 a4 k; obtain ⟨ih0, ih1, ih2, ih3, ih4⟩ := aM.iB k; unfold aM.f
 repeat' first | (with_reducible exact ih0 _ _ _ _ _ _ _ _) | (with_reducible exact LeO.refl _) | (with_reducible refine LeO.ite ?_ ?_)
set_option maxHeartbeats 8000000 in
set_option maxRecDepth 100000 in
theorem aM.calls (k : Nat) (gF : Option Addr) (fV : Nat) (bH : List (S66)) (bM : Int) (dG : Int) (dO : Int) (gB : Option Addr) (fZ : Nat) (bD : List (List (S27))) (r : Int) (w : World) (og : Kd.C k66 w gF bH.length bH) (qI : bH.length ≤ fV) (ol : Kd.C (Kd.slice 27 k27) w gB bD.length bD) (qJ : bD.length ≤ fZ) (h : aM.f k bH bM dG dO bD = some r) :
 Calls Try.prog 40 #[.agg #[.slice gF bH.length fV, .int .i64 bM, .int .i64 dG, .int .i64 dO, .slice gB bD.length fZ]] w fun e w' => e = .returned (.int .i64 r) ∧ Below w.heap.size w w' := by
 have hu25 := Try.underlying25; have hu66 := Try.underlying66; have hu27 := Try.underlying27; have wz := aa.mk og; have yJ := aa.mk qI; clear og qI; have wH := aa.mk ol; have yh := aa.mk qJ; clear ol qJ; have HB := aa.mk (Below.refl w.heap.size w); have H : (if (bH.length : Int) = 0 then (some 7) else (if (bH.length : Int) > 4 then (some 6) else (aM.l0 k bH (bH.length : Int) 0 bH bM dG dO bD))) = some r := h; clear h; by_cases c2 : (bH.length : Int) = 0
 ·rw [if_pos c2] at H; have Ji : ((bH.length : Int) == 0) = true := beq_iff_eq.mpr c2; have ZW : ((bH.length : Int) != 0) = false := bne_eq_false_iff_eq.mpr c2; clear c2; obtain rfl := Option.some.inj H; go_enter Try.func40, Try.ntmps40; go_wp2_with (((with_reducible refine dL (N := 1) rfl ?_); refine eG ?hg (N := 1) ?hd (cs := #[.slice gF bH.length fV, .int .i64 bM, .int .i64 dG, .int .i64 dO, .slice gB bD.length fZ]) (t := 25) ?hr ?_; (case hd => rfl); (case hg => rfl); (case hr => (go_simp; done)); intro lX hg w3 hbox hb; have ja := aa.mk (hbox); have WK := aa.mk ((by rw [hg]; exact (aK (by exact HB.out)) : w.heap.size ≤ lX)); have Xv := aa.mk ((by rw [hg]; exact (aK (by exact HB.out)) : w.heap.size ≤ lX)); replace HB := aa.mk (bn (by exact HB.out) hb); clear hb hbox hg; obtain ⟨XA, ZJ, Zh, X0, Zp, Zq, Za, YP, ZM, ZH⟩ := cells5 ja.out))
  go_ret
  exact ⟨by rfl, by exact HB.out⟩
 ·rw [if_neg c2] at H; have Ji : ((bH.length : Int) == 0) = false := beq_eq_false_iff_ne.mpr c2; have ZW : ((bH.length : Int) != 0) = true := bne_iff_ne.mpr c2; (have ahW : ¬ (bH = []) := fun h_ => c2 (by rw [h_]; rfl)); by_cases c5 : (bH.length : Int) > 4
  ·rw [if_pos c5] at H; have Et : decide (4 < (bH.length : Int)) = true := decide_eq_true c5; have Qe : decide (4 < bH.length) = true := decide_eq_true (by omega); clear c5; obtain rfl := Option.some.inj H; go_enter Try.func40, Try.ntmps40; go_wp2_with (((with_reducible refine dL (N := 1) rfl ?_); refine eG ?hg (N := 1) ?hd (cs := #[.slice gF bH.length fV, .int .i64 bM, .int .i64 dG, .int .i64 dO, .slice gB bD.length fZ]) (t := 25) ?hr ?_; (case hd => rfl); (case hg => rfl); (case hr => (go_simp; done)); intro lX hg w6 hbox hb; have ja := aa.mk (hbox); have WK := aa.mk ((by rw [hg]; exact (aK (by exact HB.out)) : w.heap.size ≤ lX)); have Xv := aa.mk ((by rw [hg]; exact (aK (by exact HB.out)) : w.heap.size ≤ lX)); replace HB := aa.mk (bn (by exact HB.out) hb); clear hb hbox hg; obtain ⟨ah8, ah7, agn, af5, ags, agC, ah4, agb, agt, agD⟩ := cells5 ja.out))
   go_ret
   exact ⟨by rfl, by exact HB.out⟩
  ·rw [if_neg c5] at H; have Et : decide (4 < (bH.length : Int)) = false := decide_eq_false c5; have Qe : decide (4 < bH.length) = false := decide_eq_false (by omega); clear c5; have H' := aa.mk H; clear H; go_enter Try.func40, Try.ntmps40; (go_wp2_with (((with_reducible refine dL (N := 1) rfl ?_); refine eG ?hg (N := 1) ?hd (cs := #[.slice gF bH.length fV, .int .i64 bM, .int .i64 dG, .int .i64 dO, .slice gB bD.length fZ]) (t := 25) ?hr ?_; (case hd => rfl); (case hg => rfl); (case hr => (go_simp; done)); intro lX hg w8 hbox hb; have ja := aa.mk (hbox); have WK := aa.mk ((by rw [hg]; exact (aK (by exact HB.out)) : w.heap.size ≤ lX)); have Xv := aa.mk ((by rw [hg]; exact (aK (by exact HB.out)) : w.heap.size ≤ lX)); replace HB := aa.mk (bn (by exact HB.out) hb); clear hb hbox hg; obtain ⟨M0, N8, Yd, Yh, Yo, Qj, OD, Xy, Y0, YG⟩ := cells5 ja.out))); (go_loopg [23] k (fun kq v23 w' => ∃ (jm : Int), v23 = .int .i64 jm ∧ aa (aM.l0 kq bH (bH.length : Int) jm bH bM dG dO bD = some r) ∧ aa (kq ≤ k) ∧ aa (w'.heap[lX]? = some (.cells #[(.slice gF bH.length fV), .int .i64 bM, .int .i64 dG, .int .i64 dO, (.slice gB bD.length fZ)] 25 (0, 0))) ∧ aa (Below w.heap.size w w'))); case atStart => exact ⟨(0), (by rfl), H', ⟨Nat.le_refl _⟩, ⟨by (with_reducible skip); exact ja.out⟩, ⟨by exact HB.out⟩⟩
   case round =>
    clear H' c2 Ji ZW ahW Et Qe M0 N8 Yd Yh Yo Qj OD Xy Y0 YG; obtain ⟨jm, rfl, HA, HK1, ja, HB⟩ := hrel
    cases gk with
    | zero => exact absurd HA.out (by simp [aM.l0])
    | succ k1 =>
     have H := HA.out; clear HA; simp only [aM.l0] at H; by_cases c10 : jm < (bH.length : Int)
     ·rw [if_pos c10] at H; have Ac : decide (jm < (bH.length : Int)) = true := decide_eq_true c10; clear c10; by_cases c11 : 0 ≤ jm
      ·rw [if_pos c11] at H; have NQ : decide (0 ≤ jm) = true := decide_eq_true c11; clear c11; by_cases c12 : jm < (bH.length : Int)
       ·rw [if_pos c12] at H; have Aj : decide (jm < (bH.length : Int)) = true := decide_eq_true c12; clear c12; replace H := Option.bind_eq_some_iff.mp H; obtain ⟨CV, Z8, H⟩ := H; have A13 := aa.mk Z8; clear Z8; by_cases c14 : CV = 0
        ·rw [if_pos c14] at H; have Gy : (CV == 0) = true := beq_iff_eq.mpr c14; have Gt : (CV != 0) = false := bne_eq_false_iff_eq.mpr c14; clear c14; have H' := aa.mk H; clear H; have IV : 0 ≤ (jm : Int) := of_decide_eq_true (by with_reducible assumption); have Iy : jm < (bH.length : Int) := of_decide_eq_true (by with_reducible assumption); obtain ⟨Cn, A112_2, c112_2, e112, uT, uK, uN, zh, yu⟩ := xP wz.out jm IV Iy; cases e112; replace uT := (HB.out.cell (World.block_lt_of_cell? w _ uT)).trans uT; replace uK := (HB.out.cell (World.block_lt_of_cell? w _ uK)).trans uK; replace uN := (HB.out.cell (World.block_lt_of_cell? w _ uN)).trans uN; have EA := aa.mk yu; have Ey := aa.mk zh; clear yu zh; replace IV := eq_true IV; replace Iy := eq_true Iy; (go_wp2_with (first | ((with_reducible refine dL (N := 4) rfl ?_); refine eG ?hg (N := 4) ?hd (cs := #[.int .i64 0, .int .i64 0, .slice none 0 0]) (t := 66) ?hr ?_; (case hd => rfl); (case hg => rfl); (case hr => (go_simp; done)); intro wJ hg w15 hbox hb; have Bl := aa.mk (hbox); have adj := aa.mk ((by rw [hg]; exact (aK (by exact HB.out)) : w.heap.size ≤ wJ)); have Gi := aa.mk ((by rw [hg]; exact (aK (by exact HB.out)) : w.heap.size ≤ wJ)); replace HB := aa.mk (bn (by exact HB.out) hb); have nV := aa.mk ((by rw [hg]; exact Nat.ne_of_lt (bY (g := lX) (o := .cells #[.slice (some Cn) bH.length fV, .int .i64 bM, .int .i64 dG, .int .i64 dO, .slice gB bD.length fZ] 25 (0, 0)) (bU ja.out)) : lX ≠ wJ)); have zF := aa.mk ((by rw [hg]; exact Nat.ne_of_gt (bY (g := lX) (o := .cells #[.slice (some Cn) bH.length fV, .int .i64 bM, .int .i64 dG, .int .i64 dO, .slice gB bD.length fZ] 25 (0, 0)) (bU ja.out)) : wJ ≠ lX)); replace ja := aa.mk (aN (bU ja.out) hb); clear hb hbox hg; have ajX := zF.out; have aiS := nV.out; obtain ⟨TC, Ve, Sg, VN, RL, UM⟩ := cells3 Bl.out) | ((with_reducible refine bC (f := 63) rfl ?_); refine fA (some 28) rfl rfl Try.func63 (by kernel_rfl) rfl #[.agg #[.int .i64 ((ah bH jm).f0.f0), .int .i64 ((ah bH jm).f0.f1), .slice A112_2 ((ah bH jm).f1).length c112_2]] rfl (by (simp only [List.map_toArray, List.map_cons, List.map_nil]); rfl) ?_; (with_reducible refine (aG.calls k1 ((ah bH jm).f0.f0) ((ah bH jm).f0.f1) _ _ ((ah bH jm).f1) CV _ ?side1 ?side2 A13.out).mono ?_); (case side1 => exact Kd.iK EA.out (by repeat ((with_reducible first | exact HB.out | refine dJ ?_ Gi.out)))); (case side2 => exact Ey.out); rintro e w18 ⟨rfl, hb⟩; refine ⟨_, rfl, ?_⟩; replace ja := aa.mk (aN (g := lX) (o := .cells #[.slice (some Cn) bH.length fV, .int .i64 bM, .int .i64 dG, .int .i64 dO, .slice gB bD.length fZ] 25 (0, 0)) (by (with_reducible skip); refine bA ?_ nV.out _; (with_reducible skip); refine bA ?_ nV.out _; (with_reducible skip); refine bA ?_ nV.out _; (with_reducible skip); exact ja.out) hb); replace Bl := aa.mk (aN (g := wJ) (o := .cells #[.int .i64 ((ah bH jm).f0.f0), .int .i64 ((ah bH jm).f0.f1), .slice A112_2 ((ah bH jm).f1).length c112_2] 66 (0, 0)) (by (with_reducible skip); refine dm (cs := #[.int .i64 ((ah bH jm).f0.f0), .int .i64 ((ah bH jm).f0.f1), .slice none 0 0]) ?_ 2 _ rfl; (with_reducible skip); refine dm (cs := #[.int .i64 ((ah bH jm).f0.f0), .int .i64 0, .slice none 0 0]) ?_ 1 _ rfl; (with_reducible skip); refine dm (cs := #[.int .i64 0, .int .i64 0, .slice none 0 0]) ?_ 0 _ rfl; (with_reducible skip); exact Bl.out) hb); replace HB := aa.mk (bn (by repeat ((with_reducible first | exact HB.out | refine dJ ?_ Gi.out))) hb); (clear hb)))); go_roundg k1; (case measure => have := HK1.out; omega); case rel => exact ⟨(wrap64 (jm + 1)), (by rfl), H', ⟨by have := HK1.out; omega⟩, ⟨by (with_reducible skip); exact ja.out⟩, ⟨by exact HB.out⟩⟩
        ·rw [if_neg c14] at H; have Gy : (CV == 0) = false := beq_eq_false_iff_ne.mpr c14; have Gt : (CV != 0) = true := bne_iff_ne.mpr c14; obtain rfl := Option.some.inj H; have IV : 0 ≤ (jm : Int) := of_decide_eq_true (by with_reducible assumption); have Iy : jm < (bH.length : Int) := of_decide_eq_true (by with_reducible assumption); obtain ⟨Cn, A112_2, c112_2, e112, uT, uK, uN, zh, yu⟩ := xP wz.out jm IV Iy; cases e112; replace uT := (HB.out.cell (World.block_lt_of_cell? w _ uT)).trans uT; replace uK := (HB.out.cell (World.block_lt_of_cell? w _ uK)).trans uK; replace uN := (HB.out.cell (World.block_lt_of_cell? w _ uN)).trans uN; have EA := aa.mk yu; have Ey := aa.mk zh; clear yu zh; replace IV := eq_true IV; replace Iy := eq_true Iy; go_wp2_with (first | ((with_reducible refine dL (N := 4) rfl ?_); refine eG ?hg (N := 4) ?hd (cs := #[.int .i64 0, .int .i64 0, .slice none 0 0]) (t := 66) ?hr ?_; (case hd => rfl); (case hg => rfl); (case hr => (go_simp; done)); intro wJ hg w19 hbox hb; have Bl := aa.mk (hbox); have adj := aa.mk ((by rw [hg]; exact (aK (by exact HB.out)) : w.heap.size ≤ wJ)); have Gi := aa.mk ((by rw [hg]; exact (aK (by exact HB.out)) : w.heap.size ≤ wJ)); replace HB := aa.mk (bn (by exact HB.out) hb); have nV := aa.mk ((by rw [hg]; exact Nat.ne_of_lt (bY (g := lX) (o := .cells #[.slice (some Cn) bH.length fV, .int .i64 bM, .int .i64 dG, .int .i64 dO, .slice gB bD.length fZ] 25 (0, 0)) (bU ja.out)) : lX ≠ wJ)); have zF := aa.mk ((by rw [hg]; exact Nat.ne_of_gt (bY (g := lX) (o := .cells #[.slice (some Cn) bH.length fV, .int .i64 bM, .int .i64 dG, .int .i64 dO, .slice gB bD.length fZ] 25 (0, 0)) (bU ja.out)) : wJ ≠ lX)); replace ja := aa.mk (aN (bU ja.out) hb); clear hb hbox hg; have ajb := zF.out; have aiP := nV.out; obtain ⟨V8, Ul, VY, Vy, Rq, QR⟩ := cells3 Bl.out) | ((with_reducible refine bC (f := 63) rfl ?_); refine fA (some 28) rfl rfl Try.func63 (by kernel_rfl) rfl #[.agg #[.int .i64 ((ah bH jm).f0.f0), .int .i64 ((ah bH jm).f0.f1), .slice A112_2 ((ah bH jm).f1).length c112_2]] rfl (by (simp only [List.map_toArray, List.map_cons, List.map_nil]); rfl) ?_; (with_reducible refine (aG.calls k1 ((ah bH jm).f0.f0) ((ah bH jm).f0.f1) _ _ ((ah bH jm).f1) CV _ ?side1 ?side2 A13.out).mono ?_); (case side1 => exact Kd.iK EA.out (by repeat ((with_reducible first | exact HB.out | refine dJ ?_ Gi.out)))); (case side2 => exact Ey.out); rintro e w22 ⟨rfl, hb⟩; refine ⟨_, rfl, ?_⟩; replace ja := aa.mk (aN (g := lX) (o := .cells #[.slice (some Cn) bH.length fV, .int .i64 bM, .int .i64 dG, .int .i64 dO, .slice gB bD.length fZ] 25 (0, 0)) (by (with_reducible skip); refine bA ?_ nV.out _; (with_reducible skip); refine bA ?_ nV.out _; (with_reducible skip); refine bA ?_ nV.out _; (with_reducible skip); exact ja.out) hb); replace Bl := aa.mk (aN (g := wJ) (o := .cells #[.int .i64 ((ah bH jm).f0.f0), .int .i64 ((ah bH jm).f0.f1), .slice A112_2 ((ah bH jm).f1).length c112_2] 66 (0, 0)) (by (with_reducible skip); refine dm (cs := #[.int .i64 ((ah bH jm).f0.f0), .int .i64 ((ah bH jm).f0.f1), .slice none 0 0]) ?_ 2 _ rfl; (with_reducible skip); refine dm (cs := #[.int .i64 ((ah bH jm).f0.f0), .int .i64 0, .slice none 0 0]) ?_ 1 _ rfl; (with_reducible skip); refine dm (cs := #[.int .i64 0, .int .i64 0, .slice none 0 0]) ?_ 0 _ rfl; (with_reducible skip); exact Bl.out) hb); replace HB := aa.mk (bn (by repeat ((with_reducible first | exact HB.out | refine dJ ?_ Gi.out))) hb); (clear hb)))
         go_ret
         exact ⟨by rfl, by exact HB.out⟩
       ·rw [if_neg c12] at H; exact absurd H (by simp)
      ·rw [if_neg c11] at H; exact absurd H (by simp)
     ·rw [if_neg c10] at H; have Ac : decide (jm < (bH.length : Int)) = false := decide_eq_false c10; clear c10; replace H := Option.bind_eq_some_iff.mp H; obtain ⟨Mh, aaF, H⟩ := H; have A23 := aa.mk aaF; clear aaF; have YH := aa.mk H; clear H; obtain ⟨UQ, Tq, Qo, VD, VH, SE, Ty, Tt, TL, RU⟩ := cells5 ja.out; (go_upto_if 33 with (((with_reducible refine bC (f := 64) rfl ?_); refine fA (some 36) rfl rfl Try.func64 (by kernel_rfl) rfl #[.int .i64 bM, .int .i64 0, .int .i64 10] rfl (by (simp only [List.map_toArray, List.map_cons, List.map_nil]); rfl) ?_; (with_reducible refine (fP.calls bM 0 10 Mh _ A23.out).mono ?_); rintro e w' ⟨rfl, ⟨nd, rfl⟩⟩; refine ⟨_, rfl, ?_⟩))); (skip); go_cut [33] (fun v33 wc => ∃ (kq : Nat) (D7 : Bool), v33 = .bool D7 ∧ aa (aM.j1 kq D7 bH bM dG dO bD = some r) ∧ aa (kq ≤ k1) ∧ aa (wc.heap[lX]? = some (.cells #[(.slice gF bH.length fV), .int .i64 bM, .int .i64 dG, .int .i64 dO, (.slice gB bD.length fZ)] 25 (0, 0))) ∧ aa (Below w.heap.size w wc))
      case first =>
       have H := YH.out; clear YH; by_cases c26 : Mh = true
       ·subst c26; rw [if_pos rfl] at H; replace H := Option.bind_eq_some_iff.mp H; obtain ⟨Tm, acb, H⟩ := H; have A27 := aa.mk acb; clear acb; by_cases c28 : Tm = true
        ·subst c28; rw [if_pos rfl] at H; replace H := Option.bind_eq_some_iff.mp H; obtain ⟨Ro, aas, H⟩ := H; have A29 := aa.mk aas; clear aas; have H' := aa.mk H; clear H; obtain ⟨adQ, afN, aeO, adT, aeW, aeK, aec, aez, afF, afT⟩ := cells5 ja.out; (go_wp2_with (first | ((with_reducible refine bC (f := 64) rfl ?_); refine fA (some 40) rfl rfl Try.func64 (by kernel_rfl) rfl #[.int .i64 dG, .int .i64 0, .int .i64 10] rfl (by (simp only [List.map_toArray, List.map_cons, List.map_nil]); rfl) ?_; (with_reducible refine (fP.calls dG 0 10 true _ A27.out).mono ?_); rintro e w' ⟨rfl, ⟨nd, rfl⟩⟩; refine ⟨_, rfl, ?_⟩) | ((with_reducible refine bC (f := 64) rfl ?_); refine fA (some 44) rfl rfl Try.func64 (by kernel_rfl) rfl #[.int .i64 dO, .int .i64 0, .int .i64 40] rfl (by (simp only [List.map_toArray, List.map_cons, List.map_nil]); rfl) ?_; (with_reducible refine (fP.calls dO 0 40 Ro _ A29.out).mono ?_); rintro e w' ⟨rfl, ⟨nd, rfl⟩⟩; refine ⟨_, rfl, ?_⟩))); go_meet; case rel => exact ⟨_, (!Ro), (by rfl), H', ⟨by have := HK1.out; omega⟩, ⟨by (with_reducible repeat (refine jN ?_ _)); exact ja.out⟩, ⟨by exact lU HB.out⟩⟩
        ·replace c28 := Bool.eq_false_iff.mpr c28; subst c28; rw [if_neg (show ¬ (false = true) by decide)] at H; have H' := aa.mk H; clear H; obtain ⟨U4, Uo, Rm, afp, ad6, SH, Ua, UV, aeU, afP⟩ := cells5 ja.out; (go_wp2_with (((with_reducible refine bC (f := 64) rfl ?_); refine fA (some 40) rfl rfl Try.func64 (by kernel_rfl) rfl #[.int .i64 dG, .int .i64 0, .int .i64 10] rfl (by (simp only [List.map_toArray, List.map_cons, List.map_nil]); rfl) ?_; (with_reducible refine (fP.calls dG 0 10 false _ A27.out).mono ?_); rintro e w' ⟨rfl, ⟨nd, rfl⟩⟩; refine ⟨_, rfl, ?_⟩))); go_meet; case rel => exact ⟨_, (!false), (by rfl), H', ⟨by have := HK1.out; omega⟩, ⟨by (with_reducible repeat (refine jN ?_ _)); exact ja.out⟩, ⟨by exact lU HB.out⟩⟩
       ·replace c26 := Bool.eq_false_iff.mpr c26; subst c26; rw [if_neg (show ¬ (false = true) by decide)] at H; have H' := aa.mk H; clear H; go_wp2; go_meet; case rel => exact ⟨_, (!false), (by rfl), H', ⟨by have := HK1.out; omega⟩, ⟨by (with_reducible repeat (refine jN ?_ _)); exact ja.out⟩, ⟨by exact lU HB.out⟩⟩
      case rest =>
       clear YH Ac UQ Tq Qo VD VH SE Ty Tt TL RU; obtain ⟨kq, D7, rfl, HA, HJ23, ja, HB⟩ := hcut
       cases kq with
       | zero => exact absurd HA.out (by simp [aM.j1])
       | succ kj23 =>
        have H := HA.out; clear HA; simp only [aM.j1] at H; by_cases c32 : D7 = true
        ·subst c32; rw [if_pos rfl] at H; obtain rfl := Option.some.inj H; go_wp2
         go_ret
         exact ⟨by rfl, by exact HB.out⟩
        ·replace c32 := Bool.eq_false_iff.mpr c32; subst c32; rw [if_neg (show ¬ (false = true) by decide)] at H; by_cases c33 : (bD.length : Int) = 0
         ·rw [if_pos c33] at H; have Ma : ((bD.length : Int) == 0) = true := beq_iff_eq.mpr c33; have Xg : ((bD.length : Int) != 0) = false := bne_eq_false_iff_eq.mpr c33; clear c33; obtain rfl := Option.some.inj H; obtain ⟨afB, aev, afz, aeV, afo, adD, aeu, aeA, afv, aej⟩ := cells5 ja.out; go_wp2
          go_ret
          exact ⟨by rfl, by exact HB.out⟩
         ·rw [if_neg c33] at H; have Ma : ((bD.length : Int) == 0) = false := beq_eq_false_iff_ne.mpr c33; have Xg : ((bD.length : Int) != 0) = true := bne_iff_ne.mpr c33; (have aak : ¬ (bD = []) := fun h_ => c33 (by rw [h_]; rfl)); by_cases c35 : (bD.length : Int) > 8
          ·rw [if_pos c35] at H; have Xt : decide (8 < (bD.length : Int)) = true := decide_eq_true c35; have WX : decide (8 < bD.length) = true := decide_eq_true (by omega); clear c35; obtain rfl := Option.some.inj H; obtain ⟨UL, QF, afV, ael, ae2, UU, Sc, afQ, adN, aep⟩ := cells5 ja.out; go_wp2
           go_ret
           exact ⟨by rfl, by exact HB.out⟩
          ·rw [if_neg c35] at H; have Xt : decide (8 < (bD.length : Int)) = false := decide_eq_false c35; have WX : decide (8 < bD.length) = false := decide_eq_false (by omega); clear c35; have H' := aa.mk H; clear H; obtain ⟨xe, xk, xm, DX, Fq, wV, xq, wN, EX, E8⟩ := cells5 ja.out; go_wp2; (go_loopg [59] kj23 (fun kq v59 w' => ∃ (gX : Int), v59 = .int .i64 gX ∧ aa (aM.l1 kq bD (bD.length : Int) gX = some r) ∧ aa (kq ≤ kj23) ∧ aa (w'.heap[lX]? = some (.cells #[(.slice gF bH.length fV), .int .i64 bM, .int .i64 dG, .int .i64 dO, (.slice gB bD.length fZ)] 25 (0, 0))) ∧ aa (Below w.heap.size w w'))); case atStart => exact ⟨(0), (by rfl), H', ⟨Nat.le_refl _⟩, ⟨by (with_reducible skip); exact ja.out⟩, ⟨by exact HB.out⟩⟩
           case round =>
            clear H' c33 Ma Xg aak Xt WX xe xk xm DX Fq wV xq wN EX E8; obtain ⟨gX, rfl, HA, HK3, ja, HB⟩ := hrel
            cases gk with
            | zero => exact absurd HA.out (by simp [aM.l1])
            | succ k3 =>
             have H := HA.out; clear HA; simp only [aM.l1] at H; by_cases c38 : gX < (bD.length : Int)
             ·rw [if_pos c38] at H; have WP : decide (gX < (bD.length : Int)) = true := decide_eq_true c38; clear c38; by_cases c39 : 0 ≤ gX
              ·rw [if_pos c39] at H; have Gv : decide (0 ≤ gX) = true := decide_eq_true c39; clear c39; by_cases c40 : gX < (bD.length : Int)
               ·rw [if_pos c40] at H; have NP : decide (gX < (bD.length : Int)) = true := decide_eq_true c40; clear c40; by_cases c41 : ((eH bD gX).length : Int) > 4
                ·rw [if_pos c41] at H; have Ku : decide (4 < ((eH bD gX).length : Int)) = true := decide_eq_true c41; have Ww : decide (4 < (eH bD gX).length) = true := decide_eq_true (by omega); clear c41; obtain rfl := Option.some.inj H; have F7 : 0 ≤ (gX : Int) := of_decide_eq_true (by with_reducible assumption); have Fw : gX < (bD.length : Int) := of_decide_eq_true (by with_reducible assumption); obtain ⟨FI, A118_0, c118_0, e118, tu, yD, za⟩ := Ga wH.out gX F7 Fw; cases e118; replace tu := (HB.out.cell (World.block_lt_of_cell? w _ tu)).trans tu; have J6 := aa.mk za; have UZ := aa.mk yD; clear za yD; replace F7 := eq_true F7; replace Fw := eq_true Fw; go_wp2
                 go_ret
                 exact ⟨by rfl, by exact HB.out⟩
                ·rw [if_neg c41] at H; have Ku : decide (4 < ((eH bD gX).length : Int)) = false := decide_eq_false c41; have Ww : decide (4 < (eH bD gX).length) = false := decide_eq_false (by omega); clear c41; have H' := aa.mk H; clear H; have F7 : 0 ≤ (gX : Int) := of_decide_eq_true (by with_reducible assumption); have Fw : gX < (bD.length : Int) := of_decide_eq_true (by with_reducible assumption); obtain ⟨FI, A118_0, c118_0, e118, tu, yD, za⟩ := Ga wH.out gX F7 Fw; cases e118; replace tu := (HB.out.cell (World.block_lt_of_cell? w _ tu)).trans tu; have J6 := aa.mk za; have UZ := aa.mk yD; clear za yD; replace F7 := eq_true F7; replace Fw := eq_true Fw; go_wp2; (go_loopg [68] k3 (fun kq v68 w' => ∃ (kH : Int), v68 = .int .i64 kH ∧ aa (aM.l2 kq bD (bD.length : Int) gX (eH bD gX) ((eH bD gX).length : Int) kH = some r) ∧ aa (kq ≤ k3) ∧ aa (w'.heap[lX]? = some (.cells #[(.slice gF bH.length fV), .int .i64 bM, .int .i64 dG, .int .i64 dO, (.slice (some FI) bD.length fZ)] 25 (0, 0))) ∧ aa (Below w.heap.size w w'))); case atStart => exact ⟨(0), (by rfl), H', ⟨Nat.le_refl _⟩, ⟨by (with_reducible skip); exact ja.out⟩, ⟨by exact HB.out⟩⟩
                 case round =>
                  clear H' WP Gv NP Ku Ww tu F7 Fw; obtain ⟨kH, rfl, HA, HK4, ja, HB⟩ := hrel
                  cases gk with
                  | zero => exact absurd HA.out (by simp [aM.l2])
                  | succ k4 =>
                   have H := HA.out; clear HA; simp only [aM.l2] at H; by_cases c42 : kH < ((eH bD gX).length : Int)
                   ·rw [if_pos c42] at H; have Ko : decide (kH < ((eH bD gX).length : Int)) = true := decide_eq_true c42; clear c42; by_cases c43 : 0 ≤ kH
                    ·rw [if_pos c43] at H; have ZV : decide (0 ≤ kH) = true := decide_eq_true c43; clear c43; by_cases c44 : kH < ((eH bD gX).length : Int)
                     ·rw [if_pos c44] at H; have aaD : decide (kH < ((eH bD gX).length : Int)) = true := decide_eq_true c44; clear c44; replace H := Option.bind_eq_some_iff.mp H; obtain ⟨OZ, acB, H⟩ := H; have A45 := aa.mk acB; clear acB; have ZI := aa.mk H; clear H; have VR : 0 ≤ (kH : Int) := of_decide_eq_true (by with_reducible assumption); have TF : kH < ((eH bD gX).length : Int) := of_decide_eq_true (by with_reducible assumption); obtain ⟨aiz, e119, AF, AC⟩ := Bp J6.out kH VR TF; cases e119; replace AF := (HB.out.cell (World.block_lt_of_cell? w _ AF)).trans AF; replace AC := (HB.out.cell (World.block_lt_of_cell? w _ AC)).trans AC; replace VR := eq_true VR; replace TF := eq_true TF; (go_upto_if 72 with (first | ((with_reducible refine dL (N := 9) rfl ?_); refine eG ?hg (N := 9) ?hd (cs := #[.int .i64 0, .int .i64 0]) (t := 27) ?hr ?_; (case hd => rfl); (case hg => rfl); (case hr => (go_simp; done)); intro FZ hg w47 hbox hb; have Cq := aa.mk (hbox); have aiO := aa.mk ((by rw [hg]; exact (aK (by exact HB.out)) : w.heap.size ≤ FZ)); have WE := aa.mk ((by rw [hg]; exact (aK (by exact HB.out)) : w.heap.size ≤ FZ)); replace HB := aa.mk (bn (by exact HB.out) hb); have oH := aa.mk ((by rw [hg]; exact Nat.ne_of_lt (bY (g := lX) (o := .cells #[.slice gF bH.length fV, .int .i64 bM, .int .i64 dG, .int .i64 dO, .slice (some FI) bD.length fZ] 25 (0, 0)) (bU ja.out)) : lX ≠ FZ)); have wM := aa.mk ((by rw [hg]; exact Nat.ne_of_gt (bY (g := lX) (o := .cells #[.slice gF bH.length fV, .int .i64 bM, .int .i64 dG, .int .i64 dO, .slice (some FI) bD.length fZ] 25 (0, 0)) (bU ja.out)) : FZ ≠ lX)); replace ja := aa.mk (aN (bU ja.out) hb); clear hb hbox hg; have ake := wM.out; have ai5 := oH.out; obtain ⟨Rs, Tu, Rp, VM⟩ := nA Cq.out) | ((with_reducible refine bC (f := 64) rfl ?_); refine fA (some 75) rfl rfl Try.func64 (by kernel_rfl) rfl #[.int .i64 ((eB (eH bD gX) kH).f0), .int .i64 0, .int .i64 1023] rfl (by (simp only [List.map_toArray, List.map_cons, List.map_nil]); rfl) ?_; (with_reducible refine (fP.calls ((eB (eH bD gX) kH).f0) 0 1023 OZ _ A45.out).mono ?_); rintro e w' ⟨rfl, ⟨nd, rfl⟩⟩; refine ⟨_, rfl, ?_⟩))); (skip); go_cut [72] (fun v72 wc => ∃ (kq : Nat) (EQ : Bool), v72 = .bool EQ ∧ aa (aM.j4 kq bD (bD.length : Int) gX (eH bD gX) ((eH bD gX).length : Int) kH EQ ((eB (eH bD gX) kH).f0) ((eB (eH bD gX) kH).f1) = some r) ∧ aa (kq ≤ k4) ∧ aa (wc.heap[lX]? = some (.cells #[(.slice gF bH.length fV), .int .i64 bM, .int .i64 dG, .int .i64 dO, (.slice (some FI) bD.length fZ)] 25 (0, 0))) ∧ aa (wc.heap[FZ]? = some (.cells #[.int .i64 ((eB (eH bD gX) kH).f0), .int .i64 ((eB (eH bD gX) kH).f1)] 27 (0, 0))) ∧ aa (Below w.heap.size w wc))
                      case first =>
                       have H := ZI.out; clear ZI; by_cases c50 : OZ = true
                       ·subst c50; rw [if_pos rfl] at H; replace H := Option.bind_eq_some_iff.mp H; obtain ⟨Vb, PT, H⟩ := H; have A51 := aa.mk PT; clear PT; have H' := aa.mk H; clear H; have aiN := wM.out; have aj8 := oH.out; obtain ⟨aen, ae7, ae3, adC⟩ := nA Cq.out; (go_wp2_with (((with_reducible refine bC (f := 64) rfl ?_); refine fA (some 79) rfl rfl Try.func64 (by kernel_rfl) rfl #[.int .i64 ((eB (eH bD gX) kH).f1), .int .i64 0, .int .i64 1023] rfl (by (simp only [List.map_toArray, List.map_cons, List.map_nil]); rfl) ?_; (with_reducible refine (fP.calls ((eB (eH bD gX) kH).f1) 0 1023 Vb _ A51.out).mono ?_); rintro e w' ⟨rfl, ⟨nd, rfl⟩⟩; refine ⟨_, rfl, ?_⟩))); go_meet; case rel => exact ⟨_, (!Vb), (by rfl), H', ⟨by have := HK1.out; have := HJ23.out; have := HK3.out; have := HK4.out; omega⟩, ⟨by (with_reducible repeat (refine jN ?_ _)); refine bA ?_ oH.out _; (with_reducible skip); refine bA ?_ oH.out _; (with_reducible skip); exact ja.out⟩, ⟨by (with_reducible repeat (refine jN ?_ _)); refine dm (cs := #[.int .i64 ((eB (eH bD gX) kH).f0), .int .i64 0]) ?_ 1 _ rfl; (with_reducible skip); refine dm (cs := #[.int .i64 0, .int .i64 0]) ?_ 0 _ rfl; (with_reducible skip); exact Cq.out⟩, ⟨by repeat ((with_reducible first | exact HB.out | apply fI | refine dJ ?_ WE.out))⟩⟩
                       ·replace c50 := Bool.eq_false_iff.mpr c50; subst c50; rw [if_neg (show ¬ (false = true) by decide)] at H; have H' := aa.mk H; clear H; go_wp2; go_meet; case rel => exact ⟨_, (!false), (by rfl), H', ⟨by have := HK1.out; have := HJ23.out; have := HK3.out; have := HK4.out; omega⟩, ⟨by (with_reducible repeat (refine jN ?_ _)); refine bA ?_ oH.out _; (with_reducible skip); refine bA ?_ oH.out _; (with_reducible skip); exact ja.out⟩, ⟨by (with_reducible repeat (refine jN ?_ _)); refine dm (cs := #[.int .i64 ((eB (eH bD gX) kH).f0), .int .i64 0]) ?_ 1 _ rfl; (with_reducible skip); refine dm (cs := #[.int .i64 0, .int .i64 0]) ?_ 0 _ rfl; (with_reducible skip); exact Cq.out⟩, ⟨by repeat ((with_reducible first | exact HB.out | apply fI | refine dJ ?_ WE.out))⟩⟩
                      case rest =>
                       clear ZI Ko ZV aaD Rs Tu Rp VM AF AC VR TF; obtain ⟨kq, EQ, rfl, HA, HJ45, ja, Cq, HB⟩ := hcut
                       cases kq with
                       | zero => exact absurd HA.out (by simp [aM.j4])
                       | succ kj45 =>
                        have H := HA.out; clear HA; simp only [aM.j4] at H; by_cases c54 : EQ = true
                        ·subst c54; rw [if_pos rfl] at H; obtain rfl := Option.some.inj H; go_wp2
                         go_ret
                         exact ⟨by rfl, by exact HB.out⟩
                        ·replace c54 := Bool.eq_false_iff.mpr c54; subst c54; rw [if_neg (show ¬ (false = true) by decide)] at H; replace H := Option.bind_eq_some_iff.mp H; obtain ⟨EE, NW, H⟩ := H; have A55 := aa.mk NW; clear NW; by_cases c56 : EE = 0
                         ·rw [if_pos c56] at H; have abf : (EE == 0) = true := beq_iff_eq.mpr c56; have aco : (EE != 0) = false := bne_eq_false_iff_eq.mpr c56; clear c56; have H' := aa.mk H; clear H; have aj1 := wM.out; have aio := oH.out; obtain ⟨afu, adW, afm, afS⟩ := nA Cq.out; (go_wp2_with (((with_reducible refine bC (f := 65) rfl ?_); refine fA (some 86) rfl rfl Try.func65 (by kernel_rfl) rfl #[.int .i64 ((eB (eH bD gX) kH).f1), .int .i64 ((eB (eH bD gX) kH).f0)] rfl (by (simp only [List.map_toArray, List.map_cons, List.map_nil]); rfl) ?_; (with_reducible refine (gG.calls ((eB (eH bD gX) kH).f1) ((eB (eH bD gX) kH).f0) EE _ A55.out).mono ?_); rintro e w' ⟨rfl, ⟨nd, rfl⟩⟩; refine ⟨_, rfl, ?_⟩))); go_roundg kj45; (case measure => have := HK1.out; have := HJ23.out; have := HK3.out; have := HK4.out; have := HJ45.out; omega); case rel => exact ⟨(wrap64 (kH + 1)), (by rfl), H', ⟨by have := HK1.out; have := HJ23.out; have := HK3.out; have := HK4.out; have := HJ45.out; omega⟩, ⟨by (with_reducible repeat (refine jN ?_ _)); exact ja.out⟩, ⟨by exact lU HB.out⟩⟩
                         ·rw [if_neg c56] at H; have abf : (EE == 0) = false := beq_eq_false_iff_ne.mpr c56; have aco : (EE != 0) = true := bne_iff_ne.mpr c56; obtain rfl := Option.some.inj H; have P8 := wM.out; have Qg := oH.out; obtain ⟨ae4, afC, aeZ, adE⟩ := nA Cq.out; go_wp2_with (((with_reducible refine bC (f := 65) rfl ?_); refine fA (some 86) rfl rfl Try.func65 (by kernel_rfl) rfl #[.int .i64 ((eB (eH bD gX) kH).f1), .int .i64 ((eB (eH bD gX) kH).f0)] rfl (by (simp only [List.map_toArray, List.map_cons, List.map_nil]); rfl) ?_; (with_reducible refine (gG.calls ((eB (eH bD gX) kH).f1) ((eB (eH bD gX) kH).f0) EE _ A55.out).mono ?_); rintro e w' ⟨rfl, ⟨nd, rfl⟩⟩; refine ⟨_, rfl, ?_⟩))
                          go_ret
                          exact ⟨by rfl, by exact lU HB.out⟩
                     ·rw [if_neg c44] at H; exact absurd H (by simp)
                    ·rw [if_neg c43] at H; exact absurd H (by simp)
                   ·rw [if_neg c42] at H; have Ko : decide (kH < ((eH bD gX).length : Int)) = false := decide_eq_false c42; clear c42; have H' := aa.mk H; clear H; go_wp2; go_roundg k4; (case measure => have := HK1.out; have := HJ23.out; have := HK3.out; have := HK4.out; omega); case rel => exact ⟨(wrap64 (gX + 1)), (by rfl), H', ⟨by have := HK1.out; have := HJ23.out; have := HK3.out; have := HK4.out; omega⟩, ⟨by (with_reducible skip); exact ja.out⟩, ⟨by exact HB.out⟩⟩
               ·rw [if_neg c40] at H; exact absurd H (by simp)
              ·rw [if_neg c39] at H; exact absurd H (by simp)
             ·rw [if_neg c38] at H; have WP : decide (gX < (bD.length : Int)) = false := decide_eq_false c38; clear c38; obtain rfl := Option.some.inj H; go_wp2
              go_ret
              exact ⟨by rfl, by exact HB.out⟩
end Go.Proofs.Ytihedeofkhapiaa.Pr
end
section
namespace Go.Proofs.Ytihedeofkhapiaa.Pr
open Go.RowKit Go.Proofs.YtihedeofkhapiaaW.PrintWords Go.Proofs.YtihedeofkhapiaaW.PrintLast Go.Proofs.YtihedeofkhapiaaW.PrintMore
def inP (n lo hi : Int) : Bool := decide (lo ≤ n) && decide (n ≤ hi)
theorem tC {n lo hi : Int} : inP n lo hi = true ↔ lo ≤ n ∧ n ≤ hi := by simp [inP]
theorem Jw (n lo hi : Int) : fP.f n lo hi = some (inP n lo hi) := by
 unfold fP.f inP; split
 ·rename_i h; simp [h]
 ·rename_i h; simp [h]
def pK : Option Int → List S86 → Int
 | _, [] => 0
 | p, s :: r => if s.f0 < 65 ∨ s.f0 > 90 then 8 else if inP s.f1 1 1023 = true then (if (∃ q, p = some q ∧ s.f0 ≤ q) then 5 else pK (some s.f0) r) else 1
def xD (a b : Int) (l : List S86) : Int :=
 if inP a (-3000) 3000 = true ∧ inP b (-3000) 3000 = true then (if a > b then 5 else if l.length = 0 then 7 else if l.length > 8 then 6 else pK none l) else 1
def GU (l : List S86) (i : Nat) : Option Int := if i = 0 then none else some (l.getD (i - 1) z86).f0
theorem IR (l : List S86) : GU l 0 = none := rfl
theorem xH (l : List S86) (i : Nat) : GU l (i + 1) = some (l.getD i z86).f0 := by simp [GU]
theorem Bu (l : List S86) (i : Nat) : au l (i : Int) = l.getD i z86 := by simp [au]
theorem Lx (a b : Int) (l : List S86) (hl : l.length ≤ 8) : ∀ (d i : Nat), i + d = l.length → Ev (fun k => aG.l0 k l (l.length : Int) (i : Int) a b l) (pK (GU l i) (l.drop i)) := by
 intro d
 induction d with
 | zero =>
  intro i hi; refine Ev.step (f := fun _ => some 0) (fun k => ?_) ?_
  ·simp only [aG.l0]; rw [if_neg (by omega)]
  ·rw [List.drop_eq_nil_of_le (by omega)]; exact Ev.now 0
 | succ d ih =>
  intro i hi; (have hc : ((i : Int) + 1) = ((i + 1 : Nat) : Int) := by omega); refine Ev.step (f := fun k => aG.j2 k (i : Int) l (l.length : Int) (i : Int) (decide ((l.getD i z86).f0 < 65 ∨ (l.getD i z86).f0 > 90)) a b l (l.getD i z86).f0 (l.getD i z86).f1) (fun k => ?_) ?_
  ·simp only [aG.l0]; rw [if_pos (by omega), if_pos (by omega), if_pos (by omega), Bu]; by_cases h : (l.getD i z86).f0 < 65
   ·rw [if_pos h, decide_eq_true h, decide_eq_true (show (l.getD i z86).f0 < 65 ∨ (l.getD i z86).f0 > 90 from .inl h)]
   ·rw [if_neg h]; simp only [h, false_or]
  rw [mh l z86 i (by omega), pK]; by_cases h1 : (l.getD i z86).f0 < 65 ∨ (l.getD i z86).f0 > 90
  ·rw [if_pos h1]; refine Ev.step (f := fun _ => some 8) (fun k => ?_) (Ev.now 8); simp only [aG.j2, h1, decide_true, if_true]
  rw [if_neg h1]; by_cases h2 : inP (l.getD i z86).f1 1 1023 = true
  ·rw [if_pos h2]; by_cases h3 : i = 0
   ·subst h3; rw [if_neg (by simp [GU])]; refine Ev.step (f := fun k => aG.l0 k l (l.length : Int) ((0 + 1 : Nat) : Int) a b l) (fun k => ?_) ?_
    ·simp only [aG.j2, h1, decide_false, Jw, Option.bind_some, h2]; rw [if_neg (by decide), if_pos trivial, if_neg (by decide), show wrap64 (((0 : Nat) : Int) + 1) = ((0 + 1 : Nat) : Int) from by unfold wrap64; omega]
    ·have := ih 1 (by omega)
     rwa [xH] at this
   ·obtain ⟨j, rfl⟩ : ∃ j, i = j + 1 := ⟨i - 1, by omega⟩; rw [xH]; (have hw : wrap64 (((j + 1 : Nat) : Int) - 1) = (j : Int) := by unfold wrap64; omega); (have hw2 : wrap64 (((j + 1 : Nat) : Int) + 1) = ((j + 1 + 1 : Nat) : Int) := by unfold wrap64; omega); by_cases h4 : (l.getD (j + 1) z86).f0 ≤ (l.getD j z86).f0
    ·rw [if_pos ⟨_, rfl, h4⟩]; refine Ev.step (f := fun _ => some 5) (fun k => ?_) (Ev.now 5); simp only [aG.j2, h1, decide_false, Jw, Option.bind_some, h2, hw]; rw [if_neg (by decide), if_pos trivial, if_pos (by omega), if_pos (by omega), if_pos (by omega), Bu, if_pos h4]
    ·rw [if_neg (by rintro ⟨q, hq, h⟩; cases hq; exact h4 h)]; refine Ev.step (f := fun k => aG.l0 k l (l.length : Int) ((j + 1 + 1 : Nat) : Int) a b l) (fun k => ?_) ?_
     ·simp only [aG.j2, h1, decide_false, Jw, Option.bind_some, h2, hw, hw2]; rw [if_neg (by decide), if_pos trivial, if_pos (by omega), if_pos (by omega), if_pos (by omega), Bu, if_neg h4]
     ·have := ih (j + 1 + 1) (by omega)
      rwa [xH] at this
  ·rw [if_neg h2]; refine Ev.step (f := fun _ => some 1) (fun k => ?_) (Ev.now 1); simp only [aG.j2, h1, decide_false, Jw, Option.bind_some, h2]; rw [if_neg (by decide), if_neg (by simp)]
theorem Vn (a b : Int) (l : List S86) : Ev (fun k => aG.f k a b l) (xD a b l) := by
 have hj : ∀ x, Ev (fun k => aG.j0 k x a b l) (if x = true then 1 else if a > b then 5 else if l.length = 0 then 7 else if l.length > 8 then 6 else pK none l) := by
  intro x; by_cases h1 : x = true
  ·rw [if_pos h1]; refine Ev.step (f := fun _ => some 1) (fun k => ?_) (Ev.now 1); simp only [aG.j0]; rw [if_pos h1]
  rw [if_neg h1]; by_cases h2 : a > b
  ·rw [if_pos h2]; refine Ev.step (f := fun _ => some 5) (fun k => ?_) (Ev.now 5); simp only [aG.j0]; rw [if_neg h1, if_pos h2]
  rw [if_neg h2]; by_cases h3 : l.length = 0
  ·rw [if_pos h3]; refine Ev.step (f := fun _ => some 7) (fun k => ?_) (Ev.now 7); simp only [aG.j0]; rw [if_neg h1, if_neg h2, if_pos (by omega)]
  rw [if_neg h3]; by_cases h4 : l.length > 8
  ·rw [if_pos h4]; refine Ev.step (f := fun _ => some 6) (fun k => ?_) (Ev.now 6); simp only [aG.j0]; rw [if_neg h1, if_neg h2, if_neg (by omega), if_pos (by omega)]
  rw [if_neg h4]; refine Ev.step (f := fun k => aG.l0 k l (l.length : Int) ((0 : Nat) : Int) a b l) (fun k => ?_) ?_
  ·simp only [aG.j0]; rw [if_neg h1, if_neg h2, if_neg (by omega), if_neg (by omega)]; rfl
  ·have := Lx a b l (by omega) l.length 0 (by omega)
   simpa [IR] using this
 refine Ev.congr (f := fun k => aG.j0 k (!(inP a (-3000) 3000 && inP b (-3000) 3000)) a b l) (fun k => ?_) ?_
 ·simp only [aG.f, Jw, Option.bind_some]; by_cases h : inP a (-3000) 3000 = true
  ·rw [if_pos h, h, Bool.true_and]
  ·rw [if_neg h]; simp only [Bool.not_eq_true] at h; rw [h, Bool.false_and]
 ·have := hj (!(inP a (-3000) 3000 && inP b (-3000) 3000)); unfold xD; by_cases h : inP a (-3000) 3000 = true ∧ inP b (-3000) 3000 = true
  ·rw [if_pos h]; rw [h.1, h.2, Bool.and_self, Bool.not_true, if_neg (by decide)] at this; rw [h.1, h.2]; exact this
  ·rw [if_neg h]
   have hx : (inP a (-3000) 3000 && inP b (-3000) 3000) = false := by
    simp only [Bool.and_eq_false_iff]; by_cases h' : inP a (-3000) 3000 = true
    ·exact .inr (by simpa [h'] using h)
    ·exact .inl (by simpa using h')
   rw [hx, Bool.not_false, if_pos rfl] at this; rw [hx]; exact this
def pu : List S66 → Int
 | [] => 0
 | h :: r => if xD h.f0.f0 h.f0.f1 h.f1 = 0 then pu r else xD h.f0.f0 h.f0.f1 h.f1
def ru : List S27 → Int
 | [] => 0
 | x :: r => if inP x.f0 0 1023 = true ∧ inP x.f1 0 1023 = true then (if iM x.f1 x.f0 = 0 then ru r else 2) else 1
def nY : List (List S27) → Int
 | [] => 0
 | q :: r => if q.length > 4 then 6 else if ru q = 0 then nY r else ru q
def nC (l0 : List S66) (a1 a2 a3 : Int) (l4 : List (List S27)) : Int :=
 if l0.length = 0 then 7 else if l0.length > 4 then 6 else if pu l0 = 0 then
  (if inP a1 0 10 = true ∧ inP a2 0 10 = true ∧ inP a3 0 40 = true then (if l4.length = 0 then 7 else if l4.length > 8 then 6 else nY l4) else 1)
 else pu l0
theorem FW (l : List S66) (i : Nat) : ah l (i : Int) = l.getD i z66 := by simp [ah]
theorem abb (l : List S27) (i : Nat) : eB l (i : Int) = l.getD i z27 := by simp [eB]
theorem Q9 (l : List (List S27)) (i : Nat) : eH l (i : Int) = l.getD i [] := by simp [eH]
theorem yN (i n : Nat) (h : i < n) (hn : n ≤ 9223372036854775807) : wrap64 ((i : Int) + 1) = ((i + 1 : Nat) : Int) := by unfold wrap64; omega
theorem Hr (l : List (List S27)) (hl : l.length ≤ 8) : ∀ (d i : Nat), i + d = l.length → Ev (fun k => aM.l1 k l (l.length : Int) (i : Int)) (nY (l.drop i)) := by
 intro d
 induction d with
 | zero =>
  intro i hi; refine Ev.step (f := fun _ => some 0) (fun k => ?_) ?_
  ·simp only [aM.l1]; rw [if_neg (by omega)]
  ·rw [List.drop_eq_nil_of_le (by omega)]; exact Ev.now 0
 | succ d ih =>
  intro i hi; rw [mh l [] i (by omega), nY]; obtain ⟨q, hq⟩ : ∃ q, q = l.getD i [] := ⟨_, rfl⟩; rw [← hq]; by_cases h1 : q.length > 4
  ·rw [if_pos h1]; refine Ev.step (f := fun _ => some 6) (fun k => ?_) (Ev.now 6); simp only [aM.l1]; rw [if_pos (by omega), if_pos (by omega), if_pos (by omega), Q9, ← hq, if_pos (by omega)]
  rw [if_neg h1]
  have hin : ∀ (e j : Nat), j + e = q.length → Ev (fun k => aM.l2 k l (l.length : Int) (i : Int) q (q.length : Int) (j : Int)) (if ru (q.drop j) = 0 then nY (l.drop (i + 1)) else ru (q.drop j)) := by
   intro e
   induction e with
   | zero =>
    intro j hj; refine Ev.step (f := fun k => aM.l1 k l (l.length : Int) ((i + 1 : Nat) : Int)) (fun k => ?_) ?_
    ·simp only [aM.l2]; rw [if_neg (by omega), yN i 8 (by omega) (by omega)]
    ·rw [List.drop_eq_nil_of_le (show q.length ≤ j by omega), ru, if_pos rfl]; exact ih (i + 1) (by omega)
   | succ e ih2 =>
    intro j hj; rw [mh q z27 j (by omega), ru]; obtain ⟨x, hx⟩ : ∃ x, x = q.getD j z27 := ⟨_, rfl⟩; rw [← hx]; refine Ev.step (f := fun k => aM.j4 k l (l.length : Int) (i : Int) q (q.length : Int) (j : Int) (!(inP x.f0 0 1023 && inP x.f1 0 1023)) x.f0 x.f1) (fun k => ?_) ?_
    ·simp only [aM.l2, Jw, Option.bind_some]; rw [if_pos (by omega), if_pos (by omega), if_pos (by omega), abb, ← hx]; by_cases h : inP x.f0 0 1023 = true
     ·rw [if_pos h, h, Bool.true_and]
     ·rw [if_neg h]; simp only [Bool.not_eq_true] at h; rw [h, Bool.false_and]
    by_cases h : inP x.f0 0 1023 = true ∧ inP x.f1 0 1023 = true
    ·rw [if_pos h, h.1, h.2, Bool.and_self, Bool.not_true]; by_cases h5 : iM x.f1 x.f0 = 0
     ·rw [if_pos h5]; refine Ev.step (f := fun k => aM.l2 k l (l.length : Int) (i : Int) q (q.length : Int) ((j + 1 : Nat) : Int)) (fun k => ?_) (ih2 (j + 1) (by omega)); simp only [aM.j4, gG.f, Option.bind_some]; rw [if_neg (by decide), if_pos (show Go.bits .andNot .i64 x.f1 x.f0 = 0 from h5), yN j 8 (by omega) (by omega)]
     ·rw [if_neg h5, if_neg (by decide)]; refine Ev.step (f := fun _ => some 2) (fun k => ?_) (Ev.now 2); simp only [aM.j4, gG.f, Option.bind_some]; rw [if_neg (by decide), if_neg (show ¬ Go.bits .andNot .i64 x.f1 x.f0 = 0 from h5)]
    ·rw [if_neg h, if_neg (by decide)]
     have hx : (inP x.f0 0 1023 && inP x.f1 0 1023) = false := by
      simp only [Bool.and_eq_false_iff]; by_cases h' : inP x.f0 0 1023 = true
      ·exact .inr (by simpa [h'] using h)
      ·exact .inl (by simpa using h')
     rw [hx, Bool.not_false]; refine Ev.step (f := fun _ => some 1) (fun k => ?_) (Ev.now 1); simp only [aM.j4]; rw [if_pos trivial]
  refine Ev.step (f := fun k => aM.l2 k l (l.length : Int) (i : Int) q (q.length : Int) ((0 : Nat) : Int)) (fun k => ?_) ?_
  ·simp only [aM.l1]; rw [if_pos (by omega), if_pos (by omega), if_pos (by omega), Q9, ← hq, if_neg (by omega)]; rfl
  ·have := hin q.length 0 (by omega)
   simpa using this
theorem Mt (l0 : List S66) (a1 a2 a3 : Int) (l4 : List (List S27)) : Ev (fun k => aM.f k l0 a1 a2 a3 l4) (nC l0 a1 a2 a3 l4) := by
 unfold nC; by_cases h1 : l0.length = 0
 ·rw [if_pos h1]; refine Ev.congr (f := fun _ => some 7) (fun k => ?_) (Ev.now 7); simp only [aM.f]; rw [if_pos (by omega)]
 rw [if_neg h1]; by_cases h2 : l0.length > 4
 ·rw [if_pos h2]; refine Ev.congr (f := fun _ => some 6) (fun k => ?_) (Ev.now 6); simp only [aM.f]; rw [if_neg (by omega), if_pos (by omega)]
 rw [if_neg h2]
 have hj : ∀ x, Ev (fun k => aM.j1 k x l0 a1 a2 a3 l4) (if x = true then 1 else if l4.length = 0 then 7 else if l4.length > 8 then 6 else nY l4) := by
  intro x; by_cases h3 : x = true
  ·rw [if_pos h3]; refine Ev.step (f := fun _ => some 1) (fun k => ?_) (Ev.now 1); simp only [aM.j1]; rw [if_pos h3]
  rw [if_neg h3]; by_cases h4 : l4.length = 0
  ·rw [if_pos h4]; refine Ev.step (f := fun _ => some 7) (fun k => ?_) (Ev.now 7); simp only [aM.j1]; rw [if_neg h3, if_pos (by omega)]
  rw [if_neg h4]; by_cases h5 : l4.length > 8
  ·rw [if_pos h5]; refine Ev.step (f := fun _ => some 6) (fun k => ?_) (Ev.now 6); simp only [aM.j1]; rw [if_neg h3, if_neg (by omega), if_pos (by omega)]
  rw [if_neg h5]; refine Ev.step (f := fun k => aM.l1 k l4 (l4.length : Int) ((0 : Nat) : Int)) (fun k => ?_) ?_
  ·simp only [aM.j1]; rw [if_neg h3, if_neg (by omega), if_neg (by omega)]; rfl
  ·have := Hr l4 (by omega) l4.length 0 (by omega)
   simpa using this
 have hl : ∀ (d i : Nat), i + d = l0.length → Ev (fun k => aM.l0 k l0 (l0.length : Int) (i : Int) l0 a1 a2 a3 l4) (if pu (l0.drop i) = 0 then
  (if inP a1 0 10 = true ∧ inP a2 0 10 = true ∧ inP a3 0 40 = true then (if l4.length = 0 then 7 else if l4.length > 8 then 6 else nY l4) else 1) else pu (l0.drop i)) := by
  intro d
  induction d with
  | zero =>
   intro i hi; rw [List.drop_eq_nil_of_le (by omega), pu, if_pos rfl]; refine Ev.step (f := fun k => aM.j1 k (!(inP a1 0 10 && (inP a2 0 10 && inP a3 0 40))) l0 a1 a2 a3 l4) (fun k => ?_) ?_
   ·simp only [aM.l0, Jw, Option.bind_some]; rw [if_neg (by omega)]; by_cases h3 : inP a1 0 10 = true
    ·rw [if_pos h3, h3, Bool.true_and]; by_cases h4 : inP a2 0 10 = true
     ·rw [if_pos h4, h4, Bool.true_and]
     ·rw [if_neg h4]; simp only [Bool.not_eq_true] at h4; rw [h4, Bool.false_and]
    ·rw [if_neg h3]; simp only [Bool.not_eq_true] at h3; rw [h3, Bool.false_and]
   ·have := hj (!(inP a1 0 10 && (inP a2 0 10 && inP a3 0 40))); by_cases h : inP a1 0 10 = true ∧ inP a2 0 10 = true ∧ inP a3 0 40 = true
    ·rw [if_pos h]; rw [h.1, h.2.1, h.2.2] at this ⊢; exact this
    ·rw [if_neg h]
     have hx : (inP a1 0 10 && (inP a2 0 10 && inP a3 0 40)) = false := by
      rw [Bool.eq_false_iff]; intro hh; simp only [Bool.and_eq_true] at hh; exact h hh
     rw [hx] at this ⊢; exact this
  | succ d ih =>
   intro i hi; rw [mh l0 z66 i (by omega), pu]; refine Ev.step (f := fun k => (aG.f k (l0.getD i z66).f0.f0 (l0.getD i z66).f0.f1 (l0.getD i z66).f1).bind fun t => if t = 0 then aM.l0 k l0 (l0.length : Int) ((i + 1 : Nat) : Int) l0 a1 a2 a3 l4 else some t) (fun k => ?_) ?_
   ·simp only [aM.l0]; rw [if_pos (by omega), if_pos (by omega), if_pos (by omega), FW, yN i 8 (by omega) (by omega)]
   ·refine Ev.bind (Vn _ _ _) ?_; by_cases h3 : xD (l0.getD i z66).f0.f0 (l0.getD i z66).f0.f1 (l0.getD i z66).f1 = 0
    ·simp only [h3, if_true]; exact ih (i + 1) (by omega)
    ·simp only [h3, if_false]; exact Ev.now _
 have := hl l0.length 0 (by omega); refine Ev.congr (f := fun k => aM.l0 k l0 (l0.length : Int) ((0 : Nat) : Int) l0 a1 a2 a3 l4) (fun k => ?_) (by simpa using this); simp only [aM.f]; rw [if_neg (by omega), if_neg (by omega)]; rfl
theorem uF {l0 : List S66} {a1 a2 a3 : Int} {l4 : List (List S27)} (h : nC l0 a1 a2 a3 l4 = 0) : 0 < l0.length ∧ l0.length ≤ 4 ∧ 0 < l4.length ∧ l4.length ≤ 8 ∧ pu l0 = 0 ∧ nY l4 = 0 ∧ inP a1 0 10 = true ∧ inP a2 0 10 = true ∧ inP a3 0 40 = true := by
 unfold nC at h; split at h
 ·exact absurd h (by decide)
 split at h
 ·exact absurd h (by decide)
 split at h
 ·split at h
  ·split at h
   ·exact absurd h (by decide)
   split at h
   ·exact absurd h (by decide)
   ·rename_i h1 h2 h3 h4 h5 h6; exact ⟨by omega, by omega, by omega, by omega, h3, h, h4⟩
  ·exact absurd h (by decide)
 ·rename_i h1 h2 h3; exact absurd h h3
theorem Dx {l0 : List S66} (h : pu l0 = 0) : ∀ x ∈ l0, xD x.f0.f0 x.f0.f1 x.f1 = 0 := by
 induction l0 with
 | nil => intro x hx; cases hx
 | cons y r ih =>
  rw [pu] at h; split at h
  ·rename_i h1; intro x hx; rcases List.mem_cons.1 hx with rfl | hx
   ·exact h1
   ·exact ih h x hx
  ·rename_i h1; exact absurd h h1
theorem Aa {a b : Int} {l : List S86} (h : xD a b l = 0) : inP a (-3000) 3000 = true ∧ inP b (-3000) 3000 = true ∧ a ≤ b ∧ 0 < l.length ∧ l.length ≤ 8 ∧ pK none l = 0 := by
 unfold xD at h; split at h
 ·rename_i h0; split at h
  ·exact absurd h (by decide)
  split at h
  ·exact absurd h (by decide)
  split at h
  ·exact absurd h (by decide)
  ·rename_i h1 h2 h3; exact ⟨h0.1, h0.2, by omega, by omega, by omega, h⟩
 ·exact absurd h (by decide)
theorem uM {l0 : List S66} (h : pu l0 = 0) : ∀ i : Nat, i < l0.length → (ah l0 (i : Int)).f1.length ≤ 8 := fun i hi => by
 rw [FW, List.getD_eq_getElem?_getD, List.getElem?_eq_getElem hi]; exact (Aa (Dx h _ (List.getElem_mem hi))).2.2.2.2.1
theorem Ab (gF : Option Addr) (fV : Nat) (bH : List (S66)) (bM : Int) (dG : Int) (dO : Int) (gB : Option Addr) (fZ : Nat) (bD : List (List (S27))) (w : World) (og : Kd.C k66 w gF bH.length bH) (qI : bH.length ≤ fV) (ol : Kd.C (Kd.slice 27 k27) w gB bD.length bD) (qJ : bD.length ≤ fZ) :
 Calls Try.prog 40 #[.agg #[.slice gF bH.length fV, .int .i64 bM, .int .i64 dG, .int .i64 dO, .slice gB bD.length fZ]] w fun e w' => e = .returned (.int .i64 (nC bH bM dG dO bD)) ∧ Below w.heap.size w w' := by
 obtain ⟨k, hk⟩ := (Mt bH bM dG dO bD).rounds; exact aM.calls k gF fV bH bM dG dO gB fZ bD _ w og qI ol qJ hk
end Go.Proofs.Ytihedeofkhapiaa.Pr
end
section
namespace Go.Proofs.Ytihedeofkhapiaa.Pr
open Go.RowKit Go.Proofs.YtihedeofkhapiaaW.PrintWords Go.Proofs.YtihedeofkhapiaaW.PrintLast Go.Proofs.YtihedeofkhapiaaW.PrintMore
attribute [local go_sem] nP nM oZ pE mi mq nL nJ
def bR.l0 : Nat → List ByteArray → List ByteArray → Bool → Int → Option (Bool)
 | 0, _, _, _, _ => none
 | k + 1, x0, x1, x5, x6 => if x5 = true then (if x6 < (x0.length : Int) then (if 0 ≤ x6 then (if x6 < (x1.length : Int) then (bR.l0 k x0 x1 ((iy ByteArray.empty x0 x6).toList == (iy ByteArray.empty x1 x6).toList) (wrap64 (x6 + 1))) else (none)) else (none)) else (some x5)) else (some x5)
def bR.f (k : Nat) (l0 : List ByteArray) (l1 : List ByteArray) : Option (Bool) := bR.l0 k l0 l1 ((l0.length : Int) == (l1.length : Int)) 0
theorem bR.iB : ∀ k, (∀ y0 y1 y2 y3, LeO (bR.l0 k y0 y1 y2 y3) (bR.l0 (k + 1) y0 y1 y2 y3))
 | 0 => fun _ _ _ _ r h => by simp [bR.l0] at h
 | k + 1 => by
  have ih0 := bR.iB k
  ·intro y0 y1 y2 y3; unfold bR.l0
   repeat' first | (with_reducible exact ih0 _ _ _ _) | (with_reducible exact LeO.refl _) | (with_reducible refine LeO.ite ?_ ?_)
theorem bR.mono : ∀ a0 a1 k, LeO (bR.f k a0 a1) (bR.f (k + 1) a0 a1) := by
 intro a0 a1 k; have ih0 := bR.iB k; unfold bR.f
 repeat' (with_reducible exact ih0 _ _ _ _)
set_option maxHeartbeats 8000000 in
set_option maxRecDepth 100000 in
theorem bR.calls (k : Nat) (A0 : Option Addr) (c0 : Nat) (l0 : List ByteArray) (A1 : Option Addr) (c1 : Nat) (l1 : List ByteArray) (r : Bool) (w : World) (hr0 : Kd.C Kd.string w A0 l0.length l0) (hc0 : l0.length ≤ c0) (hr1 : Kd.C Kd.string w A1 l1.length l1) (hc1 : l1.length ≤ c1) (h : bR.f k l0 l1 = some r) :
 Calls Try.prog 42 #[.slice A0 l0.length c0, .slice A1 l1.length c1] w fun e w' => e = .returned (.bool r) ∧ gm w w' := by
 have HR0 := aa.mk hr0; have HC0 := aa.mk hc0; clear hr0 hc0; have HR1 := aa.mk hr1; have HC1 := aa.mk hc1; clear hr1 hc1; have H : (bR.l0 k l0 l1 ((l0.length : Int) == (l1.length : Int)) 0) = some r := h; clear h; have H' := aa.mk H; clear H; go_enter Try.func42, Try.ntmps42; go_wp2; (go_loopg [5, 6] k (fun kq v5 v6 w' => ∃ (oh : Bool) (gH : Int), v5 = .bool oh ∧ v6 = .int .i64 gH ∧ aa (bR.l0 kq l0 l1 oh gH = some r) ∧ aa (kq ≤ k) ∧ gm w w')); case atStart => exact ⟨(((l0.length : Int) == (l1.length : Int))), (0), (by rfl), (by rfl), H', ⟨Nat.le_refl _⟩, by exact gm.refl _⟩
 case round =>
  clear H'; obtain ⟨oh, gH, rfl, rfl, HA, HK1, ⟨m1, rfl⟩⟩ := hrel
  cases gk with
  | zero => exact absurd HA.out (by simp [bR.l0])
  | succ k1 =>
   have H := HA.out; clear HA; simp only [bR.l0] at H; by_cases c3 : oh = true
   ·subst c3; rw [if_pos rfl] at H; by_cases c4 : gH < (l0.length : Int)
    ·rw [if_pos c4] at H; have EZ : decide (gH < (l0.length : Int)) = true := decide_eq_true c4; clear c4; by_cases c5 : 0 ≤ gH
     ·rw [if_pos c5] at H; have Et : decide (0 ≤ gH) = true := decide_eq_true c5; clear c5; by_cases c6 : gH < (l1.length : Int)
      ·rw [if_pos c6] at H; have aac : decide (gH < (l1.length : Int)) = true := decide_eq_true c6; clear c6; have H' := aa.mk H; clear H; have Y4 : 0 ≤ (gH : Int) := of_decide_eq_true (by with_reducible assumption); have XX : gH < (l0.length : Int) := of_decide_eq_true (by with_reducible assumption); obtain ⟨aif, e264, afd⟩ := Kd.qi HR0.out gH Y4 XX; cases e264; replace Y4 := eq_true Y4; replace XX := eq_true XX; have Zi : 0 ≤ (gH : Int) := of_decide_eq_true (by with_reducible assumption); have Y1 : gH < (l1.length : Int) := of_decide_eq_true (by with_reducible assumption); obtain ⟨air, e265, aes⟩ := Kd.qi HR1.out gH Zi Y1; cases e265; replace Zi := eq_true Zi; replace Y1 := eq_true Y1; go_wp2; (repeat (go_quiet (fail); go_wp2)); go_roundg k1; (case measure => have := HK1.out; omega); case rel => exact ⟨(((iy ByteArray.empty l0 gH).toList == (iy ByteArray.empty l1 gH).toList)), (wrap64 (gH + 1)), (by rfl), (by rfl), H', ⟨by have := HK1.out; omega⟩, by repeat (first | exact gm.refl _ | apply gm.step)⟩
      ·rw [if_neg c6] at H; exact absurd H (by simp)
     ·rw [if_neg c5] at H; exact absurd H (by simp)
    ·rw [if_neg c4] at H; have EZ : decide (gH < (l0.length : Int)) = false := decide_eq_false c4; clear c4; obtain rfl := Option.some.inj H; go_wp2
     go_ret
     exact ⟨by rfl, by repeat (first | exact gm.refl _ | apply gm.step)⟩
   ·replace c3 := Bool.eq_false_iff.mpr c3; subst c3; rw [if_neg (show ¬ (false = true) by decide)] at H; obtain rfl := Option.some.inj H; go_wp2
    go_ret
    exact ⟨by rfl, by repeat (first | exact gm.refl _ | apply gm.step)⟩
def lD.f  : Option ((List (S66))) := some (([(⟨(⟨(-400), (-300)⟩ : S63), (([(⟨65, 7⟩ : S86), (⟨76, 3⟩ : S86), (⟨84, 12⟩ : S86)] : List (S86)))⟩ : S66), (⟨(⟨(-320), (-200)⟩ : S63), (([(⟨65, 15⟩ : S86), (⟨76, 3⟩ : S86), (⟨84, 12⟩ : S86)] : List (S86)))⟩ : S66)] : List (S66)))
set_option maxHeartbeats 8000000 in
set_option maxRecDepth 100000 in
theorem lD.calls  (r : List (S66)) (w : World) (h : lD.f  = some r) :
 Calls Try.prog 72 #[] w fun e w' => ∃ v0_ : Value, e = .returned (v0_) ∧ Kd.N k66 66 w' w.heap.size (fun k_ => (w.heap.size ≤ k_)) v0_ r ∧ Below w.heap.size w w' := by
 have hu63 := Try.underlying63; have hu86 := Try.underlying86; have hu66 := Try.underlying66; have HB := aa.mk (Below.refl w.heap.size w); have H : (some (([(⟨(⟨(-400), (-300)⟩ : S63), (([(⟨65, 7⟩ : S86), (⟨76, 3⟩ : S86), (⟨84, 12⟩ : S86)] : List (S86)))⟩ : S66), (⟨(⟨(-320), (-200)⟩ : S63), (([(⟨65, 15⟩ : S86), (⟨76, 3⟩ : S86), (⟨84, 12⟩ : S86)] : List (S86)))⟩ : S66)] : List (S66)))) = some r := h; clear h; obtain ⟨Gh, MH⟩ : ∃ y_ : List (S86), y_ = (([(⟨65, 7⟩ : S86), (⟨76, 3⟩ : S86), (⟨84, 12⟩ : S86)] : List (S86))) := ⟨_, rfl⟩; (replace H : (some (([(⟨(⟨(-400), (-300)⟩ : S63), Gh⟩ : S66), (⟨(⟨(-320), (-200)⟩ : S63), (([(⟨65, 15⟩ : S86), (⟨76, 3⟩ : S86), (⟨84, 12⟩ : S86)] : List (S86)))⟩ : S66)] : List (S66)))) = some r := by (rw [MH]; with_reducible exact H)); have acZ := aa.mk MH; clear MH; obtain ⟨I8, Mo⟩ : ∃ y_ : List (S86), y_ = (([(⟨65, 15⟩ : S86), (⟨76, 3⟩ : S86), (⟨84, 12⟩ : S86)] : List (S86))) := ⟨_, rfl⟩; (replace H : (some (([(⟨(⟨(-400), (-300)⟩ : S63), Gh⟩ : S66), (⟨(⟨(-320), (-200)⟩ : S63), I8⟩ : S66)] : List (S66)))) = some r := by (rw [Mo]; with_reducible exact H)); have acH := aa.mk Mo; clear Mo; obtain ⟨afX, MF⟩ : ∃ y_ : List (S66), y_ = (([(⟨(⟨(-400), (-300)⟩ : S63), Gh⟩ : S66), (⟨(⟨(-320), (-200)⟩ : S63), I8⟩ : S66)] : List (S66))) := ⟨_, rfl⟩; (replace H : (some afX) = some r := by (rw [MF]; with_reducible exact H)); have abj := aa.mk MF; clear MF; obtain rfl := Option.some.inj H; go_enter Try.func72, Try.ntmps72; go_wp2_with (first | ((with_reducible refine dL (N := 5) rfl ?_); refine Kd.ve k86 _ 86 ?hg (N := 5) ?hd (xs := ([(⟨65, 7⟩ : S86), (⟨76, 3⟩ : S86), (⟨84, 12⟩ : S86)] : List (S86))) (inner := [.int .u8 65, .int .i64 7, .int .u8 76, .int .i64 3, .int .u8 84, .int .i64 12]) (ok := fun _ => True) (okp := fun _ => True) ?hr ?hp (fun _ hk => hk) trivial (Below.refl _ _) (Nat.le_refl _) (by simp) ?_; (case hd => rfl); (case hg => rfl); (case hr => (go_simp; done)); (case hp => exact (fF.c2 (show Kd.M k86 _ _ _ (⟨65, 7⟩ : S86) [.int .u8 65, .int .i64 7] from (uZ _ _ _ (⟨65, 7⟩ : S86) )) (fF.c2 (show Kd.M k86 _ _ _ (⟨76, 3⟩ : S86) [.int .u8 76, .int .i64 3] from (uZ _ _ _ (⟨76, 3⟩ : S86) )) (fF.c2 (show Kd.M k86 _ _ _ (⟨84, 12⟩ : S86) [.int .u8 84, .int .i64 12] from (uZ _ _ _ (⟨84, 12⟩ : S86) )) (fF.none _ _))))); intro akH w1 ho2 hb hg_ hnew_; clear hg_ hnew_; (rw [← acZ.out] at ho2); have Cm := aa.mk (Kd.fU (Kd.nW (M := fun k_ => (w.heap.size ≤ k_)) ho2 (aK (by exact HB.out)) (fun k_ h_ => h_)) (aK (by exact HB.out))); replace HB := aa.mk (bn (by exact HB.out) hb); clear hb ho2; obtain ⟨Ao3, co3, eo3⟩ := Kd.eD Cm.out; subst eo3) | ((with_reducible refine dL (N := 11) rfl ?_); refine Kd.ve k86 _ 86 ?hg (N := 11) ?hd (xs := ([(⟨65, 15⟩ : S86), (⟨76, 3⟩ : S86), (⟨84, 12⟩ : S86)] : List (S86))) (inner := [.int .u8 65, .int .i64 15, .int .u8 76, .int .i64 3, .int .u8 84, .int .i64 12]) (ok := fun _ => True) (okp := fun _ => True) ?hr ?hp (fun _ hk => hk) trivial (Below.refl _ _) (Nat.le_refl _) (by simp) ?_; (case hd => rfl); (case hg => rfl); (case hr => (go_simp; done)); (case hp => exact (fF.c2 (show Kd.M k86 _ _ _ (⟨65, 15⟩ : S86) [.int .u8 65, .int .i64 15] from (uZ _ _ _ (⟨65, 15⟩ : S86) )) (fF.c2 (show Kd.M k86 _ _ _ (⟨76, 3⟩ : S86) [.int .u8 76, .int .i64 3] from (uZ _ _ _ (⟨76, 3⟩ : S86) )) (fF.c2 (show Kd.M k86 _ _ _ (⟨84, 12⟩ : S86) [.int .u8 84, .int .i64 12] from (uZ _ _ _ (⟨84, 12⟩ : S86) )) (fF.none _ _))))); intro akE w4 ho5 hb hg_ hnew_; clear hg_ hnew_; (rw [← acH.out] at ho5); have KS := aa.mk (Kd.fU (Kd.kv (Kd.nW (M := fun k_ => (w.heap.size ≤ k_)) ho5 (aK (by exact HB.out)) (fun k_ h_ => h_)) (Kd.kQ (rU Cm.out))) (aK (by exact HB.out))); replace Cm := aa.mk (Kd.jl (rU Cm.out) (Kd.cz ho5) hb); replace HB := aa.mk (bn (by exact HB.out) hb); clear hb ho5; obtain ⟨Ao6, co6, eo6⟩ := Kd.eD KS.out; subst eo6) | ((with_reducible refine dL (N := 13) rfl ?_); refine Kd.Pk k66 _ 66 ?hg (N' := 13) ?hd (xs := ([(⟨(⟨(-400), (-300)⟩ : S63), Gh⟩ : S66), (⟨(⟨(-320), (-200)⟩ : S63), I8⟩ : S66)] : List (S66))) (inner := [.int .i64 (-400), .int .i64 (-300), .slice Ao3 Gh.length co3, .int .i64 (-320), .int .i64 (-200), .slice Ao6 I8.length co6]) (ok := (fun k_ => (w.heap.size ≤ k_))) (okp := (fun k_ => (w.heap.size ≤ k_))) ?hr ?hp (fun _ hk => hk) ((show ∀ k_, w4.heap.size ≤ k_ → (fun k_ => (w.heap.size ≤ k_)) k_ from fun k_ hk => (Nat.le_trans (aK (by exact HB.out)) hk)) _ (Nat.le_refl _)) (Below.refl _ _) (Nat.le_refl _) (by simp) ?_; (case hd => rfl); (case hg => rfl); (case hr => (go_simp; done)); (case hp => exact (fF.c3 (show Kd.FK k66 _ _ (⟨(⟨(-400), (-300)⟩ : S63), Gh⟩ : S66) [.int .i64 (-400), .int .i64 (-300), .slice Ao3 Gh.length co3] from (AQ _ _ (⟨(⟨(-400), (-300)⟩ : S63), Gh⟩ : S66) (Kd.dD (Kd.bW (ok' := (fun k_ => (w.heap.size ≤ k_))) (Cm.out) (fun k_ hk => hk.1.1))).2.1 (Kd.R_F (Kd.bW (ok' := (fun k_ => (w.heap.size ≤ k_))) (Cm.out) (fun k_ hk => hk.1.1))))) (fF.c3 (show Kd.FK k66 _ _ (⟨(⟨(-320), (-200)⟩ : S63), I8⟩ : S66) [.int .i64 (-320), .int .i64 (-200), .slice Ao6 I8.length co6] from (AQ _ _ (⟨(⟨(-320), (-200)⟩ : S63), I8⟩ : S66) (Kd.dD (Kd.bW (ok' := (fun k_ => (w.heap.size ≤ k_))) (KS.out) (fun k_ hk => hk.1.1))).2.1 (Kd.R_F (Kd.bW (ok' := (fun k_ => (w.heap.size ≤ k_))) (KS.out) (fun k_ hk => hk.1.1))))) (fF.none _ _)))); intro akv w7 ho8 hb hg_ hnew_; clear hg_ hnew_; (rw [← abj.out] at ho8); have aa9 := aa.mk (Kd.mR ho8 (aK (by exact HB.out))); replace HB := aa.mk (bn (by exact HB.out) hb); clear Cm KS hb ho8))
 go_ret
 exact ⟨_, by rfl, by (with_reducible skip); exact aa9.out, by exact HB.out⟩
def gI.f  : Option ((List (S66)) × Int × Int × Int × (List (List (S27)))) := (lD.f).bind fun xx => (some (xx, 1, 0, 1, (([(([(⟨15, 7⟩ : S27)] : List (S27))), (([(⟨15, 3⟩ : S27)] : List (S27))), (([(⟨3, 0⟩ : S27)] : List (S27)))] : List (List (S27))))))
set_option maxHeartbeats 8000000 in
set_option maxRecDepth 100000 in
theorem gI.calls  (r1 : List (S66)) (r2 : Int) (r3 : Int) (r4 : Int) (r5 : List (List (S27))) (w : World) (h : gI.f  = some (r1, r2, r3, r4, r5)) :
 Calls Try.prog 48 #[] w fun e w' => ∃ v0_ v4_ : Value, e = .returned (.agg #[v0_, .int .i64 r2, .int .i64 r3, .int .i64 r4, v4_]) ∧ Kd.N k66 66 w' w.heap.size (fun k_ => (w.heap.size ≤ k_) ∧ some k_ ≠ (v4_ : Value).ownBlock) v0_ r1 ∧ Kd.N (Kd.slice 27 k27) 39 w' w.heap.size (fun k_ => (w.heap.size ≤ k_) ∧ some k_ ≠ (v0_ : Value).ownBlock) v4_ r5 ∧ Below w.heap.size w w' := by
 have hu25 := Try.underlying25; have hu27 := Try.underlying27; have HB := aa.mk (Below.refl w.heap.size w); have H : ((lD.f).bind fun xx => (some (xx, 1, 0, 1, (([(([(⟨15, 7⟩ : S27)] : List (S27))), (([(⟨15, 3⟩ : S27)] : List (S27))), (([(⟨3, 0⟩ : S27)] : List (S27)))] : List (List (S27))))))) = some (r1, r2, r3, r4, r5) := h; clear h; replace H := Option.bind_eq_some_iff.mp H; obtain ⟨xx, A10, H⟩ := H; have A1 := aa.mk A10; clear A10; obtain ⟨F4, MW⟩ : ∃ y_ : List (S27), y_ = (([(⟨15, 7⟩ : S27)] : List (S27))) := ⟨_, rfl⟩; (replace H : (some (xx, 1, 0, 1, (([F4, (([(⟨15, 3⟩ : S27)] : List (S27))), (([(⟨3, 0⟩ : S27)] : List (S27)))] : List (List (S27)))))) = some (r1, r2, r3, r4, r5) := by (rw [MW]; with_reducible exact H)); have aba := aa.mk MW; clear MW; obtain ⟨Jv, PS⟩ : ∃ y_ : List (S27), y_ = (([(⟨15, 3⟩ : S27)] : List (S27))) := ⟨_, rfl⟩; (replace H : (some (xx, 1, 0, 1, (([F4, Jv, (([(⟨3, 0⟩ : S27)] : List (S27)))] : List (List (S27)))))) = some (r1, r2, r3, r4, r5) := by (rw [PS]; with_reducible exact H)); have aai := aa.mk PS; clear PS; obtain ⟨LQ, MJ⟩ : ∃ y_ : List (S27), y_ = (([(⟨3, 0⟩ : S27)] : List (S27))) := ⟨_, rfl⟩; (replace H : (some (xx, 1, 0, 1, (([F4, Jv, LQ] : List (List (S27)))))) = some (r1, r2, r3, r4, r5) := by (rw [MJ]; with_reducible exact H)); have ab3 := aa.mk MJ; clear MJ; obtain ⟨RO, OT⟩ : ∃ y_ : List (List (S27)), y_ = (([F4, Jv, LQ] : List (List (S27)))) := ⟨_, rfl⟩; (replace H : (some (xx, 1, 0, 1, RO)) = some (r1, r2, r3, r4, r5) := by (rw [OT]; with_reducible exact H)); have acP := aa.mk OT; clear OT; simp only [Option.some.injEq, Prod.mk.injEq] at H; obtain ⟨rfl, rfl, rfl, rfl, rfl⟩ := H; go_enter Try.func48, Try.ntmps48; (go_wp2_with (first | ((with_reducible refine dL (N := 0) rfl ?_); refine eG ?hg (N := 0) ?hd (cs := #[.slice none 0 0, .int .i64 0, .int .i64 0, .int .i64 0, .slice none 0 0]) (t := 25) ?hr ?_; (case hd => rfl); (case hg => rfl); (case hr => (go_simp; done)); intro mg hg w2 hbox hb; have oN := aa.mk (hbox); have ajT := aa.mk ((by rw [hg]; exact (aK (by exact HB.out)) : w.heap.size ≤ mg)); have abp := aa.mk ((by rw [hg]; exact (aK (by exact HB.out)) : w.heap.size ≤ mg)); replace HB := aa.mk (bn (by exact HB.out) hb); clear hb hbox hg) | ((with_reducible refine bC (f := 72) rfl ?_); refine fA (some 1) rfl rfl Try.func72 (by kernel_rfl) rfl #[] rfl (by (simp only [List.map_toArray, List.map_cons, List.map_nil]); done) ?_; (with_reducible refine (lD.calls  xx _ A1.out).mono ?_); rintro e w3 ⟨Eo, rfl, ho0, hb⟩; refine ⟨_, rfl, ?_⟩; have qC := aa.mk (Kd.mR (Kd.aH (ok' := fun k_ => (w.heap.size ≤ k_) ∧ k_ ≠ mg) ho0 (fun k_ hk_ => ⟨(Nat.le_trans (aK (by exact HB.out)) hk_), (Kd.jU (g := mg) (o := .cells #[.slice none 0 0, .int .i64 0, .int .i64 0, .int .i64 0, .slice none 0 0] 25 (0, 0)) (bU oN.out) k_ hk_)⟩)) (aK (by exact HB.out))); replace oN := aa.mk (aN (bU oN.out) hb); replace HB := aa.mk (bn (by exact HB.out) hb); clear hb; (clear ho0)) | ((with_reducible refine dL (N := 3) rfl ?_); refine Kd.ve k27 _ 27 ?hg (N := 3) ?hd (xs := ([(⟨15, 7⟩ : S27)] : List (S27))) (inner := [.int .i64 15, .int .i64 7]) (ok := fun _ => True) (okp := fun _ => True) ?hr ?hp (fun _ hk => hk) trivial (Below.refl _ _) (Nat.le_refl _) (by simp) ?_; (case hd => rfl); (case hg => rfl); (case hr => (go_simp; done)); (case hp => exact (fF.c2 (show Kd.M k27 _ _ _ (⟨15, 7⟩ : S27) [.int .i64 15, .int .i64 7] from (wT _ _ _ (⟨15, 7⟩ : S27) )) (fF.none _ _))); intro aks w4 ho5 hb hg_ hnew_; clear hg_ hnew_; (rw [← aba.out] at ho5); replace qC := aa.mk (Kd.dB (nU qC.out) (Kd.cz ho5) hb); have xC := aa.mk (Kd.fU (Kd.nW (M := fun k_ => (w.heap.size ≤ k_)) ho5 (aK (by exact HB.out)) (fun k_ h_ => h_)) (aK (by exact HB.out))); replace oN := aa.mk (aN (bU oN.out) hb); replace HB := aa.mk (bn (by exact HB.out) hb); clear hb ho5) | ((with_reducible refine dL (N := 5) rfl ?_); refine Kd.ve k27 _ 27 ?hg (N := 5) ?hd (xs := ([(⟨15, 3⟩ : S27)] : List (S27))) (inner := [.int .i64 15, .int .i64 3]) (ok := fun _ => True) (okp := fun _ => True) ?hr ?hp (fun _ hk => hk) trivial (Below.refl _ _) (Nat.le_refl _) (by simp) ?_; (case hd => rfl); (case hg => rfl); (case hr => (go_simp; done)); (case hp => exact (fF.c2 (show Kd.M k27 _ _ _ (⟨15, 3⟩ : S27) [.int .i64 15, .int .i64 3] from (wT _ _ _ (⟨15, 3⟩ : S27) )) (fF.none _ _))); intro akw w6 ho7 hb hg_ hnew_; clear hg_ hnew_; (rw [← aai.out] at ho7); replace qC := aa.mk (Kd.dB (nU qC.out) (Kd.cz ho7) hb); have Ca := aa.mk (Kd.fU (Kd.kv (Kd.nW (M := fun k_ => (w.heap.size ≤ k_)) ho7 (aK (by exact HB.out)) (fun k_ h_ => h_)) (Kd.kQ (rU xC.out))) (aK (by exact HB.out))); replace xC := aa.mk (Kd.jl (rU xC.out) (Kd.cz ho7) hb); replace oN := aa.mk (aN (bU oN.out) hb); replace HB := aa.mk (bn (by exact HB.out) hb); clear hb ho7) | ((with_reducible refine dL (N := 7) rfl ?_); refine Kd.ve k27 _ 27 ?hg (N := 7) ?hd (xs := ([(⟨3, 0⟩ : S27)] : List (S27))) (inner := [.int .i64 3, .int .i64 0]) (ok := fun _ => True) (okp := fun _ => True) ?hr ?hp (fun _ hk => hk) trivial (Below.refl _ _) (Nat.le_refl _) (by simp) ?_; (case hd => rfl); (case hg => rfl); (case hr => (go_simp; done)); (case hp => exact (fF.c2 (show Kd.M k27 _ _ _ (⟨3, 0⟩ : S27) [.int .i64 3, .int .i64 0] from (wT _ _ _ (⟨3, 0⟩ : S27) )) (fF.none _ _))); intro ak4 w8 ho9 hb hg_ hnew_; clear hg_ hnew_; (rw [← ab3.out] at ho9); replace qC := aa.mk (Kd.dB (nU qC.out) (Kd.cz ho9) hb); have KF := aa.mk (Kd.fU (Kd.kv (Kd.kv (Kd.nW (M := fun k_ => (w.heap.size ≤ k_)) ho9 (aK (by exact HB.out)) (fun k_ h_ => h_)) (Kd.kQ (rU xC.out))) (Kd.kQ (rU Ca.out))) (aK (by exact HB.out))); replace xC := aa.mk (Kd.jl (rU xC.out) (Kd.cz ho9) hb); replace Ca := aa.mk (Kd.jl (rU Ca.out) (Kd.cz ho9) hb); replace oN := aa.mk (aN (bU oN.out) hb); replace HB := aa.mk (bn (by exact HB.out) hb); clear hb ho9; obtain ⟨fH, fw, Ef⟩ := Kd.eD xC.out; subst Ef; obtain ⟨ads, acd, ag4⟩ := Kd.eD Ca.out; subst ag4; obtain ⟨ab6, ada, agB⟩ := Kd.eD KF.out; subst agB) | ((with_reducible refine dL (N := 8) rfl ?_); refine Kd.Pk (Kd.slice 27 k27) _ 39 ?hg (N' := 8) ?hd (xs := ([F4, Jv, LQ] : List (List (S27)))) (inner := [.slice fH F4.length fw, .slice ads Jv.length acd, .slice ab6 LQ.length ada]) (ok := (fun k_ => (w.heap.size ≤ k_) ∧ some k_ ≠ (Eo : Value).ownBlock ∧ k_ ≠ mg)) (okp := (fun k_ => (w.heap.size ≤ k_) ∧ some k_ ≠ (Eo : Value).ownBlock ∧ k_ ≠ mg)) ?hr ?hp (fun _ hk => hk) ((show ∀ k_, w8.heap.size ≤ k_ → (fun k_ => (w.heap.size ≤ k_) ∧ some k_ ≠ (Eo : Value).ownBlock ∧ k_ ≠ mg) k_ from fun k_ hk => ⟨(Nat.le_trans (aK (by exact HB.out)) hk), Kd.gD (Kd.rV (nU qC.out)) k_ hk, Kd.jU (g := mg) (o := .cells #[.slice none 0 0, .int .i64 0, .int .i64 0, .int .i64 0, .slice none 0 0] 25 (0, 0)) (bU oN.out) k_ hk⟩) _ (Nat.le_refl _)) (Below.refl _ _) (Nat.le_refl _) (by simp) ?_; (case hd => rfl); (case hg => rfl); (case hr => (go_simp; done)); (case hp => exact (fF.one (show Kd.FK (Kd.slice 27 k27) _ _ F4 [.slice fH F4.length fw] from (Kd.oG (Kd.dD (Kd.bW (ok' := (fun k_ => (w.heap.size ≤ k_) ∧ some k_ ≠ (Eo : Value).ownBlock ∧ k_ ≠ mg)) (Kd.dQ (Kd.bB (xC.out) (Kd.di qC.out) (by decide)) oN.out (by decide)) (fun k_ hk => ⟨hk.1.1.1.1.1, ⟨hk.1.2, hk.2⟩⟩))).2.1 (Kd.R_F (Kd.bW (ok' := (fun k_ => (w.heap.size ≤ k_) ∧ some k_ ≠ (Eo : Value).ownBlock ∧ k_ ≠ mg)) (Kd.dQ (Kd.bB (xC.out) (Kd.di qC.out) (by decide)) oN.out (by decide)) (fun k_ hk => ⟨hk.1.1.1.1.1, ⟨hk.1.2, hk.2⟩⟩))))) (fF.one (show Kd.FK (Kd.slice 27 k27) _ _ Jv [.slice ads Jv.length acd] from (Kd.oG (Kd.dD (Kd.bW (ok' := (fun k_ => (w.heap.size ≤ k_) ∧ some k_ ≠ (Eo : Value).ownBlock ∧ k_ ≠ mg)) (Kd.dQ (Kd.bB (Ca.out) (Kd.di qC.out) (by decide)) oN.out (by decide)) (fun k_ hk => ⟨hk.1.1.1.1.1, ⟨hk.1.2, hk.2⟩⟩))).2.1 (Kd.R_F (Kd.bW (ok' := (fun k_ => (w.heap.size ≤ k_) ∧ some k_ ≠ (Eo : Value).ownBlock ∧ k_ ≠ mg)) (Kd.dQ (Kd.bB (Ca.out) (Kd.di qC.out) (by decide)) oN.out (by decide)) (fun k_ hk => ⟨hk.1.1.1.1.1, ⟨hk.1.2, hk.2⟩⟩))))) (fF.one (show Kd.FK (Kd.slice 27 k27) _ _ LQ [.slice ab6 LQ.length ada] from (Kd.oG (Kd.dD (Kd.bW (ok' := (fun k_ => (w.heap.size ≤ k_) ∧ some k_ ≠ (Eo : Value).ownBlock ∧ k_ ≠ mg)) (Kd.dQ (Kd.bB (KF.out) (Kd.di qC.out) (by decide)) oN.out (by decide)) (fun k_ hk => ⟨hk.1.1.1.1.1, ⟨hk.1.2, hk.2⟩⟩))).2.1 (Kd.R_F (Kd.bW (ok' := (fun k_ => (w.heap.size ≤ k_) ∧ some k_ ≠ (Eo : Value).ownBlock ∧ k_ ≠ mg)) (Kd.dQ (Kd.bB (KF.out) (Kd.di qC.out) (by decide)) oN.out (by decide)) (fun k_ hk => ⟨hk.1.1.1.1.1, ⟨hk.1.2, hk.2⟩⟩))))) (fF.none _ _))))); intro akC w13 Tw hb hg_ hnew_; clear hg_ hnew_; (rw [← acP.out] at Tw); replace qC := aa.mk (Kd.dB (nU qC.out) (Kd.mO Tw) hb); have Xq := aa.mk (Kd.mR Tw (aK (by exact HB.out))); replace oN := aa.mk (aN (bU oN.out) hb); replace HB := aa.mk (bn (by exact HB.out) hb); clear xC Ca KF hb Tw; obtain ⟨CZ, CP, Ps⟩ := Kd.jS Xq.out; subst Ps; obtain ⟨Ja, Ij, agm⟩ := Kd.jS qC.out; subst agm; obtain ⟨TC, Ve, Sg, afD, ad9, VN, RL, UM, adZ, afR⟩ := cells5 oN.out))); refine bodyPost_ret (results_cell_row rfl _ _ mg 25 #[.slice Ja xx.length Ij, .int .i64 1, .int .i64 0, .int .i64 1, .slice CZ RO.length CP] (0, 0) _ rfl (by (with_reducible skip); refine dm (cs := #[.slice Ja xx.length Ij, .int .i64 1, .int .i64 0, .int .i64 1, .slice none 0 0]) ?_ 4 _ rfl; (with_reducible skip); refine dm (cs := #[.slice Ja xx.length Ij, .int .i64 1, .int .i64 0, .int .i64 0, .slice none 0 0]) ?_ 3 _ rfl; (with_reducible skip); refine dm (cs := #[.slice Ja xx.length Ij, .int .i64 1, .int .i64 0, .int .i64 0, .slice none 0 0]) ?_ 2 _ rfl; (with_reducible skip); refine dm (cs := #[.slice Ja xx.length Ij, .int .i64 0, .int .i64 0, .int .i64 0, .slice none 0 0]) ?_ 1 _ rfl; (with_reducible skip); refine dm (cs := #[.slice none 0 0, .int .i64 0, .int .i64 0, .int .i64 0, .slice none 0 0]) ?_ 0 _ rfl; (with_reducible skip); exact oN.out) Try.underlying25 rfl (by kernel_rfl)) rfl ?_; exact ⟨_, _, by rfl, by (with_reducible skip); exact Kd.aH (Kd.dN (p := ⟨mg, 4, none⟩) (Kd.dN (p := ⟨mg, 3, none⟩) (Kd.dN (p := ⟨mg, 2, none⟩) (Kd.dN (p := ⟨mg, 1, none⟩) (Kd.dN (p := ⟨mg, 0, none⟩) (Kd.aH qC.out (fun k_ hk => (⟨hk, hk.1.1.1.1.2⟩ : _ ∧ k_ ≠ mg))) (fun _ hk => hk.2) (.slice Ja xx.length Ij)) (fun _ hk => hk.2) (.int .i64 1)) (fun _ hk => hk.2) (.int .i64 0)) (fun _ hk => hk.2) (.int .i64 1)) (fun _ hk => hk.2) (.slice CZ RO.length CP)) (fun _ hk => ⟨hk.1.1.1.1.1.1, hk.1.2⟩), by (with_reducible skip); exact Kd.aH (Kd.dN (p := ⟨mg, 4, none⟩) (Kd.dN (p := ⟨mg, 3, none⟩) (Kd.dN (p := ⟨mg, 2, none⟩) (Kd.dN (p := ⟨mg, 1, none⟩) (Kd.dN (p := ⟨mg, 0, none⟩) (Kd.aH Xq.out (fun k_ hk => (⟨hk, hk.2.2⟩ : _ ∧ k_ ≠ mg))) (fun _ hk => hk.2) (.slice Ja xx.length Ij)) (fun _ hk => hk.2) (.int .i64 1)) (fun _ hk => hk.2) (.int .i64 0)) (fun _ hk => hk.2) (.int .i64 1)) (fun _ hk => hk.2) (.slice CZ RO.length CP)) (fun _ hk => ⟨hk.1.1, hk.1.2.1⟩), by repeat ((with_reducible first | exact HB.out | refine dJ ?_ abp.out))⟩
def kT.f (a0 : Int) (l1 : List (S27)) : Option ((List (S66)) × Int × Int × Int × (List (List (S27)))) := (gI.f).bind fun ui => (if 0 ≤ a0 then (if a0 < (ui.2.2.2.2.length : Int) then (some (ui.1, ui.2.1, ui.2.2.1, ui.2.2.2.1, (ui.2.2.2.2.set (a0 : Int).toNat l1))) else (none)) else (none))
set_option maxHeartbeats 8000000 in
set_option maxRecDepth 100000 in
theorem kT.calls (a0 : Int) (P1_ : Nat → Prop) (A1 : Option Addr) (c1 : Nat) (l1 : List (S27)) (r1 : List (S66)) (r2 : Int) (r3 : Int) (r4 : Int) (r5 : List (List (S27))) (w : World) (hs1 : Kd.V k27 27 w w.heap.size (fun k_ => P1_ k_) (.slice A1 l1.length c1) l1) (h : kT.f a0 l1 = some (r1, r2, r3, r4, r5)) :
 Calls Try.prog 49 #[.int .i64 a0, .slice A1 l1.length c1] w fun e w' => ∃ v0_ v4_ : Value, e = .returned (.agg #[v0_, .int .i64 r2, .int .i64 r3, .int .i64 r4, v4_]) ∧ Kd.N k66 66 w' w.heap.size (fun k_ => (P1_ k_ ∨ w.heap.size ≤ k_) ∧ some k_ ≠ (v4_ : Value).ownBlock) v0_ r1 ∧ Kd.N (Kd.slice 27 k27) 39 w' w.heap.size (fun k_ => (P1_ k_ ∨ w.heap.size ≤ k_) ∧ some k_ ≠ (v0_ : Value).ownBlock) v4_ r5 ∧ Below w.heap.size w w' := by
 have hu25 := Try.underlying25; have HO1 := aa.mk (show Kd.V k27 27 w w.heap.size (fun k_ => (P1_ k_ ∨ w.heap.size ≤ k_)) (.slice A1 l1.length c1) l1 from Kd.dZ hs1 (fun k_ hk => .inl hk)); have HB := aa.mk (Below.refl w.heap.size w); have H : ((gI.f).bind fun ui => (if 0 ≤ a0 then (if a0 < (ui.2.2.2.2.length : Int) then (some (ui.1, ui.2.1, ui.2.2.1, ui.2.2.2.1, (ui.2.2.2.2.set (a0 : Int).toNat l1))) else (none)) else (none))) = some (r1, r2, r3, r4, r5) := h; clear h; replace H := Option.bind_eq_some_iff.mp H; obtain ⟨⟨qf, xw, zg, Am, qL⟩, A30, H⟩ := H; dsimp only at H; have A3 := aa.mk A30; clear A30; by_cases c4 : 0 ≤ a0
 ·rw [if_pos c4] at H; have EZ : decide (0 ≤ a0) = true := decide_eq_true c4; clear c4; by_cases c5 : a0 < (qL.length : Int)
  ·rw [if_pos c5] at H; have Et : decide (a0 < (qL.length : Int)) = true := decide_eq_true c5; clear c5; obtain ⟨abZ, O1⟩ : ∃ y_ : List (List (S27)), y_ = (qL.set (a0 : Int).toNat l1) := ⟨_, rfl⟩; (replace H : (some (qf, xw, zg, Am, abZ)) = some (r1, r2, r3, r4, r5) := by (rw [O1]; with_reducible exact H)); have ac0 := aa.mk O1; clear O1; simp only [Option.some.injEq, Prod.mk.injEq] at H; obtain ⟨rfl, rfl, rfl, rfl, rfl⟩ := H; go_enter Try.func49, Try.ntmps49; (go_wp2_with (first | ((with_reducible refine dL (N := 4) rfl ?_); refine eG ?hg (N := 4) ?hd (cs := #[.slice none 0 0, .int .i64 0, .int .i64 0, .int .i64 0, .slice none 0 0]) (t := 25) ?hr ?_; (case hd => rfl); (case hg => rfl); (case hr => (go_simp; done)); intro kE hg w7 hbox hb; replace HO1 := aa.mk (Kd.Fb (Kd.Co (vU HO1.out) kE (Nat.le_of_eq hg.symm)) hb); have rY := aa.mk (hbox); have ai7 := aa.mk ((by rw [hg]; exact (aK (by exact HB.out)) : w.heap.size ≤ kE)); have adf := aa.mk ((by rw [hg]; exact (aK (by exact HB.out)) : w.heap.size ≤ kE)); replace HB := aa.mk (bn (by exact HB.out) hb); clear hb hbox hg) | ((with_reducible refine bC (f := 48) rfl ?_); refine fA (some 6) rfl rfl Try.func48 (by kernel_rfl) rfl #[] rfl (by (simp only [List.map_toArray, List.map_cons, List.map_nil]); done) ?_; (with_reducible refine (gI.calls  qf xw zg Am qL _ A3.out).mono ?_); rintro e w8 ⟨agP, agy, rfl, ho0, ho1, hb⟩; refine ⟨_, rfl, ?_⟩; replace HO1 := aa.mk (Kd.dZ (Kd.Jg (Kd.Jg (Kd.aa1 (vU HO1.out) hb) (Kd.mO ho0)) (Kd.mO ho1)) (fun _ h_ => h_.1)); have Ak := aa.mk (Kd.mR (Kd.aH (ok' := fun k_ => (P1_ k_ ∨ w.heap.size ≤ k_) ∧ some k_ ≠ (agy : Value).ownBlock ∧ k_ ≠ kE) ho0 (fun k_ hk_ => ⟨(.inr (Nat.le_trans (aK (by exact HB.out)) hk_.1)), hk_.2, (Kd.jU (g := kE) (o := .cells #[.slice none 0 0, .int .i64 0, .int .i64 0, .int .i64 0, .slice none 0 0] 25 (0, 0)) (bU rY.out) k_ hk_.1)⟩)) (aK (by exact HB.out))); have vk := aa.mk (Kd.mR (Kd.aH (ok' := fun k_ => (P1_ k_ ∨ w.heap.size ≤ k_) ∧ some k_ ≠ (agP : Value).ownBlock ∧ k_ ≠ kE) ho1 (fun k_ hk_ => ⟨(.inr (Nat.le_trans (aK (by exact HB.out)) hk_.1)), hk_.2, (Kd.jU (g := kE) (o := .cells #[.slice none 0 0, .int .i64 0, .int .i64 0, .int .i64 0, .slice none 0 0] 25 (0, 0)) (bU rY.out) k_ hk_.1)⟩)) (aK (by exact HB.out))); replace rY := aa.mk (aN (bU rY.out) hb); replace HB := aa.mk (bn (by exact HB.out) hb); clear hb; clear ho0; (clear ho1)) | ((with_reducible refine dL (N := 5) rfl ?_); refine eG ?hg (N := 5) ?hd (cs := #[.slice none 0 0, .int .i64 0, .int .i64 0, .int .i64 0, .slice none 0 0]) (t := 25) ?hr ?_; (case hd => rfl); (case hg => rfl); (case hr => (go_simp; done)); intro jA hg w9 hbox hb; replace HO1 := aa.mk (Kd.Fb (Kd.Co (vU HO1.out) jA (Nat.le_of_eq hg.symm)) hb); replace Ak := aa.mk (Kd.fQ (Kd.nI (nU Ak.out) jA (Nat.le_of_eq hg.symm)) hb); replace vk := aa.mk (Kd.fQ (Kd.nI (nU vk.out) jA (Nat.le_of_eq hg.symm)) hb); have Ah := aa.mk (hbox); have ajg := aa.mk ((by rw [hg]; exact (aK (by exact HB.out)) : w.heap.size ≤ jA)); have ZU := aa.mk ((by rw [hg]; exact (aK (by exact HB.out)) : w.heap.size ≤ jA)); replace HB := aa.mk (bn (by exact HB.out) hb); have rF := aa.mk ((by rw [hg]; exact Nat.ne_of_lt (bY (g := kE) (o := .cells #[.slice none 0 0, .int .i64 0, .int .i64 0, .int .i64 0, .slice none 0 0] 25 (0, 0)) (bU rY.out)) : kE ≠ jA)); have LM := aa.mk ((by rw [hg]; exact Nat.ne_of_gt (bY (g := kE) (o := .cells #[.slice none 0 0, .int .i64 0, .int .i64 0, .int .i64 0, .slice none 0 0] 25 (0, 0)) (bU rY.out)) : jA ≠ kE)); replace rY := aa.mk (aN (bU rY.out) hb); clear hb hbox hg; obtain ⟨fH, fw, Ef⟩ := Kd.jS Ak.out; subst Ef; have Wj := LM.out; have WO := rF.out; obtain ⟨D5, EI, Kz, aeR, aex, EH, EY, Kh, adU, ae5⟩ := cells5 Ah.out; obtain ⟨Gf, vT, ahT⟩ := Kd.jS vk.out; subst ahT) | ((with_reducible refine xQ (t := 25) (p := 5) rfl ?_); refine vW (t := 25) (p := 5) (v := ?vo_w14) (w1 := (((((w9.setCell ⟨jA, 0, none⟩ (.slice fH qf.length fw)).setCell ⟨jA, 1, none⟩ (.int .i64 xw)).setCell ⟨jA, 2, none⟩ (.int .i64 zg)).setCell ⟨jA, 3, none⟩ (.int .i64 Am)).setCell ⟨jA, 4, none⟩ (.slice Gf qL.length vT))) ?hg ?ho ?hn ?hr ?_; (case ho => rfl); (case hg => rfl); (case hn => rfl); (case hr => (go_simp; done)); intro w14 hw; replace HO1 : aa (Kd.V k27 27 w14 w.heap.size (fun k_ => (P1_ k_ ∨ w.heap.size ≤ k_) ∧ some k_ ≠ (.slice fH qf.length fw : Value).ownBlock ∧ some k_ ≠ (.slice Gf qL.length vT : Value).ownBlock ∧ k_ ≠ kE ∧ k_ ≠ jA) (.slice A1 l1.length c1) l1) := ⟨(by rw [hw]; exact (vU (Kd.dZ (Kd.wK (p := ⟨jA, 4, none⟩) (Kd.wK (p := ⟨jA, 3, none⟩) (Kd.wK (p := ⟨jA, 2, none⟩) (Kd.wK (p := ⟨jA, 1, none⟩) (Kd.wK (p := ⟨jA, 0, none⟩) (Kd.dZ HO1.out (fun k_ hk => (⟨hk, hk.2⟩ : _ ∧ k_ ≠ jA))) (fun _ hk => hk.2) (.slice fH qf.length fw)) (fun _ hk => hk.2) (.int .i64 xw)) (fun _ hk => hk.2) (.int .i64 zg)) (fun _ hk => hk.2) (.int .i64 Am)) (fun _ hk => hk.2) (.slice Gf qL.length vT)) (fun _ hk => ⟨hk.1.1.1.1.1, ⟨hk.1.1.1.2, ⟨hk.1.1.2, ⟨hk.1.1.1.1.2, hk.1.2⟩⟩⟩⟩))))⟩; replace Ak : aa (Kd.N k66 66 w14 w.heap.size (fun k_ => (P1_ k_ ∨ w.heap.size ≤ k_) ∧ some k_ ≠ (.slice Gf qL.length vT : Value).ownBlock ∧ k_ ≠ kE ∧ k_ ≠ jA) (.slice fH qf.length fw) qf) := ⟨(by rw [hw]; exact (nU (Kd.aH (Kd.dN (p := ⟨jA, 4, none⟩) (Kd.dN (p := ⟨jA, 3, none⟩) (Kd.dN (p := ⟨jA, 2, none⟩) (Kd.dN (p := ⟨jA, 1, none⟩) (Kd.dN (p := ⟨jA, 0, none⟩) (Kd.aH Ak.out (fun k_ hk => (⟨hk, hk.2⟩ : _ ∧ k_ ≠ jA))) (fun _ hk => hk.2) (.slice fH qf.length fw)) (fun _ hk => hk.2) (.int .i64 xw)) (fun _ hk => hk.2) (.int .i64 zg)) (fun _ hk => hk.2) (.int .i64 Am)) (fun _ hk => hk.2) (.slice Gf qL.length vT)) (fun _ hk => ⟨hk.1.1.1, ⟨hk.1.1.2.1, ⟨hk.1.1.2.2, hk.1.2⟩⟩⟩))))⟩; replace vk : aa (Kd.N (Kd.slice 27 k27) 39 w14 w.heap.size (fun k_ => (P1_ k_ ∨ w.heap.size ≤ k_) ∧ some k_ ≠ (.slice fH qf.length fw : Value).ownBlock ∧ k_ ≠ kE ∧ k_ ≠ jA) (.slice Gf qL.length vT) qL) := ⟨(by rw [hw]; exact (nU (Kd.aH (Kd.dN (p := ⟨jA, 4, none⟩) (Kd.dN (p := ⟨jA, 3, none⟩) (Kd.dN (p := ⟨jA, 2, none⟩) (Kd.dN (p := ⟨jA, 1, none⟩) (Kd.dN (p := ⟨jA, 0, none⟩) (Kd.aH vk.out (fun k_ hk => (⟨hk, hk.2⟩ : _ ∧ k_ ≠ jA))) (fun _ hk => hk.2) (.slice fH qf.length fw)) (fun _ hk => hk.2) (.int .i64 xw)) (fun _ hk => hk.2) (.int .i64 zg)) (fun _ hk => hk.2) (.int .i64 Am)) (fun _ hk => hk.2) (.slice Gf qL.length vT)) (fun _ hk => ⟨hk.1.1.1, ⟨hk.1.1.2.1, ⟨hk.1.1.2.2, hk.1.2⟩⟩⟩))))⟩; replace rY : aa (w14.heap[kE]? = some (.cells #[.slice none 0 0, .int .i64 0, .int .i64 0, .int .i64 0, .slice none 0 0] 25 (0, 0))) := ⟨(by rw [hw]; exact (by (with_reducible skip); refine bA ?_ rF.out _; (with_reducible skip); refine bA ?_ rF.out _; (with_reducible skip); refine bA ?_ rF.out _; (with_reducible skip); refine bA ?_ rF.out _; (with_reducible skip); refine bA ?_ rF.out _; (with_reducible skip); exact rY.out))⟩; replace Ah : aa (w14.heap[jA]? = some (.cells #[.slice fH qf.length fw, .int .i64 xw, .int .i64 zg, .int .i64 Am, .slice Gf qL.length vT] 25 (0, 0))) := ⟨(by rw [hw]; exact (by (with_reducible skip); refine dm (cs := #[.slice fH qf.length fw, .int .i64 xw, .int .i64 zg, .int .i64 Am, .slice none 0 0]) ?_ 4 _ rfl; (with_reducible skip); refine dm (cs := #[.slice fH qf.length fw, .int .i64 xw, .int .i64 zg, .int .i64 0, .slice none 0 0]) ?_ 3 _ rfl; (with_reducible skip); refine dm (cs := #[.slice fH qf.length fw, .int .i64 xw, .int .i64 0, .int .i64 0, .slice none 0 0]) ?_ 2 _ rfl; (with_reducible skip); refine dm (cs := #[.slice fH qf.length fw, .int .i64 0, .int .i64 0, .int .i64 0, .slice none 0 0]) ?_ 1 _ rfl; (with_reducible skip); refine dm (cs := #[.slice none 0 0, .int .i64 0, .int .i64 0, .int .i64 0, .slice none 0 0]) ?_ 0 _ rfl; (with_reducible skip); exact Ah.out))⟩; replace HB : aa (Below w.heap.size w w14) := ⟨(by rw [hw]; exact (by repeat ((with_reducible first | exact HB.out | refine dJ ?_ ZU.out))))⟩; clear hw; obtain ⟨Sj, VX, SA, aeL, ad4, Vx, QM, SN, aft, adM⟩ := cells5 Ah.out; have p6 : 0 ≤ (a0 : Int) := of_decide_eq_true (by with_reducible assumption); have q6 : (a0 : Int) < ((qL.length : Int) : Int) := of_decide_eq_true (by with_reducible assumption); obtain ⟨go6, co6, eo6, gb6, gl6, cl6, HG6⟩ := Kd.XF vk.out (by omega); (cases eo6); have GB6 := aa.mk gb6; have GG6 := aa.mk HG6; clear gb6 gl6 HG6; obtain ⟨ce6, hcl6, hM6, abF, hfr6⟩ := Kd.Jo vk.out [] (a0 : Int) p6 q6; obtain ⟨aiR, ail, rfl, akf, ajq⟩ := Kd.qw hM6; have ab5 := abF 0 _ rfl; have hf6_0 := hfr6 0; (simp only [show ((Kd.slice 27 k27)).sz = 1 from rfl, Nat.mul_one, Nat.add_zero] at ab5); (simp only [show ((Kd.slice 27 k27)).sz = 1 from rfl, Nat.mul_one, Nat.add_zero] at hf6_0); clear hcl6 abF hfr6 hM6; replace p6 := eq_true p6; replace q6 := eq_true q6; have HX16 := aa.mk (show Kd.N (Kd.slice 27 k27) 39 w14 w.heap.size (fun k_ => (P1_ k_ ∨ w.heap.size ≤ k_) ∧ some k_ ≠ (.slice fH qf.length fw : Value).ownBlock ∧ k_ ≠ kE ∧ k_ ≠ jA) (.slice (some ⟨go6, 0, none⟩) qL.length vT) qL from (nU vk.out)); obtain ⟨ce16, hcl16, hM16, Ov, hfr16⟩ := Kd.Jo HX16.out [] (a0 : Int) (of_decide_eq_true (by with_reducible assumption)) (by have h_ : (a0 : Int) < ((qL.length : Int) : Int) := of_decide_eq_true (by with_reducible assumption); exact h_); obtain ⟨agq, agE, rfl, agA, agV⟩ := Kd.qw hM16; have HP16 := Kd.aaf HX16.out (a0 : Int) (of_decide_eq_true (by with_reducible assumption)) (by have h_ : (a0 : Int) < ((qL.length : Int) : Int) := of_decide_eq_true (by with_reducible assumption); exact h_) (seg := [.slice A1 l1.length c1]) (j := 0) hcl16 Ov (show 1 ≤ 1 from by decide) (x' := l1) (Kd.oG (Kd.Cv (Kd.dZ (ok' := (fun k_ => ((fun k_ => (P1_ k_ ∨ w.heap.size ≤ k_) ∧ some k_ ≠ (.slice fH qf.length fw : Value).ownBlock ∧ k_ ≠ kE ∧ k_ ≠ jA)) k_ ∧ k_ ≠ go6)) (HO1.out) (fun k_ hk => ⟨⟨hk.1, ⟨hk.2.1, ⟨hk.2.2.2.1, hk.2.2.2.2⟩⟩⟩, fun e_ => (hk.2.2.1) (by rw [e_]; rfl)⟩))).2.1 (Kd.V_F (Kd.dZ (ok' := (fun k_ => ((fun k_ => (P1_ k_ ∨ w.heap.size ≤ k_) ∧ some k_ ≠ (.slice fH qf.length fw : Value).ownBlock ∧ k_ ≠ kE ∧ k_ ≠ jA)) k_ ∧ k_ ≠ go6)) (HO1.out) (fun k_ hk => ⟨⟨hk.1, ⟨hk.2.1, ⟨hk.2.2.2.1, hk.2.2.2.2⟩⟩⟩, fun e_ => (hk.2.2.1) (by rw [e_]; rfl)⟩)))) (fun _ hk => hk); have XV := Ov 0 _ rfl; (simp only [show ((Kd.slice 27 k27)).sz = 1 from rfl, Nat.mul_one, Nat.add_zero] at XV); have hf16_0 := hfr16 0; (simp only [show ((Kd.slice 27 k27)).sz = 1 from rfl, Nat.mul_one, Nat.add_zero] at hf16_0); clear hcl16 Ov hfr16 hM16; (simp only [show ((Kd.slice 27 k27)).sz = 1 from rfl, Nat.mul_one, Nat.add_zero] at HP16)) | ((with_reducible refine xQ (t := 39) (p := 11) rfl ?_); refine vW (t := 39) (p := 11) (v := ?vo_w17) (w1 := (w14.setCell ⟨go6, (a0 : Int).toNat, none⟩ (.slice A1 l1.length c1))) ?hg ?ho ?hn ?hr ?_; (case ho => rfl); (case hg => rfl); (case hn => rfl); (case hr => (go_simp; done)); intro w17 hw; have hg : w14.grownBy w17 (some go6) := (by rw [hw]; exact HP16.2); have hp_ : Kd.N (Kd.slice 27 k27) 39 w17 w.heap.size (fun k_ => (P1_ k_ ∨ w.heap.size ≤ k_) ∧ some k_ ≠ (.slice fH qf.length fw : Value).ownBlock ∧ k_ ≠ kE ∧ k_ ≠ jA) (.slice (some ⟨go6, 0, none⟩) qL.length vT) abZ := (by rw [hw, ac0.out]; exact HP16.1); clear HP16; replace HO1 := aa.mk (Kd.qM (v := (.slice (some ⟨go6, 0, none⟩) qL.length vT)) (v1 := (.slice (some ⟨go6, 0, none⟩) qL.length vT)) (ok := (fun k_ => (P1_ k_ ∨ w.heap.size ≤ k_) ∧ some k_ ≠ (.slice fH qf.length fw : Value).ownBlock ∧ k_ ≠ kE ∧ k_ ≠ jA)) (vU (Kd.dZ HO1.out (fun _ hk => ⟨⟨hk.1, ⟨hk.2.1, ⟨hk.2.2.2.1, hk.2.2.2.2⟩⟩⟩, hk.2.2.1⟩))) hg (.inl rfl)); replace rY := aa.mk (dI (bU rY.out) hg (Kd.wm vk.out rY.out (by decide))); replace Ak := aa.mk (Kd.iY (v := (.slice (some ⟨go6, 0, none⟩) qL.length vT)) (v1 := (.slice (some ⟨go6, 0, none⟩) qL.length vT)) (ok := (fun k_ => (P1_ k_ ∨ w.heap.size ≤ k_) ∧ k_ ≠ kE ∧ k_ ≠ jA)) (nU (Kd.aH Ak.out (fun _ hk => ⟨⟨hk.1, ⟨hk.2.2.1, hk.2.2.2⟩⟩, hk.2.1⟩))) hg (.inl rfl)); replace Ah := aa.mk (dI (bU Ah.out) hg (Kd.wm vk.out Ah.out (by decide))); replace vk := aa.mk (hp_); replace HB := aa.mk ((by rw [hw]; exact dJ (HB.out) GB6.out : Below w.heap.size w w17)); clear hg hw hp_; obtain ⟨SC, UJ, U9, QA, UN, RA, RF, Q3, QT, Vj⟩ := cells5 Ah.out; obtain ⟨aeq, aey, aeJ, adV, afI, afi, afs, aeY, ae8, afj⟩ := cells5 rY.out))); refine bodyPost_ret (results_cell_row rfl _ _ kE 25 #[.slice fH qf.length fw, .int .i64 xw, .int .i64 zg, .int .i64 Am, .slice (some ⟨go6, 0, none⟩) qL.length vT] (0, 0) _ rfl (by (with_reducible skip); refine dm (cs := #[.slice fH qf.length fw, .int .i64 xw, .int .i64 zg, .int .i64 Am, .slice none 0 0]) ?_ 4 _ rfl; (with_reducible skip); refine dm (cs := #[.slice fH qf.length fw, .int .i64 xw, .int .i64 zg, .int .i64 0, .slice none 0 0]) ?_ 3 _ rfl; (with_reducible skip); refine dm (cs := #[.slice fH qf.length fw, .int .i64 xw, .int .i64 0, .int .i64 0, .slice none 0 0]) ?_ 2 _ rfl; (with_reducible skip); refine dm (cs := #[.slice fH qf.length fw, .int .i64 0, .int .i64 0, .int .i64 0, .slice none 0 0]) ?_ 1 _ rfl; (with_reducible skip); refine dm (cs := #[.slice none 0 0, .int .i64 0, .int .i64 0, .int .i64 0, .slice none 0 0]) ?_ 0 _ rfl; (with_reducible skip); exact rY.out) Try.underlying25 rfl (by kernel_rfl)) rfl ?_; exact ⟨_, _, by rfl, by (with_reducible skip); exact Kd.aH (Kd.dN (p := ⟨kE, 4, none⟩) (Kd.dN (p := ⟨kE, 3, none⟩) (Kd.dN (p := ⟨kE, 2, none⟩) (Kd.dN (p := ⟨kE, 1, none⟩) (Kd.dN (p := ⟨kE, 0, none⟩) (Kd.aH Ak.out (fun k_ hk => (⟨hk, hk.1.2.1⟩ : _ ∧ k_ ≠ kE))) (fun _ hk => hk.2) (.slice fH qf.length fw)) (fun _ hk => hk.2) (.int .i64 xw)) (fun _ hk => hk.2) (.int .i64 zg)) (fun _ hk => hk.2) (.int .i64 Am)) (fun _ hk => hk.2) (.slice (some ⟨go6, 0, none⟩) qL.length vT)) (fun _ hk => ⟨hk.1.1.1, hk.1.2⟩), by (with_reducible skip); exact Kd.aH (Kd.dN (p := ⟨kE, 4, none⟩) (Kd.dN (p := ⟨kE, 3, none⟩) (Kd.dN (p := ⟨kE, 2, none⟩) (Kd.dN (p := ⟨kE, 1, none⟩) (Kd.dN (p := ⟨kE, 0, none⟩) (Kd.aH vk.out (fun k_ hk => (⟨hk, hk.2.2.1⟩ : _ ∧ k_ ≠ kE))) (fun _ hk => hk.2) (.slice fH qf.length fw)) (fun _ hk => hk.2) (.int .i64 xw)) (fun _ hk => hk.2) (.int .i64 zg)) (fun _ hk => hk.2) (.int .i64 Am)) (fun _ hk => hk.2) (.slice (some ⟨go6, 0, none⟩) qL.length vT)) (fun _ hk => ⟨hk.1.1, hk.1.2.1⟩), by repeat ((with_reducible first | exact HB.out | refine dJ ?_ adf.out))⟩
  ·rw [if_neg c5] at H; exact absurd H (by simp)
 ·rw [if_neg c4] at H; exact absurd H (by simp)
end Go.Proofs.Ytihedeofkhapiaa.Pr
end
section
namespace Go.Proofs.Ytihedeofkhapiaa.Pr
open Go.RowKit Go.Proofs.YtihedeofkhapiaaW.PrintWords Go.Proofs.YtihedeofkhapiaaW.PrintLast Go.Proofs.YtihedeofkhapiaaW.PrintMore
def Dv (s0_0 s0_1 : Int) : Int := Go.bits .xor .u64 (Go.bits .xor .u64 (Go.bits .xor .u64 (Go.bits .xor .u64 s0_0 (IntKind.u64.wrap (s0_0 * 8388608))) s0_1) ((Go.bits .xor .u64 s0_0 (IntKind.u64.wrap (s0_0 * 8388608))) / 131072)) (s0_1 / 67108864)
def fG.f (s0_0 : Int) (s0_1 : Int) : Option (Int × Int × Int) := if Go.bits .or .u64 s0_1 (Dv s0_0 s0_1) = 0 then some (IntKind.u64.wrap (1 + s0_1), s0_1, 1) else some (IntKind.u64.wrap (Dv s0_0 s0_1 + s0_1), s0_1, Dv s0_0 s0_1)
def BS (s0_0 s0_1 : Int) : Int × Int := (s0_1, if Go.bits .or .u64 s0_1 (Dv s0_0 s0_1) = 0 then 1 else Dv s0_0 s0_1)
theorem OO (a b : Int) : ∃ r, fG.f a b = some (r, (BS a b).1, (BS a b).2) := by
 unfold fG.f BS; split
 ·exact ⟨_, rfl⟩
 ·exact ⟨_, rfl⟩
theorem JC {P : Program} {c : Code} {Q : Exit → Act → World → Prop} {a : Act} {w0 w W : World} {g : Nat} {x y : Int} (hI : aD w0 W g x y) (hB : Below w0.heap.size w0 W) (hK : ak w W g none)
 (k : ∀ W', aD w0 W' g x y → Below w0.heap.size w0 W' → ak w W' g none → Code.wp P c Q a W') : Code.wp P c Q a W := k W hI hB hK
set_option maxHeartbeats 8000000 in
set_option maxRecDepth 100000 in
theorem fG.calls (g : Nat) (s0_0 : Int) (s0_1 : Int) (r1 : Int) (r2 : Int) (r3 : Int) (w0 w : World) (hI : aD w0 w g s0_0 s0_1) (hB : Below w0.heap.size w0 w) (h : fG.f s0_0 s0_1 = some (r1, r2, r3)) :
 Calls Try.prog 53 #[.pointer (some ⟨g, 0, none⟩)] w fun e w' => e = .returned (.int .u64 r1) ∧ aD w0 w' g r2 r3 ∧ Below w0.heap.size w0 w' ∧ ak w w' g none := by
 have HI0 := aa.mk hI; have HK := aa.mk (ak.refl w g none); have HB := aa.mk hB; obtain ⟨HGz3, hgz3⟩ := hI; have PK := zN HGz3; have M7 := zt HGz3; have Nc := bf HGz3 0; have OX := bf HGz3 1; clear HGz3 hgz3 hB; simp only [fG.f] at h; have Hh := aa.mk h; clear h; go_enter Try.func53, Try.ntmps53; go_wp2; go_quiet (fail); go_wp2; obtain ⟨X, hX⟩ : ∃ X, X = Dv s0_0 s0_1 := ⟨_, rfl⟩; rw [show (Go.bits .xor .u64 (Go.bits .xor .u64 (Go.bits .xor .u64 (Go.bits .xor .u64 s0_0 (IntKind.u64.wrap (s0_0 * 8388608))) s0_1) ((Go.bits .xor .u64 s0_0 (IntKind.u64.wrap (s0_0 * 8388608))) / 131072)) (s0_1 / 67108864)) = X from hX.symm]; rw [← hX] at Hh; clear hX; refine JC (x := s0_1) (y := X) (w0 := w0) (w := w) (g := g) ?_ ?_ ?_ ?_
 ·exact aD.Pf (aD.acE (aD.drewN HI0.out _) _) _
 ·exact dJ (dJ (fI HB.out _) (aD.ge HI0.out)) (aD.ge HI0.out)
 ·exact ak.QB (ak.QB (uH HK.out _) _ _) _ _
 intro W hI2 hB2 hK2; clear PK M7 Nc OX HI0 HB HK; have HI := aa.mk hI2; have HB := aa.mk hB2; have HK := aa.mk hK2; obtain ⟨HGz3, hgz3⟩ := hI2; have PK := zN HGz3; have M7 := zt HGz3; have Nc := bf HGz3 0; have OX := bf HGz3 1; clear HGz3 hgz3 hB2 hK2; by_cases c2 : Go.bits .or .u64 s0_1 X = 0
 ·have h := Hh.out; rw [if_pos c2] at h; have Ji : (Go.bits .or .u64 s0_1 X == 0) = true := beq_iff_eq.mpr c2; clear c2 Hh; simp only [Option.some.injEq, Prod.mk.injEq] at h; obtain ⟨rfl, rfl, rfl⟩ := h; go_quiet (fail); go_wp2
  go_ret
  exact ⟨rfl, aD.Pf (aD.drewN HI.out _) _, dJ (fI HB.out _) (aD.ge HI.out), ak.QB (uH HK.out _) _ _⟩
 ·have h := Hh.out; rw [if_neg c2] at h; have Ji : (Go.bits .or .u64 s0_1 X == 0) = false := beq_eq_false_iff_ne.mpr c2; clear c2 Hh; simp only [Option.some.injEq, Prod.mk.injEq] at h; obtain ⟨rfl, rfl, rfl⟩ := h; go_quiet (fail); go_wp2
  go_ret
  exact ⟨rfl, aD.drewN HI.out _, fI HB.out _, uH HK.out _⟩
end Go.Proofs.Ytihedeofkhapiaa.Pr
end
section
namespace Go.Proofs.Ytihedeofkhapiaa.Pr
open Go.RowKit Go.Proofs.YtihedeofkhapiaaW.PrintWords Go.Proofs.YtihedeofkhapiaaW.PrintLast Go.Proofs.YtihedeofkhapiaaW.PrintMore
attribute [local go_sem] nP nM oZ pE mi mq nL nJ
def bq.f (s0_0 : Int) (s0_1 : Int) (a1 : Int) : Option (Int × Int × Int) := if a1 < 2 then (some (0, s0_0, s0_1)) else ((fG.f s0_0 s0_1).bind fun BV => (if (IntKind.u64.wrap (a1)) = 0 then (none) else (some (wrap64 (Int.tmod (BV.1 / 2048) (IntKind.u64.wrap (a1))), BV.2.1, BV.2.2))))
set_option maxHeartbeats 8000000 in
set_option maxRecDepth 100000 in
theorem bq.calls (g : Nat) (s0_0 : Int) (s0_1 : Int) (a1 : Int) (r1 : Int) (r2 : Int) (r3 : Int) (w0 w : World) (hI : aD w0 w g s0_0 s0_1) (hB : Below w0.heap.size w0 w) (h : bq.f s0_0 s0_1 a1 = some (r1, r2, r3)) :
 Calls Try.prog 33 #[.pointer (some ⟨g, 0, none⟩), .int .i64 a1] w fun e w' => e = .returned (.int .i64 r1) ∧ aD w0 w' g r2 r3 ∧ Below w0.heap.size w0 w' ∧ ak w w' g none := by
 have HI0 := aa.mk hI; have HK := aa.mk (ak.refl w g none); have HL := aa.mk hB.size; clear hI; have HW0 := aa.mk hB.size; have HB := aa.mk hB; clear hB; have H : (if a1 < 2 then (some (0, s0_0, s0_1)) else ((fG.f s0_0 s0_1).bind fun BV => (if (IntKind.u64.wrap (a1)) = 0 then (none) else (some (wrap64 (Int.tmod (BV.1 / 2048) (IntKind.u64.wrap (a1))), BV.2.1, BV.2.2))))) = some (r1, r2, r3) := h; clear h; by_cases c3 : a1 < 2
 ·rw [if_pos c3] at H; have xz : decide (a1 < 2) = true := decide_eq_true c3; clear c3; simp only [Option.some.injEq, Prod.mk.injEq] at H; obtain ⟨rfl, rfl, rfl⟩ := H; go_enter Try.func33, Try.ntmps33; go_wp2
  go_ret
  exact ⟨by rfl, by exact HI0.out, by exact HB.out, by exact HK.out⟩
 ·rw [if_neg c3] at H; have xz : decide (a1 < 2) = false := decide_eq_false c3; clear c3; replace H := Option.bind_eq_some_iff.mp H; obtain ⟨⟨ahI, ag9, af3⟩, A40, H⟩ := H; dsimp only at H; have A4 := aa.mk A40; clear A40; by_cases c5 : (IntKind.u64.wrap (a1)) = 0
  ·rw [if_pos c5] at H; exact absurd H (by simp)
  ·rw [if_neg c5] at H; have Et : ((IntKind.u64.wrap (a1)) == 0) = false := beq_eq_false_iff_ne.mpr c5; have Qe : ((IntKind.u64.wrap (a1)) != 0) = true := bne_iff_ne.mpr c5; simp only [Option.some.injEq, Prod.mk.injEq] at H; obtain ⟨rfl, rfl, rfl⟩ := H; go_enter Try.func33, Try.ntmps33; go_wp2_with (((with_reducible refine bC (f := 53) rfl ?_); refine fA (some 8) rfl rfl Try.func53 (by kernel_rfl) rfl #[.pointer (some ⟨g, 0, none⟩)] rfl (by (simp only [List.map_toArray, List.map_cons, List.map_nil]); rfl) ?_; (with_reducible refine (fG.calls g s0_0 s0_1 ahI ag9 af3 w0 _ ?side1 ?side2 A4.out).mono ?_); (case side1 => exact HI0.out); (case side2 => exact HB.out); rintro e w6 ⟨rfl, hi, hb, hk⟩; refine ⟨_, rfl, ?_⟩; replace HK := aa.mk (ak.trans (by exact HK.out) hk (.inl rfl)); replace HB := aa.mk (hb); replace HI0 := aa.mk (hi); clear hb; clear hk; (clear hi)))
   go_ret
   exact ⟨by rfl, by exact HI0.out, by exact HB.out, by exact HK.out⟩
def dR.f (s0_0 : Int) (s0_1 : Int) (a1 : Int) (a2 : Int) : Option (Bool × Int × Int) := (bq.f s0_0 s0_1 a2).bind fun BM => (some (decide (BM.1 < a1), BM.2.1, BM.2.2))
set_option maxHeartbeats 8000000 in
set_option maxRecDepth 100000 in
theorem dR.calls (g : Nat) (s0_0 : Int) (s0_1 : Int) (a1 : Int) (a2 : Int) (r1 : Bool) (r2 : Int) (r3 : Int) (w0 w : World) (hI : aD w0 w g s0_0 s0_1) (hB : Below w0.heap.size w0 w) (h : dR.f s0_0 s0_1 a1 a2 = some (r1, r2, r3)) :
 Calls Try.prog 32 #[.pointer (some ⟨g, 0, none⟩), .int .i64 a1, .int .i64 a2] w fun e w' => e = .returned (.bool r1) ∧ aD w0 w' g r2 r3 ∧ Below w0.heap.size w0 w' ∧ ak w w' g none := by
 have HI0 := aa.mk hI; have HK := aa.mk (ak.refl w g none); have HL := aa.mk hB.size; clear hI; have HW0 := aa.mk hB.size; have HB := aa.mk hB; clear hB; have H : ((bq.f s0_0 s0_1 a2).bind fun BM => (some (decide (BM.1 < a1), BM.2.1, BM.2.2))) = some (r1, r2, r3) := h; clear h; replace H := Option.bind_eq_some_iff.mp H; obtain ⟨⟨ahb, ahE, ah5⟩, A40, H⟩ := H; dsimp only at H; have A4 := aa.mk A40; clear A40; simp only [Option.some.injEq, Prod.mk.injEq] at H; obtain ⟨rfl, rfl, rfl⟩ := H; go_enter Try.func32, Try.ntmps32; go_wp2_with (((with_reducible refine bC (f := 33) rfl ?_); refine fA (some 9) rfl rfl Try.func33 (by kernel_rfl) rfl #[.pointer (some ⟨g, 0, none⟩), .int .i64 a2] rfl (by (simp only [List.map_toArray, List.map_cons, List.map_nil]); rfl) ?_; (with_reducible refine (bq.calls g s0_0 s0_1 a2 ahb ahE ah5 w0 _ ?side1 ?side2 A4.out).mono ?_); (case side1 => exact HI0.out); (case side2 => exact HB.out); rintro e w5 ⟨rfl, hi, hb, hk⟩; refine ⟨_, rfl, ?_⟩; replace HK := aa.mk (ak.trans (by exact HK.out) hk (.inl rfl)); replace HB := aa.mk (hb); replace HI0 := aa.mk (hi); clear hb; clear hk; (clear hi)))
 go_ret
 exact ⟨by rfl, by exact HI0.out, by exact HB.out, by exact HK.out⟩
def dx.f (s0_0 : Int) (s0_1 : Int) (a1 : Int) (a2 : Int) : Option (Int × Int × Int) := (bq.f s0_0 s0_1 (wrap64 ((wrap64 (a2 - a1)) + 1))).bind fun Bc => (some (wrap64 (a1 + Bc.1), Bc.2.1, Bc.2.2))
set_option maxHeartbeats 8000000 in
set_option maxRecDepth 100000 in
theorem dx.calls (g : Nat) (s0_0 : Int) (s0_1 : Int) (a1 : Int) (a2 : Int) (r1 : Int) (r2 : Int) (r3 : Int) (w0 w : World) (hI : aD w0 w g s0_0 s0_1) (hB : Below w0.heap.size w0 w) (h : dx.f s0_0 s0_1 a1 a2 = some (r1, r2, r3)) :
 Calls Try.prog 50 #[.pointer (some ⟨g, 0, none⟩), .int .i64 a1, .int .i64 a2] w fun e w' => e = .returned (.int .i64 r1) ∧ aD w0 w' g r2 r3 ∧ Below w0.heap.size w0 w' ∧ ak w w' g none := by
 have HI0 := aa.mk hI; have HK := aa.mk (ak.refl w g none); have HL := aa.mk hB.size; clear hI; have HW0 := aa.mk hB.size; have HB := aa.mk hB; clear hB; have H : ((bq.f s0_0 s0_1 (wrap64 ((wrap64 (a2 - a1)) + 1))).bind fun Bc => (some (wrap64 (a1 + Bc.1), Bc.2.1, Bc.2.2))) = some (r1, r2, r3) := h; clear h; replace H := Option.bind_eq_some_iff.mp H; obtain ⟨⟨ahc, agL, ahz⟩, A40, H⟩ := H; dsimp only at H; have A4 := aa.mk A40; clear A40; simp only [Option.some.injEq, Prod.mk.injEq] at H; obtain ⟨rfl, rfl, rfl⟩ := H; go_enter Try.func50, Try.ntmps50; go_wp2_with (((with_reducible refine bC (f := 33) rfl ?_); refine fA (some 13) rfl rfl Try.func33 (by kernel_rfl) rfl #[.pointer (some ⟨g, 0, none⟩), .int .i64 (wrap64 ((wrap64 (a2 - a1)) + 1))] rfl (by (simp only [List.map_toArray, List.map_cons, List.map_nil]); rfl) ?_; (with_reducible refine (bq.calls g s0_0 s0_1 (wrap64 ((wrap64 (a2 - a1)) + 1)) ahc agL ahz w0 _ ?side1 ?side2 A4.out).mono ?_); (case side1 => exact HI0.out); (case side2 => exact HB.out); rintro e w5 ⟨rfl, hi, hb, hk⟩; refine ⟨_, rfl, ?_⟩; replace HK := aa.mk (ak.trans (by exact HK.out) hk (.inl rfl)); replace HB := aa.mk (hb); replace HI0 := aa.mk (hi); clear hb; clear hk; (clear hi)))
 go_ret
 exact ⟨by rfl, by exact HI0.out, by exact HB.out, by exact HK.out⟩
mutual
def aC.l0 : Nat → Int → Int → Int → Int → Int → Int → List (S86) → Option (Int × Int × (List (S86)) × Int × Int)
 | 0, _, _, _, _, _, _, _ => none
 | k + 1, x7, x8, lC, lF, yL, xV, wZ => if x8 > 0 then (aC.j1 k x7 x8 (decide (x7 < 26)) lC lF yL xV wZ) else (aC.j1 k x7 x8 false lC lF yL xV wZ)
def aC.j1 : Nat → Int → Int → Bool → Int → Int → Int → Int → List (S86) → Option (Int × Int × (List (S86)) × Int × Int)
 | 0, _, _, _, _, _, _, _, _ => none
 | k + 1, x7, x8, x27, lC, lF, yL, xV, wZ => if x27 = true then ((bq.f lC lF (mn 4 (wrap64 (26 - x7)))).bind fun ze => ((dx.f ze.2.1 ze.2.2 1 31).bind fun Bh => (if wZ.length < 8796093022208 then (aC.l0 k (wrap64 ((wrap64 (x7 + ze.1)) + 1)) (wrap64 (x8 - 1)) Bh.2.1 Bh.2.2 yL xV (wZ ++ [(⟨(wrap64 (65 + (wrap64 (x7 + ze.1)))) % 256, Bh.1⟩ : S86)])) else (none)))) else (some (yL, xV, wZ, lC, lF))
end
def aC.f (k : Nat) (s0_0 : Int) (s0_1 : Int) (a1 : Int) : Option (Int × Int × (List (S86)) × Int × Int) := (dx.f s0_0 s0_1 (-600) 300).bind fun yV => ((bq.f yV.2.1 yV.2.2 200).bind fun BL => ((dx.f BL.2.1 BL.2.2 1 a1).bind fun BR => (aC.l0 k 0 BR.1 BR.2.1 BR.2.2 yV.1 (wrap64 (yV.1 + BL.1)) ([] : List (S86)))))
theorem aC.iB : ∀ k, (∀ y0 y1 y2 y3 y4 y5 y6, LeO (aC.l0 k y0 y1 y2 y3 y4 y5 y6) (aC.l0 (k + 1) y0 y1 y2 y3 y4 y5 y6)) ∧ (∀ y0 y1 y2 y3 y4 y5 y6 y7, LeO (aC.j1 k y0 y1 y2 y3 y4 y5 y6 y7) (aC.j1 (k + 1) y0 y1 y2 y3 y4 y5 y6 y7))
 | 0 => ⟨fun _ _ _ _ _ _ _ r h => by simp [aC.l0] at h, fun _ _ _ _ _ _ _ _ r h => by simp [aC.j1] at h⟩
 | k + 1 => by
  obtain ⟨ih0, ih1⟩ := aC.iB k; refine ⟨?_, ?_⟩
  ·intro y0 y1 y2 y3 y4 y5 y6; unfold aC.l0
   repeat' first | (with_reducible exact ih1 _ _ _ _ _ _ _ _) | (with_reducible refine LeO.ite ?_ ?_)
  ·intro y0 y1 y2 y3 y4 y5 y6 y7; unfold aC.j1
   repeat' first | (with_reducible exact ih0 _ _ _ _ _ _ _) | (with_reducible exact LeO.refl _) | (with_reducible refine LeO.ite ?_ ?_) | (with_reducible refine LeO.bind ?_ (fun _ => ?_))
theorem aC.mono : ∀ a0 a1 a2 k, LeO (aC.f k a0 a1 a2) (aC.f (k + 1) a0 a1 a2) := by
 intro a0 a1 a2 k; obtain ⟨ih0, ih1⟩ := aC.iB k; unfold aC.f
 repeat' first | (with_reducible exact ih0 _ _ _ _ _ _ _) | (with_reducible exact LeO.refl _) | (with_reducible refine LeO.bind ?_ (fun _ => ?_))
def aC.T8 : Bool × List (List Nat × List Nat) := (true, [([], []), ([0], [0]), ([], []), ([2], [2]), ([3], [3]), ([], []), ([5], [5]), ([4, 6], [4, 6]), ([7], [7]), ([1, 8, 6], [1, 8]), ([0, 1, 2, 3, 4, 5, 6, 7, 8, 9], []), ([10, 9, 9, 0, 1, 2, 3, 4, 5, 6, 7, 8, 9], [9, 10])])
def aC.B8 : List Nat := [0, 1, 0, 4, 12, 0, 32, 124, 252, 511, 1023, 2047]
theorem aC.XD : oo .any (opsOf Try.f51 8) = aC.T8 := by kernel_rfl
theorem aC.NJ : nE aC.T8.2 aC.B8 = true := by kernel_rfl
set_option maxHeartbeats 8000000 in
set_option maxRecDepth 100000 in
theorem aC.calls (k : Nat) (g : Nat) (s0_0 : Int) (s0_1 : Int) (a1 : Int) (r1 : Int) (r2 : Int) (r3 : List (S86)) (r4 : Int) (r5 : Int) (w0 w : World) (hI : aD w0 w g s0_0 s0_1) (hB : Below w0.heap.size w0 w) (h : aC.f k s0_0 s0_1 a1 = some (r1, r2, r3, r4, r5)) :
 Calls Try.prog 51 #[.pointer (some ⟨g, 0, none⟩), .int .i64 a1] w fun e w' => ∃ v2_ : Value, e = .returned (.agg #[.int .i64 r1, .int .i64 r2, v2_]) ∧ Kd.R k86 86 w' w.heap.size (fun _ => True) v2_ r3 ∧ aD w0 w' g r4 r5 ∧ Below w0.heap.size w0 w' ∧ ak w w' g none := by
 have hu66 := Try.underlying66; have hu63 := Try.underlying63; have hu86 := Try.underlying86; have HI0 := aa.mk hI; have HK := aa.mk (ak.refl w g none); have HL := aa.mk hB.size; clear hI; have HW0 := aa.mk hB.size; have HB := aa.mk hB; clear hB; have H : ((dx.f s0_0 s0_1 (-600) 300).bind fun yV => ((bq.f yV.2.1 yV.2.2 200).bind fun BL => ((dx.f BL.2.1 BL.2.2 1 a1).bind fun BR => (aC.l0 k 0 BR.1 BR.2.1 BR.2.2 yV.1 (wrap64 (yV.1 + BL.1)) ([] : List (S86)))))) = some (r1, r2, r3, r4, r5) := h; clear h; replace H := Option.bind_eq_some_iff.mp H; obtain ⟨⟨pI, adB, aaw⟩, A30, H⟩ := H; dsimp only at H; have A3 := aa.mk A30; clear A30; replace H := Option.bind_eq_some_iff.mp H; obtain ⟨⟨yf, Ti, Vh⟩, A40, H⟩ := H; dsimp only at H; have A4 := aa.mk A40; clear A40; replace H := Option.bind_eq_some_iff.mp H; obtain ⟨⟨abS, acJ, aaG⟩, A50, H⟩ := H; dsimp only at H; have A5 := aa.mk A50; clear A50; have H' := aa.mk H; clear H; go_enter Try.func51, Try.ntmps51; (go_wp2_with (first | ((with_reducible refine dL (N := 4) rfl ?_); refine eG ?hg (N := 4) ?hd (cs := #[.int .i64 0, .int .i64 0, .slice none 0 0]) (t := 66) ?hr ?_; (case hd => rfl); (case hg => rfl); (case hr => (go_simp; done)); intro qX hg w6 hbox hb; replace HB := aa.mk (bn (by exact HB.out) hb); have lG := aa.mk (hbox); have ZY := aa.mk ((by rw [hg]; exact (cZ (w := w) (g := g) (row := none) (by exact HK.out)) : w.heap.size ≤ qX)); have abe := aa.mk ((Nat.le_trans HW0.out (by rw [hg]; exact (cZ (w := w) (g := g) (row := none) (by exact HK.out)) : w.heap.size ≤ qX) : w0.heap.size ≤ qX)); replace HK := aa.mk (ak.trans (by exact HK.out) (ak.of_below hb g none) (.inl rfl)); have Kl := aa.mk ((by rw [hg]; exact Nat.ne_of_lt (aD.lt (show aD w0 _ g s0_0 s0_1 from by exact HI0.out)) : g ≠ qX)); have xc := aa.mk ((by rw [hg]; exact Nat.ne_of_gt (aD.lt (show aD w0 _ g s0_0 s0_1 from by exact HI0.out)) : qX ≠ g)); replace HI0 := aa.mk (aD.below (by exact HI0.out) hb); clear hb hbox hg) | ((with_reducible refine bC (f := 50) rfl ?_); refine fA (some 11) rfl rfl Try.func50 (by kernel_rfl) rfl #[.pointer (some ⟨g, 0, none⟩), .int .i64 (-600), .int .i64 300] rfl (by (simp only [List.map_toArray, List.map_cons, List.map_nil]); rfl) ?_; (with_reducible refine (dx.calls g s0_0 s0_1 (-600) 300 pI adB aaw w0 _ ?side1 ?side2 A3.out).mono ?_); (case side1 => exact HI0.out); (case side2 => exact HB.out); rintro e w7 ⟨rfl, hi, hb, hk⟩; refine ⟨_, rfl, ?_⟩; replace lG := aa.mk (ak.blk hk (bU lG.out) xc.out (by simp)); replace HK := aa.mk (ak.trans (by exact HK.out) hk (.inl rfl)); replace HB := aa.mk (hb); replace HI0 := aa.mk (hi); clear hb; clear hk; (clear hi)) | ((with_reducible refine bC (f := 33) rfl ?_); refine fA (some 15) rfl rfl Try.func33 (by kernel_rfl) rfl #[.pointer (some ⟨g, 0, none⟩), .int .i64 200] rfl (by (simp only [List.map_toArray, List.map_cons, List.map_nil]); rfl) ?_; (with_reducible refine (bq.calls g adB aaw 200 yf Ti Vh w0 _ ?side1 ?side2 A4.out).mono ?_); (case side1 => exact HI0.out); (case side2 => exact HB.out); rintro e w8 ⟨rfl, hi, hb, hk⟩; refine ⟨_, rfl, ?_⟩; replace lG := aa.mk (ak.blk hk (bU lG.out) xc.out (by simp)); replace HK := aa.mk (ak.trans (by exact HK.out) hk (.inl rfl)); replace HB := aa.mk (hb); replace HI0 := aa.mk (hi); clear hb; clear hk; (clear hi)) | ((with_reducible refine dL (N := 6) rfl ?_); refine eG ?hg (N := 6) ?hd (cs := #[.int .i64 0, .int .i64 0, .slice none 0 0]) (t := 66) ?hr ?_; (case hd => rfl); (case hg => rfl); (case hr => (go_simp; done)); intro rT hg w9 hbox hb; replace HB := aa.mk (bn (by exact HB.out) hb); have ku := aa.mk (hbox); have Xb := aa.mk ((by rw [hg]; exact (cZ (w := w) (g := g) (row := none) (by exact HK.out)) : w.heap.size ≤ rT)); have Xl := aa.mk ((Nat.le_trans HW0.out (by rw [hg]; exact (cZ (w := w) (g := g) (row := none) (by exact HK.out)) : w.heap.size ≤ rT) : w0.heap.size ≤ rT)); replace HK := aa.mk (ak.trans (by exact HK.out) (ak.of_below hb g none) (.inl rfl)); have qc := aa.mk ((by rw [hg]; exact Nat.ne_of_lt (bY (g := qX) (o := .cells #[.int .i64 0, .int .i64 0, .slice none 0 0] 66 (0, 0)) (bU lG.out)) : qX ≠ rT)); have zw := aa.mk ((by rw [hg]; exact Nat.ne_of_gt (bY (g := qX) (o := .cells #[.int .i64 0, .int .i64 0, .slice none 0 0] 66 (0, 0)) (bU lG.out)) : rT ≠ qX)); replace lG := aa.mk (aN (bU lG.out) hb); have AX := aa.mk ((by rw [hg]; exact Nat.ne_of_lt (aD.lt (show aD w0 _ g Ti Vh from by exact HI0.out)) : g ≠ rT)); have zn := aa.mk ((by rw [hg]; exact Nat.ne_of_gt (aD.lt (show aD w0 _ g Ti Vh from by exact HI0.out)) : rT ≠ g)); replace HI0 := aa.mk (aD.below (by exact HI0.out) hb); clear hb hbox hg; have ajS := zw.out; have ajl := qc.out; have Wj := zn.out; have WO := AX.out; obtain ⟨D5, EI, Kz, EH, EY, Kh⟩ := cells3 ku.out) | ((with_reducible refine bC (f := 50) rfl ?_); refine fA (some 21) rfl rfl Try.func50 (by kernel_rfl) rfl #[.pointer (some ⟨g, 0, none⟩), .int .i64 1, .int .i64 a1] rfl (by (simp only [List.map_toArray, List.map_cons, List.map_nil]); rfl) ?_; (with_reducible refine (dx.calls g Ti Vh 1 a1 abS acJ aaG w0 _ ?side1 ?side2 A5.out).mono ?_); (case side1 => repeat ((with_reducible first | exact HI0.out | refine aD.far ?_ AX.out _))); (case side2 => repeat ((with_reducible first | exact HB.out | refine dJ ?_ Xl.out))); rintro e w13 ⟨rfl, hi, hb, hk⟩; refine ⟨_, rfl, ?_⟩; replace lG := aa.mk (ak.blk hk (g' := qX) (o := .cells #[.int .i64 0, .int .i64 0, .slice none 0 0] 66 (0, 0)) (by (with_reducible skip); refine bA ?_ qc.out _; (with_reducible skip); refine bA ?_ qc.out _; (with_reducible skip); refine bA ?_ qc.out _; (with_reducible skip); exact lG.out) xc.out (by simp)); replace ku := aa.mk (ak.blk hk (g' := rT) (o := .cells #[.int .i64 pI, .int .i64 (wrap64 (pI + yf)), .slice none 0 0] 66 (0, 0)) (by (with_reducible skip); refine dm (cs := #[.int .i64 pI, .int .i64 (wrap64 (pI + yf)), .slice none 0 0]) ?_ 2 _ rfl; (with_reducible skip); refine dm (cs := #[.int .i64 pI, .int .i64 0, .slice none 0 0]) ?_ 1 _ rfl; (with_reducible skip); refine dm (cs := #[.int .i64 0, .int .i64 0, .slice none 0 0]) ?_ 0 _ rfl; (with_reducible skip); exact ku.out) zn.out (by simp)); replace HK := aa.mk (ak.trans (by repeat ((with_reducible first | exact HK.out | refine mE ?_ Xb.out _))) hk (.inl rfl)); replace HB := aa.mk (hb); replace HI0 := aa.mk (hi); clear hb; clear hk; (clear hi)))); (go_loopg [7, 8] k (fun kq v7 v8 w' => ∃ (xy : Int) (CS : Int) (jJ : Int) (jG : Int) (ll : List (S86)) (rf : Value), v7 = .int .i64 xy ∧ v8 = .int .i64 CS ∧ aa (aC.l0 kq xy CS jJ jG pI (wrap64 (pI + yf)) ll = some (r1, r2, r3, r4, r5)) ∧ aa (kq ≤ k) ∧ aa (Kd.R k86 86 w' w.heap.size (fun _ => True) rf ll) ∧ aa (w'.heap[qX]? = some (.cells #[.int .i64 0, .int .i64 0, (.slice none 0 0)] 66 (0, 0))) ∧ aa (w'.heap[rT]? = some (.cells #[.int .i64 pI, .int .i64 (wrap64 (pI + yf)), rf] 66 (0, 0))) ∧ aa (aD w0 w' g jJ jG) ∧ aa (ak w w' g none) ∧ aa (Below w0.heap.size w0 w'))); case atStart => exact ⟨(0), (abS), (acJ), (aaG), (([] : List (S86))), (.slice none 0 0), (by rfl), (by rfl), H', ⟨Nat.le_refl _⟩, ⟨by exact Kd.vZ _ _ _ _ _⟩, ⟨by (with_reducible skip); exact lG.out⟩, ⟨by (with_reducible skip); exact ku.out⟩, ⟨by exact HI0.out⟩, ⟨by exact HK.out⟩, ⟨by exact HB.out⟩⟩
 case round =>
  clear H' D5 EI Kz EH EY Kh; obtain ⟨xy, CS, jJ, jG, ll, rf, rfl, rfl, HA, HK1, iT, lG, ku, HI0, HK, HB⟩ := hrel
  cases gk with
  | zero => exact absurd HA.out (by simp [aC.l0])
  | succ k1 =>
   have H := HA.out; clear HA; simp only [aC.l0] at H; have Ym := aa.mk H; clear H; (go_upto_region 5 with (fail)); go_cut [27] (fun v27 wc => ∃ (kq : Nat) (Fj : Bool), v27 = .bool Fj ∧ aa (aC.j1 kq xy CS Fj jJ jG pI (wrap64 (pI + yf)) ll = some (r1, r2, r3, r4, r5)) ∧ aa (kq ≤ k1) ∧ aa (Kd.R k86 86 wc w.heap.size (fun _ => True) rf ll) ∧ aa (wc.heap[qX]? = some (.cells #[.int .i64 0, .int .i64 0, (.slice none 0 0)] 66 (0, 0))) ∧ aa (wc.heap[rT]? = some (.cells #[.int .i64 pI, .int .i64 (wrap64 (pI + yf)), rf] 66 (0, 0))) ∧ aa (aD w0 wc g jJ jG) ∧ aa (ak w wc g none) ∧ aa (Below w0.heap.size w0 wc))
   case first =>
    have H := Ym.out; clear Ym; by_cases c15 : CS > 0
    ·rw [if_pos c15] at H; have Xd : decide (0 < CS) = true := decide_eq_true c15; clear c15; (skip); have H' := aa.mk H; clear H; go_wp2; go_meet; case rel => exact ⟨_, (decide (xy < 26)), (by rfl), H', ⟨by have := HK1.out; omega⟩, ⟨by (with_reducible skip); exact iT.out⟩, ⟨by (with_reducible skip); exact lG.out⟩, ⟨by (with_reducible skip); exact ku.out⟩, ⟨by exact HI0.out⟩, ⟨by exact HK.out⟩, ⟨by exact HB.out⟩⟩
    ·rw [if_neg c15] at H; have Xd : decide (0 < CS) = false := decide_eq_false c15; clear c15; (skip); have H' := aa.mk H; clear H; go_wp2; go_meet; case rel => exact ⟨_, (false), (by rfl), H', ⟨by have := HK1.out; omega⟩, ⟨by (with_reducible skip); exact iT.out⟩, ⟨by (with_reducible skip); exact lG.out⟩, ⟨by (with_reducible skip); exact ku.out⟩, ⟨by exact HI0.out⟩, ⟨by exact HK.out⟩, ⟨by exact HB.out⟩⟩
   case rest =>
    clear Ym; obtain ⟨kq, Fj, rfl, HA, HJ13, iT, lG, ku, HI0, HK, HB⟩ := hcut
    cases kq with
    | zero => exact absurd HA.out (by simp [aC.j1])
    | succ kj13 =>
     have H := HA.out; clear HA; simp only [aC.j1] at H; by_cases c16 : Fj = true
     ·subst c16; rw [if_pos rfl] at H; obtain ⟨TN, WZ⟩ : ∃ j_ : Int, (mn 4 (wrap64 (26 - xy))) = j_ := ⟨_, rfl⟩; (replace H : ((bq.f jJ jG (TN)).bind fun ze => ((dx.f ze.2.1 ze.2.2 1 31).bind fun Bh => (if ll.length < 8796093022208 then (aC.l0 kj13 (wrap64 ((wrap64 (xy + ze.1)) + 1)) (wrap64 (CS - 1)) Bh.2.1 Bh.2.2 pI (wrap64 (pI + yf)) (ll ++ [(⟨(wrap64 (65 + (wrap64 (xy + ze.1)))) % 256, Bh.1⟩ : S86)])) else (none)))) = some (r1, r2, r3, r4, r5) := by (rw [WZ] at H; exact H)); have agv : (if (wrap64 (26 - xy)) < 4 then (wrap64 (26 - xy)) else 4) = TN := WZ; replace H := Option.bind_eq_some_iff.mp H; obtain ⟨⟨He, XU, YK⟩, abP, H⟩ := H; dsimp only at H; have A18 := aa.mk abP; clear abP; replace H := Option.bind_eq_some_iff.mp H; obtain ⟨⟨PL, YI, Zc⟩, Pi, H⟩ := H; dsimp only at H; have A19 := aa.mk Pi; clear Pi; by_cases c20 : ll.length < 8796093022208
      ·rw [if_pos c20] at H; have Na := aa.mk c20; clear c20; obtain ⟨RH, OG⟩ : ∃ y_ : List (S86), y_ = (ll ++ [(⟨(wrap64 (65 + (wrap64 (xy + He)))) % 256, PL⟩ : S86)]) := ⟨_, rfl⟩; (replace H : (aC.l0 kj13 (wrap64 ((wrap64 (xy + He)) + 1)) (wrap64 (CS - 1)) YI Zc pI (wrap64 (pI + yf)) RH) = some (r1, r2, r3, r4, r5) := by (rw [OG]; with_reducible exact H)); have abU := aa.mk OG; clear OG; have H' := aa.mk H; clear H; (go_wp2_with (((with_reducible refine bC (f := 33) rfl ?_); refine fA (some 35) rfl rfl Try.func33 (by kernel_rfl) rfl #[.pointer (some ⟨g, 0, none⟩), .int .i64 TN] rfl (by (simp only [List.map_toArray, List.map_cons, List.map_nil]); rfl) ?_; (with_reducible refine (bq.calls g jJ jG TN He XU YK w0 _ ?side1 ?side2 A18.out).mono ?_); (case side1 => exact HI0.out); (case side2 => exact HB.out); rintro e w21 ⟨rfl, hi, hb, hk⟩; refine ⟨_, rfl, ?_⟩; replace iT := aa.mk (Kd.bW (Kd.lI (aD.apart (show aD w0 _ g jJ jG from by exact HI0.out) (rU iT.out) (by decide)) hk (fun _ h => h.2)) (fun _ h => h.1)); replace lG := aa.mk (ak.blk hk (bU lG.out) xc.out (by simp)); replace ku := aa.mk (ak.blk hk (bU ku.out) zn.out (by simp)); replace HK := aa.mk (ak.trans (by exact HK.out) hk (.inl rfl)); replace HB := aa.mk (hb); replace HI0 := aa.mk (hi); clear hb; clear hk; (clear hi)))); replace iT := aa.mk (Kd.iE iT.out); replace lG := aa.mk (fe lG.out); replace ku := aa.mk (fe ku.out); replace HI0 := aa.mk (aD.drew HI0.out); replace HK := aa.mk (qh HK.out); replace HB := aa.mk (gz HB.out); refine qR (n := 12) (S := fun w' => w'.cell? ⟨rT, 0, none⟩ = some (.int .i64 pI) ∧ w'.cell? ⟨rT, 1, none⟩ = some (.int .i64 (wrap64 (pI + yf))) ∧ w'.cell? ⟨rT, 2, none⟩ = some (rf)) (ds := [11]) #[false, false, false, false, false, false, false, false, false, false, false, false] (by kernel_rfl) rfl rfl ⟨(ai ku.out 0).trans rfl, (ai ku.out 1).trans rfl, (ai ku.out 2).trans rfl⟩ (fun cK => ?_); refine mD aC.XD aC.NJ (fun HT_ HW_ => ?_); generalize w21.drew = w22 at iT lG ku HI0 HK HB cK ⊢; refine dM (i := 0) (N := some 37) (v := ?_) (a' := ?_) #[true, false, false, false, false, false, false, false, false, false, false, false] rfl rfl (cO HT_.out (by kernel_rfl)) (fun _ _ _ h => h) (Or.inl ⟨by rfl, ?_⟩) ?_ ?_; rotate_left
       ·intro w'; go_simp; with_reducible rfl
       rotate_left
       ·simp only [Act.put, List.setIfInBounds_toArray, List.set_cons_zero, List.set_cons_succ, bG, bP]; rfl
       refine dM (i := 2) (N := some 39) (v := ?_) (a' := ?_) #[true, false, true, false, false, false, false, false, false, false, false, false] rfl rfl (cO HT_.out (by kernel_rfl)) (fun _ _ _ h => h) (Or.inl ⟨by rfl, ?_⟩) ?_ ?_; rotate_left
       ·intro w'; go_simp; with_reducible rfl
       rotate_left
       ·simp only [Act.put, List.setIfInBounds_toArray, List.set_cons_zero, List.set_cons_succ, bG, bP]; rfl
       refine dM (i := 3) (N := some 40) (v := ?_) (a' := ?_) #[true, false, true, true, false, false, false, false, false, false, false, false] rfl rfl (cO HT_.out (by kernel_rfl)) (fun _ _ _ h => h) (Or.inl ⟨by rfl, ?_⟩) ?_ ?_; rotate_left
       ·intro w'; go_simp; with_reducible rfl
       rotate_left
       ·simp only [Act.put, List.setIfInBounds_toArray, List.set_cons_zero, List.set_cons_succ, bG, bP]; rfl
       refine dM (i := 4) (N := some 41) (v := ?_) (a' := ?_) #[true, false, true, true, true, false, false, false, false, false, false, false] rfl rfl (cO HT_.out (by kernel_rfl)) (fun _ _ _ h => h) (Or.inl ⟨by rfl, ?_⟩) ?_ ?_; rotate_left
       ·intro w'; go_simp; with_reducible rfl
       rotate_left
       ·simp only [Act.put, List.setIfInBounds_toArray, List.set_cons_zero, List.set_cons_succ, bG, bP]; rfl
       refine dM (i := 5) (N := some 42) (v := ?_) (a' := ?_) #[true, false, true, true, true, true, false, false, false, false, false, false] rfl rfl (cO HT_.out (by kernel_rfl)) (fun _ _ _ h => h) (Or.inl ⟨by rfl, ?_⟩) ?_ ?_; rotate_left
       ·intro w'; go_simp; with_reducible rfl
       rotate_left
       ·simp only [Act.put, List.setIfInBounds_toArray, List.set_cons_zero, List.set_cons_succ, bG, bP]; rfl
       refine kF (i := 1) (N := some 38) (v := ?_) (a' := ?_) #[true, true, true, true, true, true, false, false, false, false, false, false] rfl rfl (gp HT_.out HW_.out (by kernel_rfl)) (fun _ _ _ h => h) (Or.inl ⟨by rfl, ?_⟩) cK ?_ ?_; rotate_left
       ·rintro w' ⟨s0, s1, s2⟩; go_simp; with_reducible rfl
       rotate_left
       ·simp only [Act.put, List.setIfInBounds_toArray, List.set_cons_zero, List.set_cons_succ, bG, bP]; rfl
       refine vD (i := 6) (N := some 43) #[true, true, true, true, true, true, true, false, false, false, false, false] rfl rfl (ko HT_.out (by kernel_rfl)) (by decide) (fun K hK => ?_); refine BC Try.func50 (by kernel_rfl) rfl #[.pointer (some ⟨g, 0, none⟩), .int .i64 1, .int .i64 31] (by rfl) rfl rfl (by (simp only [List.map_toArray, List.map_cons, List.map_nil]); rfl) ?_; (with_reducible refine (dx.calls g XU YK 1 31 PL YI Zc w0 _ ?side1 ?side2 A19.out).mono ?_); (case side1 => exact HI0.out); (case side2 => exact HB.out); rintro e w23 ⟨rfl, hi, hb, hk⟩; refine ⟨_, rfl, ?_⟩; replace iT := aa.mk (Kd.bW (Kd.lI (aD.apart (show aD w0 _ g XU YK from by exact HI0.out) (rU iT.out) (by decide)) hk (fun _ h => h.2)) (fun _ h => h.1)); replace lG := aa.mk (ak.blk hk (bU lG.out) xc.out (by simp)); replace ku := aa.mk (ak.blk hk (bU ku.out) zn.out (by simp)); replace HK := aa.mk (ak.trans (by exact HK.out) hk (.inl rfl)); replace HB := aa.mk (hb); replace HI0 := aa.mk (hi); (clear hb); (skip); (clear hk); (clear hi); refine hK.out _ _ ⟨(ai ku.out 0).trans rfl, (ai ku.out 1).trans rfl, (ai ku.out 2).trans rfl⟩ (fun cK => ?_); clear hK K; refine iG (a' := ?_) ?_ ?_; rotate_left
       ·show Act.put _ (some 43) _ = _; simp only [Act.put, List.setIfInBounds_toArray, List.set_cons_zero, List.set_cons_succ, bG, bP]; rfl
       refine dM (i := 7) (N := some 44) (v := ?_) (a' := ?_) #[true, true, true, true, true, true, true, true, false, false, false, false] rfl rfl (cO HT_.out (by kernel_rfl)) (fun _ _ _ h => h) (Or.inl ⟨by rfl, ?_⟩) ?_ ?_; rotate_left
       ·intro w'; go_simp; with_reducible rfl
       rotate_left
       ·simp only [Act.put, List.setIfInBounds_toArray, List.set_cons_zero, List.set_cons_succ, bG, bP]; rfl
       refine vD (i := 8) (N := some 45) #[true, true, true, true, true, true, true, true, true, false, false, false] rfl rfl (ko HT_.out (by kernel_rfl)) (by decide) (fun K hK => ?_); refine zJ (w1 := ?_) (v := ?_) (by rfl) rfl ?_ ?_; rotate_left 2
       ·go_simp; constructor
        ·rfl
        ·rfl
       refine hK.out _ _ ⟨(ai (dF ku.out _) 0).trans rfl, (ai (dF ku.out _) 1).trans rfl, (ai (dF ku.out _) 2).trans rfl⟩ (fun cK => ?_); clear hK K; refine iG (a' := ?_) ?_ ?_; rotate_left
       ·show Act.put _ (some 45) _ = _; simp only [Act.put, List.setIfInBounds_toArray, List.set_cons_zero, List.set_cons_succ, bG, bP]; rfl
       refine vD (i := 9) (N := some 46) #[true, true, true, true, true, true, true, true, true, true, false, false] rfl rfl (ko HT_.out (by kernel_rfl)) (by decide) (fun K hK => ?_); refine Kd.tK k86 w.heap.size (by rfl) (.tmp 38) (.tmp 45) 64 86 (.agg #[(.int .u8 0), (.int .i64 0)]) 16 rfl Try.underlying64 Yq rfl (by decide) (by omega) rf ll (⟨(wrap64 (65 + (wrap64 (xy + He)))) % 256, PL⟩ : S86) [.int .u8 ((wrap64 (65 + (wrap64 (xy + He)))) % 256), .int .i64 PL] (fun _ => True) (fun _ => False) rfl rfl ?aP (fun _ hk => hk.elim) ?aF ?aO (Below.refl _ _) ?aS ?aL ?_; (case aP => exact uZ _ _ _ (⟨(wrap64 (65 + (wrap64 (xy + He)))) % 256, PL⟩ : S86)); (case aF => exact (fun _ _ => trivial)); (case aO => exact (rU iT.out)); (case aS => exact (cZ (w := w) (g := g) (row := none) (by exact HK.out))); (case aL => have := Na.out; omega); intro akB w24 ho hb hg hat; rw [← abU.out] at ho; replace lG := aa.mk (dI (bU lG.out) hg (Kd.pQ iT.out lG.out (by decide))); replace ku := aa.mk (dI (bU ku.out) hg (Kd.pQ iT.out ku.out (by decide))); replace HI0 := aa.mk (aD.grown (by exact HI0.out) hg (aD.own_ne HI0.out iT.out (by decide))); replace HB := aa.mk (lv (by exact HB.out) HL.out hb); replace HK := aa.mk (ak.trans (by exact HK.out) (ak.nZ hg g) (Kd.uE iT.out)); have WN := aa.mk (ho); clear iT ho hb hg hat; obtain ⟨Uu, Sb, Xw⟩ := Kd.eD WN.out; (subst Xw); refine hK.out _ _ ⟨(ai ku.out 0).trans rfl, (ai ku.out 1).trans rfl, (ai ku.out 2).trans rfl⟩ (fun cK => ?_); clear hK K; refine iG (a' := ?_) ?_ ?_; rotate_left
       ·show Act.put _ (some 46) _ = _; simp only [Act.put, List.setIfInBounds_toArray, List.set_cons_zero, List.set_cons_succ, bG, bP]; rfl
       refine dM (i := 10) (N := some 47) (v := ?_) (a' := ?_) #[true, true, true, true, true, true, true, true, true, true, true, false] rfl rfl (cO HT_.out (by kernel_rfl)) (fun _ _ _ h => h) (Or.inl ⟨by rfl, ?_⟩) ?_ ?_; rotate_left
       ·intro w'; go_simp; with_reducible rfl
       rotate_left
       ·simp only [Act.put, List.setIfInBounds_toArray, List.set_cons_zero, List.set_cons_succ, bG, bP]; rfl
       refine xF (i := 11) (N := none) #[true, true, true, true, true, true, true, true, true, true, true, true] rfl rfl (ko HT_.out (by kernel_rfl)) (by decide) (fun K hK => ?_); have hs26 : w24.cell? ⟨rT, 2, none⟩ = some (rf) := (ai ku.out 2).trans rfl; have hfs26 := bf ku.out 2; have hns26_0 := qc.out; have hms26_0 := zw.out; refine yw (w1 := ?_) (by rfl) rfl ?_ ?_; rotate_left
       ·go_simp; rfl
       refine hK.out _ _ ?_; clear hK K; refine vw (pz HT_.out (by kernel_rfl)) ?_; go_wp2; go_roundg kj13; (case measure => have := HK1.out; have := HJ13.out; omega); case rel => exact ⟨(wrap64 ((wrap64 (xy + He)) + 1)), (wrap64 (CS - 1)), (YI), (Zc), (RH), (.slice Uu RH.length Sb), (by rfl), (by rfl), H', ⟨by have := HK1.out; have := HJ13.out; omega⟩, ⟨by (with_reducible skip); exact Kd.bW (Kd.gN (p := ⟨rT, 2, none⟩) (Kd.dQ WN.out ku.out (by decide)) (fun _ hk => hk.2) (.slice Uu RH.length Sb)) (fun _ hk => trivial)⟩, ⟨by (with_reducible skip); refine bA ?_ qc.out _; (with_reducible skip); exact lG.out⟩, ⟨by (with_reducible skip); refine dm (cs := #[.int .i64 pI, .int .i64 (wrap64 (pI + yf)), rf]) ?_ 2 _ rfl; (with_reducible skip); exact ku.out⟩, ⟨by repeat ((with_reducible first | exact HI0.out | refine aD.far ?_ AX.out _))⟩, ⟨by repeat ((with_reducible first | exact HK.out | refine mE ?_ Xb.out _))⟩, ⟨by repeat ((with_reducible first | exact HB.out | refine dJ ?_ Xl.out))⟩⟩
      ·rw [if_neg c20] at H; exact absurd H (by simp)
     ·replace c16 := Bool.eq_false_iff.mpr c16; subst c16; rw [if_neg (show ¬ (false = true) by decide)] at H; simp only [Option.some.injEq, Prod.mk.injEq] at H; obtain ⟨rfl, rfl, rfl, rfl, rfl⟩ := H; have aii := zw.out; have ajP := qc.out; have aj4 := zn.out; have ajz := AX.out; obtain ⟨adF, aff, afr, afb, afw, aef⟩ := cells3 ku.out; have ajQ := xc.out; have aiT := Kl.out; obtain ⟨U4, Uo, Rm, SH, Ua, UV⟩ := cells3 lG.out; obtain ⟨abd, ab2, ahk⟩ := Kd.eD iT.out; subst ahk; go_wp2; refine bodyPost_ret (results_cell_row rfl _ _ qX 66 #[.int .i64 pI, .int .i64 (wrap64 (pI + yf)), .slice abd ll.length ab2] (0, 0) _ rfl (by (with_reducible skip); refine dm (cs := #[.int .i64 pI, .int .i64 (wrap64 (pI + yf)), .slice none 0 0]) ?_ 2 _ rfl; (with_reducible skip); refine dm (cs := #[.int .i64 pI, .int .i64 0, .slice none 0 0]) ?_ 1 _ rfl; (with_reducible skip); refine dm (cs := #[.int .i64 0, .int .i64 0, .slice none 0 0]) ?_ 0 _ rfl; (with_reducible skip); exact lG.out) Try.underlying66 rfl (by kernel_rfl)) rfl ?_; exact ⟨_, by rfl, by (with_reducible skip); exact Kd.bW (Kd.gN (p := ⟨qX, 2, none⟩) (Kd.gN (p := ⟨qX, 1, none⟩) (Kd.gN (p := ⟨qX, 0, none⟩) (Kd.dQ iT.out lG.out (by decide)) (fun _ hk => hk.2) (.int .i64 pI)) (fun _ hk => hk.2) (.int .i64 (wrap64 (pI + yf)))) (fun _ hk => hk.2) (.slice abd ll.length ab2)) (fun _ hk => trivial), by repeat ((with_reducible first | exact HI0.out | refine aD.far ?_ Kl.out _)), by repeat ((with_reducible first | exact HB.out | refine dJ ?_ abe.out)), by repeat ((with_reducible first | exact HK.out | refine mE ?_ ZY.out _))⟩
def fu.f (s0_0 : Int) (s0_1 : Int) (l1 : List Int) : Option (Int × Int × Int) := if (l1.length : Int) = 0 then (some (0, s0_0, s0_1)) else ((bq.f s0_0 s0_1 (l1.length : Int)).bind fun vS => (if 0 ≤ vS.1 then (if vS.1 < (l1.length : Int) then (some (rd l1 vS.1, vS.2.1, vS.2.2)) else (none)) else (none)))
set_option maxHeartbeats 8000000 in
set_option maxRecDepth 100000 in
theorem fu.calls (g : Nat) (s0_0 : Int) (s0_1 : Int) (A1 : Option Addr) (c1 : Nat) (l1 : List Int) (r1 : Int) (r2 : Int) (r3 : Int) (w0 w : World) (hI : aD w0 w g s0_0 s0_1) (hB : Below w0.heap.size w0 w) (hr1 : Kd.C (Kd.int .i64) w A1 l1.length l1) (hc1 : l1.length ≤ c1) (hf1 : ∀ ad, A1 = some ad → 0 < l1.length → ad.block ≠ g) (h : fu.f s0_0 s0_1 l1 = some (r1, r2, r3)) :
 Calls Try.prog 52 #[.pointer (some ⟨g, 0, none⟩), .slice A1 l1.length c1] w fun e w' => e = .returned (.int .i64 r1) ∧ aD w0 w' g r2 r3 ∧ Below w0.heap.size w0 w' ∧ ak w w' g none := by
 have HR1 := aa.mk hr1; have HC1 := aa.mk hc1; clear hr1 hc1; have HI0 := aa.mk hI; have HK := aa.mk (ak.refl w g none); have HL := aa.mk hB.size; clear hI; have HW0 := aa.mk hB.size; have HB := aa.mk hB; clear hB; have H : (if (l1.length : Int) = 0 then (some (0, s0_0, s0_1)) else ((bq.f s0_0 s0_1 (l1.length : Int)).bind fun vS => (if 0 ≤ vS.1 then (if vS.1 < (l1.length : Int) then (some (rd l1 vS.1, vS.2.1, vS.2.2)) else (none)) else (none)))) = some (r1, r2, r3) := h; clear h; by_cases c3 : (l1.length : Int) = 0
 ·rw [if_pos c3] at H; have xz : ((l1.length : Int) == 0) = true := beq_iff_eq.mpr c3; have Hl : ((l1.length : Int) != 0) = false := bne_eq_false_iff_eq.mpr c3; clear c3; simp only [Option.some.injEq, Prod.mk.injEq] at H; obtain ⟨rfl, rfl, rfl⟩ := H; go_enter Try.func52, Try.ntmps52; go_wp2
  go_ret
  exact ⟨by rfl, by exact HI0.out, by exact HB.out, by exact HK.out⟩
 ·rw [if_neg c3] at H; have xz : ((l1.length : Int) == 0) = false := beq_eq_false_iff_ne.mpr c3; have Hl : ((l1.length : Int) != 0) = true := bne_iff_ne.mpr c3; (have akW : ¬ (l1 = []) := fun h_ => c3 (by rw [h_]; rfl)); replace H := Option.bind_eq_some_iff.mp H; obtain ⟨⟨FV, ahg, agd⟩, A40, H⟩ := H; dsimp only at H; have A4 := aa.mk A40; clear A40; by_cases c5 : 0 ≤ FV
  ·rw [if_pos c5] at H; have Et : decide (0 ≤ FV) = true := decide_eq_true c5; clear c5; by_cases c6 : FV < (l1.length : Int)
   ·rw [if_pos c6] at H; have aac : decide (FV < (l1.length : Int)) = true := decide_eq_true c6; clear c6; simp only [Option.some.injEq, Prod.mk.injEq] at H; obtain ⟨rfl, rfl, rfl⟩ := H; go_enter Try.func52, Try.ntmps52; go_wp2_with (((with_reducible refine bC (f := 33) rfl ?_); refine fA (some 12) rfl rfl Try.func33 (by kernel_rfl) rfl #[.pointer (some ⟨g, 0, none⟩), .int .i64 (l1.length : Int)] rfl (by (simp only [List.map_toArray, List.map_cons, List.map_nil]); rfl) ?_; (with_reducible refine (bq.calls g s0_0 s0_1 (l1.length : Int) FV ahg agd w0 _ ?side1 ?side2 A4.out).mono ?_); (case side1 => exact HI0.out); (case side2 => exact HB.out); rintro e w7 ⟨rfl, hi, hb, hk⟩; refine ⟨_, rfl, ?_⟩; replace HK := aa.mk (ak.trans (by exact HK.out) hk (.inl rfl)); replace HB := aa.mk (hb); replace HI0 := aa.mk (hi); clear hb; clear hk; clear hi; have ZB : 0 ≤ (FV : Int) := of_decide_eq_true (by with_reducible assumption); have YR : FV < (l1.length : Int) := of_decide_eq_true (by with_reducible assumption); obtain ⟨akb, e377, J9⟩ := Kd.lW HR1.out FV ZB YR; cases e377; replace J9 := zG HK.out J9 (by (rw [add_block]; exact hf1 _ rfl (by omega))); replace ZB := eq_true ZB; replace YR := eq_true YR))
    go_ret
    exact ⟨by rfl, by exact HI0.out, by exact HB.out, by exact HK.out⟩
   ·rw [if_neg c6] at H; exact absurd H (by simp)
  ·rw [if_neg c5] at H; exact absurd H (by simp)
mutual
def ag.l0 : Nat → Int → Int → Int → Int → Int → List (S66) → Int → Int → Int → Option ((List (S66)) × Int × Int × Int × (List (List (S27))) × Int × ByteArray × List Int × Int × Int)
 | 0, _, _, _, _, _, _, _, _, _ => none
 | k + 1, x2, x3, x11, lC, lF, iQ, jE, jF, jZ => if x11 > 0 then ((aC.f k lC lF x2).bind fun GJ => ((some (([(⟨(⟨GJ.1, GJ.2.1⟩ : S63), GJ.2.2.1⟩ : S66)] : List (S66)) : List (S66))).bind fun Cy => (if iQ.length + Cy.length < 3518437208883 then (ag.l0 k x2 x3 (wrap64 (x11 - 1)) GJ.2.2.2.1 GJ.2.2.2.2 (iQ ++ Cy) jE jF jZ) else (none)))) else ((bq.f lC lF (iQ.length : Int)).bind fun Dc => (if 0 ≤ Dc.1 then (if Dc.1 < (iQ.length : Int) then ((dx.f Dc.2.1 Dc.2.2 1 x3).bind fun Ba => (ag.l1 k ((ah iQ Dc.1).f1) 0 Ba.1 Ba.2.1 Ba.2.2 iQ jE jF jZ ([] : List (List (S27))) Dc.1 (⟨#[]⟩ : ByteArray) ([] : List Int))) else (none)) else (none)))
def ag.l1 : Nat → List (S86) → Int → Int → Int → Int → List (S66) → Int → Int → Int → List (List (S27)) → Int → ByteArray → List Int → Option ((List (S66)) × Int × Int × Int × (List (List (S27))) × Int × ByteArray × List Int × Int × Int)
 | 0, _, _, _, _, _, _, _, _, _, _, _, _, _ => none
 | k + 1, x13, x14, x15, lC, lF, iQ, jE, jF, jZ, kz, kJ, kD, ky => if x15 > 0 then ((bq.f lC lF (x13.length : Int)).bind fun CE => (if 0 ≤ CE.1 then (if CE.1 < (x13.length : Int) then ((bq.f CE.2.1 CE.2.2 (wrap64 (jE + 1))).bind fun Bq => ((bq.f Bq.2.1 Bq.2.2 (wrap64 (jF + 1))).bind fun wB => (ag.l2 k x13 x14 x15 ((au x13 CE.1).f1) Bq.1 wB.1 0 wB.2.1 wB.2.2 iQ jE jF jZ kz kJ kD ky ((au x13 CE.1).f0) ((au x13 CE.1).f1)))) else (none)) else (none))) else ((fu.f lC lF (([0, 0, 1, 2] : List Int))).bind fun Bj => (some (iQ, jE, jF, mn 40 (wrap64 (x14 + Bj.1)), kz, kJ, kD, ky, Bj.2.1, Bj.2.2)))
def ag.l2 : Nat → List (S86) → Int → Int → Int → Int → Int → Int → Int → Int → List (S66) → Int → Int → Int → List (List (S27)) → Int → ByteArray → List Int → Int → Int → Option ((List (S66)) × Int × Int × Int × (List (List (S27))) × Int × ByteArray × List Int × Int × Int)
 | 0, _, _, _, _, _, _, _, _, _, _, _, _, _, _, _, _, _, _, _ => none
 | k + 1, x13, x14, x15, x17, x18, x19, x20, lC, lF, iQ, jE, jF, jZ, kz, kJ, kD, ky, lN, kI => if x20 < 5 then (if 0 ≤ x20 then (if (Go.bits .and .i64 (shr .i64 kI x20) 1) = 1 then (if x18 > 0 then ((dR.f lC lF 1 3).bind fun Bz => (ag.j3 k x13 x14 x15 x17 x18 x19 x20 ((Go.bits .and .i64 (shr .i64 kI x20) 1) == 1) Bz.1 Bz.2.1 Bz.2.2 iQ jE jF jZ kz kJ kD ky lN kI)) else (ag.j3 k x13 x14 x15 x17 x18 x19 x20 ((Go.bits .and .i64 (shr .i64 kI x20) 1) == 1) false lC lF iQ jE jF jZ kz kJ kD ky lN kI)) else (ag.j3 k x13 x14 x15 x17 x18 x19 x20 ((Go.bits .and .i64 (shr .i64 kI x20) 1) == 1) false lC lF iQ jE jF jZ kz kJ kD ky lN kI)) else (none)) else ((fu.f lC lF (([0, 1, 1, 2, 3] : List Int))).bind fun Cx => (ag.l3 k x13 x14 x15 x17 ([] : List (S27)) Cx.1 Cx.2.1 Cx.2.2 iQ jE jF jZ kz kJ kD ky lN kI))
def ag.j3 : Nat → List (S86) → Int → Int → Int → Int → Int → Int → Bool → Bool → Int → Int → List (S66) → Int → Int → Int → List (List (S27)) → Int → ByteArray → List Int → Int → Int → Option ((List (S66)) × Int × Int × Int × (List (List (S27))) × Int × ByteArray × List Int × Int × Int)
 | 0, _, _, _, _, _, _, _, _, _, _, _, _, _, _, _, _, _, _, _, _, _ => none
 | k + 1, x13, x14, x15, x17, x18, x19, x20, x21, af8, lC, lF, iQ, jE, jF, jZ, kz, kJ, kD, ky, lN, kI => if af8 = true then (if 0 ≤ x20 then (if x21 = true then (ag.l2 k x13 (wrap64 (x14 + 1)) x15 (wrap64 (x17 - (shl .i64 1 x20))) (wrap64 (x18 - 1)) x19 (wrap64 (x20 + 1)) lC lF iQ jE jF jZ kz kJ kD ky lN kI) else (if x19 > 0 then ((dR.f lC lF 1 3).bind fun qH => (if qH.1 = true then (ag.l2 k x13 (wrap64 ((wrap64 (x14 + 1)) + 1)) x15 (wrap64 ((wrap64 (x17 - (shl .i64 1 x20))) + (shl .i64 1 x20))) (wrap64 (x18 - 1)) (wrap64 (x19 - 1)) (wrap64 (x20 + 1)) qH.2.1 qH.2.2 iQ jE jF jZ kz kJ kD ky lN kI) else (ag.l2 k x13 (wrap64 (x14 + 1)) x15 (wrap64 (x17 - (shl .i64 1 x20))) (wrap64 (x18 - 1)) x19 (wrap64 (x20 + 1)) qH.2.1 qH.2.2 iQ jE jF jZ kz kJ kD ky lN kI))) else (ag.l2 k x13 (wrap64 (x14 + 1)) x15 (wrap64 (x17 - (shl .i64 1 x20))) (wrap64 (x18 - 1)) x19 (wrap64 (x20 + 1)) lC lF iQ jE jF jZ kz kJ kD ky lN kI))) else (none)) else (if x21 = true then (ag.l2 k x13 x14 x15 x17 x18 x19 (wrap64 (x20 + 1)) lC lF iQ jE jF jZ kz kJ kD ky lN kI) else (if x19 > 0 then ((dR.f lC lF 1 3).bind fun ww => (if ww.1 = true then (if 0 ≤ x20 then (ag.l2 k x13 (wrap64 (x14 + 1)) x15 (wrap64 (x17 + (shl .i64 1 x20))) x18 (wrap64 (x19 - 1)) (wrap64 (x20 + 1)) ww.2.1 ww.2.2 iQ jE jF jZ kz kJ kD ky lN kI) else (none)) else (ag.l2 k x13 x14 x15 x17 x18 x19 (wrap64 (x20 + 1)) ww.2.1 ww.2.2 iQ jE jF jZ kz kJ kD ky lN kI))) else (ag.l2 k x13 x14 x15 x17 x18 x19 (wrap64 (x20 + 1)) lC lF iQ jE jF jZ kz kJ kD ky lN kI)))
def ag.l3 : Nat → List (S86) → Int → Int → Int → List (S27) → Int → Int → Int → List (S66) → Int → Int → Int → List (List (S27)) → Int → ByteArray → List Int → Int → Int → Option ((List (S66)) × Int × Int × Int × (List (List (S27))) × Int × ByteArray × List Int × Int × Int)
 | 0, _, _, _, _, _, _, _, _, _, _, _, _, _, _, _, _, _, _ => none
 | k + 1, x13, x14, x15, x17, x22, x23, lC, lF, iQ, jE, jF, jZ, kz, kJ, kD, ky, lN, kI => if x23 > 0 then ((bq.f lC lF 32).bind fun O3 => ((fu.f O3.2.1 O3.2.2 (([31, 15, O3.1] : List Int))).bind fun sU => ((some (([(⟨sU.1, Go.bits .and .i64 x17 sU.1⟩ : S27)] : List (S27)) : List (S27))).bind fun tH => (if x22.length + tH.length < 8796093022208 then (ag.l3 k x13 x14 x15 x17 (x22 ++ tH) (wrap64 (x23 - 1)) sU.2.1 sU.2.2 iQ jE jF jZ kz kJ kD ky lN kI) else (none))))) else ((some (([lN] : List Int) : List Int)).bind fun jy => (if kD.size + (strOfNums jy).size ≤ 9223372036854775807 then ((some (([x17] : List Int) : List Int)).bind fun lK => (if ky.length + lK.length < 17592186044416 then ((some (([x22] : List (List (S27))) : List (List (S27)))).bind fun tO => (if kz.length + tO.length < 5864062014805 then (ag.l1 k x13 x14 (wrap64 (x15 - 1)) lC lF iQ jE jF jZ (kz ++ tO) kJ (kD ++ (strOfNums jy)) (ky ++ lK)) else (none))) else (none))) else (none)))
end
def ag.f (k : Nat) (s0_0 : Int) (s0_1 : Int) (a1 : Int) (a2 : Int) (a3 : Int) : Option ((List (S66)) × Int × Int × Int × (List (List (S27))) × Int × ByteArray × List Int × Int × Int) := (bq.f s0_0 s0_1 3).bind fun BK => ((bq.f BK.2.1 BK.2.2 3).bind fun wo => ((dx.f wo.2.1 wo.2.2 1 a1).bind fun rJ => (ag.l0 k a2 a3 rJ.1 rJ.2.1 rJ.2.2 ([] : List (S66)) BK.1 wo.1 0)))
theorem ag.iB : ∀ k, (∀ y0 y1 y2 y3 y4 y5 y6 y7 y8, LeO (ag.l0 k y0 y1 y2 y3 y4 y5 y6 y7 y8) (ag.l0 (k + 1) y0 y1 y2 y3 y4 y5 y6 y7 y8)) ∧ (∀ y0 y1 y2 y3 y4 y5 y6 y7 y8 y9 y10 y11 y12, LeO (ag.l1 k y0 y1 y2 y3 y4 y5 y6 y7 y8 y9 y10 y11 y12) (ag.l1 (k + 1) y0 y1 y2 y3 y4 y5 y6 y7 y8 y9 y10 y11 y12)) ∧ (∀ y0 y1 y2 y3 y4 y5 y6 y7 y8 y9 y10 y11 y12 y13 y14 y15 y16 y17 y18, LeO (ag.l2 k y0 y1 y2 y3 y4 y5 y6 y7 y8 y9 y10 y11 y12 y13 y14 y15 y16 y17 y18) (ag.l2 (k + 1) y0 y1 y2 y3 y4 y5 y6 y7 y8 y9 y10 y11 y12 y13 y14 y15 y16 y17 y18)) ∧ (∀ y0 y1 y2 y3 y4 y5 y6 y7 y8 y9 y10 y11 y12 y13 y14 y15 y16 y17 y18 y19 y20, LeO (ag.j3 k y0 y1 y2 y3 y4 y5 y6 y7 y8 y9 y10 y11 y12 y13 y14 y15 y16 y17 y18 y19 y20) (ag.j3 (k + 1) y0 y1 y2 y3 y4 y5 y6 y7 y8 y9 y10 y11 y12 y13 y14 y15 y16 y17 y18 y19 y20)) ∧ (∀ y0 y1 y2 y3 y4 y5 y6 y7 y8 y9 y10 y11 y12 y13 y14 y15 y16 y17, LeO (ag.l3 k y0 y1 y2 y3 y4 y5 y6 y7 y8 y9 y10 y11 y12 y13 y14 y15 y16 y17) (ag.l3 (k + 1) y0 y1 y2 y3 y4 y5 y6 y7 y8 y9 y10 y11 y12 y13 y14 y15 y16 y17))
 | 0 => ⟨fun _ _ _ _ _ _ _ _ _ r h => by simp [ag.l0] at h, fun _ _ _ _ _ _ _ _ _ _ _ _ _ r h => by simp [ag.l1] at h, fun _ _ _ _ _ _ _ _ _ _ _ _ _ _ _ _ _ _ _ r h => by simp [ag.l2] at h, fun _ _ _ _ _ _ _ _ _ _ _ _ _ _ _ _ _ _ _ _ _ r h => by simp [ag.j3] at h, fun _ _ _ _ _ _ _ _ _ _ _ _ _ _ _ _ _ _ r h => by simp [ag.l3] at h⟩
 | k + 1 => by
  obtain ⟨ih0, ih1, ih2, ih3, ih4⟩ := ag.iB k; refine ⟨?_, ?_, ?_, ?_, ?_⟩
  ·intro y0 y1 y2 y3 y4 y5 y6 y7 y8; unfold ag.l0
   repeat' first
   | (with_reducible exact ih0 _ _ _ _ _ _ _ _ _)
   | (with_reducible exact ih1 _ _ _ _ _ _ _ _ _ _ _ _ _)
   | (with_reducible exact ih2 _ _ _ _ _ _ _ _ _ _ _ _ _ _ _ _ _ _ _)
   | (with_reducible exact ih3 _ _ _ _ _ _ _ _ _ _ _ _ _ _ _ _ _ _ _ _ _)
   | (with_reducible exact ih4 _ _ _ _ _ _ _ _ _ _ _ _ _ _ _ _ _ _)
   | (with_reducible exact aC.mono _ _ _ _)
   | (with_reducible exact LeO.refl _)
   | (with_reducible exact LeO.none _)
   | (with_reducible refine LeO.ite ?_ ?_)
   | (with_reducible refine LeO.bind ?_ (fun _ => ?_))
   | exact ih0 _ _ _ _ _ _ _ _ _
   | exact ih1 _ _ _ _ _ _ _ _ _ _ _ _ _
   | exact ih2 _ _ _ _ _ _ _ _ _ _ _ _ _ _ _ _ _ _ _
   | exact ih3 _ _ _ _ _ _ _ _ _ _ _ _ _ _ _ _ _ _ _ _ _
   | exact ih4 _ _ _ _ _ _ _ _ _ _ _ _ _ _ _ _ _ _
   | exact aC.mono _ _ _ _
   | exact LeO.none _
   | refine LeO.ite ?_ ?_
   | refine LeO.bind ?_ (fun _ => ?_)
  ·intro y0 y1 y2 y3 y4 y5 y6 y7 y8 y9 y10 y11 y12; unfold ag.l1
   repeat' first
   | (with_reducible exact ih0 _ _ _ _ _ _ _ _ _)
   | (with_reducible exact ih1 _ _ _ _ _ _ _ _ _ _ _ _ _)
   | (with_reducible exact ih2 _ _ _ _ _ _ _ _ _ _ _ _ _ _ _ _ _ _ _)
   | (with_reducible exact ih3 _ _ _ _ _ _ _ _ _ _ _ _ _ _ _ _ _ _ _ _ _)
   | (with_reducible exact ih4 _ _ _ _ _ _ _ _ _ _ _ _ _ _ _ _ _ _)
   | (with_reducible exact aC.mono _ _ _ _)
   | (with_reducible exact LeO.refl _)
   | (with_reducible exact LeO.none _)
   | (with_reducible refine LeO.ite ?_ ?_)
   | (with_reducible refine LeO.bind ?_ (fun _ => ?_))
   | exact ih0 _ _ _ _ _ _ _ _ _
   | exact ih1 _ _ _ _ _ _ _ _ _ _ _ _ _
   | exact ih2 _ _ _ _ _ _ _ _ _ _ _ _ _ _ _ _ _ _ _
   | exact ih3 _ _ _ _ _ _ _ _ _ _ _ _ _ _ _ _ _ _ _ _ _
   | exact ih4 _ _ _ _ _ _ _ _ _ _ _ _ _ _ _ _ _ _
   | exact aC.mono _ _ _ _
   | exact LeO.none _
   | refine LeO.ite ?_ ?_
   | refine LeO.bind ?_ (fun _ => ?_)
  ·intro y0 y1 y2 y3 y4 y5 y6 y7 y8 y9 y10 y11 y12 y13 y14 y15 y16 y17 y18; unfold ag.l2
   repeat' first
   | (with_reducible exact ih0 _ _ _ _ _ _ _ _ _)
   | (with_reducible exact ih1 _ _ _ _ _ _ _ _ _ _ _ _ _)
   | (with_reducible exact ih2 _ _ _ _ _ _ _ _ _ _ _ _ _ _ _ _ _ _ _)
   | (with_reducible exact ih3 _ _ _ _ _ _ _ _ _ _ _ _ _ _ _ _ _ _ _ _ _)
   | (with_reducible exact ih4 _ _ _ _ _ _ _ _ _ _ _ _ _ _ _ _ _ _)
   | (with_reducible exact aC.mono _ _ _ _)
   | (with_reducible exact LeO.refl _)
   | (with_reducible exact LeO.none _)
   | (with_reducible refine LeO.ite ?_ ?_)
   | (with_reducible refine LeO.bind ?_ (fun _ => ?_))
   | exact ih0 _ _ _ _ _ _ _ _ _
   | exact ih1 _ _ _ _ _ _ _ _ _ _ _ _ _
   | exact ih2 _ _ _ _ _ _ _ _ _ _ _ _ _ _ _ _ _ _ _
   | exact ih3 _ _ _ _ _ _ _ _ _ _ _ _ _ _ _ _ _ _ _ _ _
   | exact ih4 _ _ _ _ _ _ _ _ _ _ _ _ _ _ _ _ _ _
   | exact aC.mono _ _ _ _
   | exact LeO.none _
   | refine LeO.ite ?_ ?_
   | refine LeO.bind ?_ (fun _ => ?_)
  ·intro y0 y1 y2 y3 y4 y5 y6 y7 y8 y9 y10 y11 y12 y13 y14 y15 y16 y17 y18 y19 y20; unfold ag.j3
   repeat' first
   | (with_reducible exact ih0 _ _ _ _ _ _ _ _ _)
   | (with_reducible exact ih1 _ _ _ _ _ _ _ _ _ _ _ _ _)
   | (with_reducible exact ih2 _ _ _ _ _ _ _ _ _ _ _ _ _ _ _ _ _ _ _)
   | (with_reducible exact ih3 _ _ _ _ _ _ _ _ _ _ _ _ _ _ _ _ _ _ _ _ _)
   | (with_reducible exact ih4 _ _ _ _ _ _ _ _ _ _ _ _ _ _ _ _ _ _)
   | (with_reducible exact aC.mono _ _ _ _)
   | (with_reducible exact LeO.refl _)
   | (with_reducible exact LeO.none _)
   | (with_reducible refine LeO.ite ?_ ?_)
   | (with_reducible refine LeO.bind ?_ (fun _ => ?_))
   | exact ih0 _ _ _ _ _ _ _ _ _
   | exact ih1 _ _ _ _ _ _ _ _ _ _ _ _ _
   | exact ih2 _ _ _ _ _ _ _ _ _ _ _ _ _ _ _ _ _ _ _
   | exact ih3 _ _ _ _ _ _ _ _ _ _ _ _ _ _ _ _ _ _ _ _ _
   | exact ih4 _ _ _ _ _ _ _ _ _ _ _ _ _ _ _ _ _ _
   | exact aC.mono _ _ _ _
   | exact LeO.none _
   | refine LeO.ite ?_ ?_
   | refine LeO.bind ?_ (fun _ => ?_)
  ·intro y0 y1 y2 y3 y4 y5 y6 y7 y8 y9 y10 y11 y12 y13 y14 y15 y16 y17; unfold ag.l3
   repeat' first
   | (with_reducible exact ih0 _ _ _ _ _ _ _ _ _)
   | (with_reducible exact ih1 _ _ _ _ _ _ _ _ _ _ _ _ _)
   | (with_reducible exact ih2 _ _ _ _ _ _ _ _ _ _ _ _ _ _ _ _ _ _ _)
   | (with_reducible exact ih3 _ _ _ _ _ _ _ _ _ _ _ _ _ _ _ _ _ _ _ _ _)
   | (with_reducible exact ih4 _ _ _ _ _ _ _ _ _ _ _ _ _ _ _ _ _ _)
   | (with_reducible exact aC.mono _ _ _ _)
   | (with_reducible exact LeO.refl _)
   | (with_reducible exact LeO.none _)
   | (with_reducible refine LeO.ite ?_ ?_)
   | (with_reducible refine LeO.bind ?_ (fun _ => ?_))
   | exact ih0 _ _ _ _ _ _ _ _ _
   | exact ih1 _ _ _ _ _ _ _ _ _ _ _ _ _
   | exact ih2 _ _ _ _ _ _ _ _ _ _ _ _ _ _ _ _ _ _ _
   | exact ih3 _ _ _ _ _ _ _ _ _ _ _ _ _ _ _ _ _ _ _ _ _
   | exact ih4 _ _ _ _ _ _ _ _ _ _ _ _ _ _ _ _ _ _
   | exact aC.mono _ _ _ _
   | exact LeO.none _
   | refine LeO.ite ?_ ?_
   | refine LeO.bind ?_ (fun _ => ?_)
theorem ag.mono : ∀ a0 a1 a2 a3 a4 k, LeO (ag.f k a0 a1 a2 a3 a4) (ag.f (k + 1) a0 a1 a2 a3 a4) := by
 intro a0 a1 a2 a3 a4 k; obtain ⟨ih0, ih1, ih2, ih3, ih4⟩ := ag.iB k; unfold ag.f
 repeat' first
  | (with_reducible exact ih0 _ _ _ _ _ _ _ _ _)
  | (with_reducible exact ih1 _ _ _ _ _ _ _ _ _ _ _ _ _)
  | (with_reducible exact ih2 _ _ _ _ _ _ _ _ _ _ _ _ _ _ _ _ _ _ _)
  | (with_reducible exact ih3 _ _ _ _ _ _ _ _ _ _ _ _ _ _ _ _ _ _ _ _ _)
  | (with_reducible exact ih4 _ _ _ _ _ _ _ _ _ _ _ _ _ _ _ _ _ _)
  | (with_reducible exact aC.mono _ _ _ _)
  | (with_reducible exact LeO.refl _)
  | (with_reducible exact LeO.none _)
  | (with_reducible refine LeO.ite ?_ ?_)
  | (with_reducible refine LeO.bind ?_ (fun _ => ?_))
  | exact ih0 _ _ _ _ _ _ _ _ _
  | exact ih1 _ _ _ _ _ _ _ _ _ _ _ _ _
  | exact ih2 _ _ _ _ _ _ _ _ _ _ _ _ _ _ _ _ _ _ _
  | exact ih3 _ _ _ _ _ _ _ _ _ _ _ _ _ _ _ _ _ _ _ _ _
  | exact ih4 _ _ _ _ _ _ _ _ _ _ _ _ _ _ _ _ _ _
  | exact aC.mono _ _ _ _
  | exact LeO.none _
  | refine LeO.ite ?_ ?_
  | refine LeO.bind ?_ (fun _ => ?_)
end Go.Proofs.Ytihedeofkhapiaa.Pr
end
