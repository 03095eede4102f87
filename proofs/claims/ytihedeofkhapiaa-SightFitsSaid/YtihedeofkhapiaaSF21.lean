/- Part 21 of 36 of the proof of: SightFits: for every line, light, number and slice of numbers, the law returns true: the program tells which lines are valid, which hands and letters fit, and between which years a line was cut, as the reference does, with the same errors, and changes nothing; no condition beyond the statement's own. -/
import Derived.Test.YtihedeofkhapiaaProg
import Derived.Below
import Derived.Deep.Draws
import Derived.Deep.AppendLies
import Derived.Maps.AppendAt
import Derived.OwnWalk
import Derived.Laws.BytesArg
import Derived.Laws.MakeOwn
import Derived.Laws.OwnMore
import Derived.Deep.OwnRows
import Derived.Tactics
import Derived.Lib.ConvBytes
import Derived.Laws.Slices
import Derived.WalkKit
import Derived.KernelRfl
import Derived.RowKit3
import Derived.Deep.LoopGhost
import Derived.Deep.QuietTactic
import Derived.BigQuiet
import Derived.WideLaws
import Derived.Deep.DeepCutAuto
import Derived.Deep.CutBlock
import Derived.Deep.RegionHeld3
import Derived.Laws.Rows
import Derived.Lib.AppendStr
import Derived.ArgAppend
import Derived.Laws.IdiomCopy
import Derived.OrdersHeld
import Derived.Laws.BitsLemmas
import Derived.RowKit
import Derived.Test.YtihedeofkhapiaaSF4
import Derived.Test.YtihedeofkhapiaaSF18
import Derived.Test.YtihedeofkhapiaaSF19
import Derived.Test.YtihedeofkhapiaaSF20
set_option linter.unusedVariables false
set_option linter.unusedSimpArgs false
section
namespace Go.Proofs.Ytihedeofkhapiaa.Pr
open Go.RowKit Go.Proofs.YtihedeofkhapiaaW.PrintWords Go.Proofs.YtihedeofkhapiaaW.PrintLast Go.Proofs.YtihedeofkhapiaaW.PrintMore
attribute [local go_sem] nC nA pO oV nP nM pY qa
def adW : Option Int → Value
 | none => .nilIface
 | some c => .iface 0 (.int .i64 c)
theorem Nr : adW none = .nilIface := rfl
theorem Og (c : Int) : adW (some c) = .iface 0 (.int .i64 c) := rfl
theorem info3 : (Try.prog.info? 3).map (fun i => (i.zero, i.size, i.bytes)) = some (some (.int .i64 0), 1, 8) := by kernel_rfl
theorem info5 : (Try.prog.info? 5).map (fun i => (i.zero, i.size, i.bytes)) = some (some (.int .u8 0), 1, 1) := by kernel_rfl
theorem Yb : (Try.prog.info? 9).map (fun i => (i.zero, i.size, i.bytes)) = some (some (.string ⟨#[]⟩), 1, 16) := by kernel_rfl
theorem KQ : (Try.prog.info? 27).map (fun i => (i.zero, i.size, i.bytes)) = some (some (.agg #[(.int .i64 0), (.int .i64 0)]), 2, 16) := by kernel_rfl
theorem P8 : (Try.prog.info? 39).map (fun i => (i.zero, i.size, i.bytes)) = some (some (.slice none 0 0), 1, 24) := by kernel_rfl
theorem R9 : (Try.prog.info? 66).map (fun i => (i.zero, i.size, i.bytes)) = some (some (.agg #[(.int .i64 0), (.int .i64 0), (.slice none 0 0)]), 3, 40) := by kernel_rfl
theorem SE : (Try.prog.info? 86).map (fun i => (i.zero, i.size, i.bytes)) = some (some (.agg #[(.int .u8 0), (.int .i64 0)]), 2, 16) := by kernel_rfl
theorem Be : (Try.prog.info? 126).map (fun i => (i.zero, i.size, i.bytes)) = some (some (.agg #[(.int .i64 0), (.int .u8 0)]), 2, 16) := by kernel_rfl
structure S63 where
 f0 : Int
 f1 : Int
def z63 : S63 := ⟨(0 : Int), (0 : Int)⟩
def k63 : Kd S63 := Kd.iso (Kd.pair (Kd.int .i64) (Kd.int .i64)) (fun x : S63 => (x.f0, x.f1))
theorem Hl {w : World} {x : S63} {cs : List Value} (h : k63.K w x cs) : cs = [.int .i64 x.f0, .int .i64 x.f1] := by
 obtain ⟨_, _, rfl, rfl, rfl⟩ := h; exact rfl
theorem NT {w : World} {base : Nat} {ok : Nat → Prop} {x : S63} {cs : List Value} (h : k63.M w base ok x cs) : cs = [.int .i64 x.f0, .int .i64 x.f1] := by
 obtain ⟨_, _, rfl, rfl, rfl⟩ := h; exact rfl
theorem Ru (w : World) (x : S63)  : k63.K w x [.int .i64 x.f0, .int .i64 x.f1] := ⟨[.int .i64 x.f0], [.int .i64 x.f1], rfl, rfl, rfl⟩
theorem Tj (w : World) (base : Nat) (ok : Nat → Prop) (x : S63)  : k63.M w base ok x [.int .i64 x.f0, .int .i64 x.f1] := ⟨[.int .i64 x.f0], [.int .i64 x.f1], rfl, rfl, rfl⟩
theorem aeP (W : World) (ok : Nat → Prop) (x : S63) : Kd.FK k63 W ok x [.int .i64 x.f0, .int .i64 x.f1] := fun W2 _ => Ru W2 x
def Qd (xs : List S63) (i : Int) : S63 := xs.getD i.toNat z63
theorem aje {w : World} {A : Option Addr} {n : Nat} {xs : List S63} (h : Kd.C k63 w A n xs) (i : Int) (h0 : 0 ≤ i) (h1 : i < n) : ∃ ad , A = some ad ∧ w.cell? (ad.add (i.toNat * 2)) = some (.int .i64 (Qd xs i).f0) ∧ w.cell? ⟨(ad.add (i.toNat * 2)).block, (ad.add (i.toNat * 2)).off + 1, none⟩ = some (.int .i64 (Qd xs i).f1) := by
 obtain ⟨ad, c, e, _, hK, hc0⟩ := Kd.vX h z63 i h0 h1; have hc : ∀ j u, c[j]? = some u → w.cell? (ad.add (i.toNat * 2 + j)) = some u := hc0; obtain rfl := Hl hK; exact ⟨ad, e, hc 0 _ rfl, by rw [← qy _ _ 1 (by omega)]; exact hc 1 _ rfl⟩
structure S86 where
 f0 : Int
 f1 : Int
def z86 : S86 := ⟨(0 : Int), (0 : Int)⟩
def k86 : Kd S86 := Kd.iso (Kd.pair (Kd.int .u8) (Kd.int .i64)) (fun x : S86 => (x.f0, x.f1))
theorem RQ {w : World} {x : S86} {cs : List Value} (h : k86.K w x cs) : cs = [.int .u8 x.f0, .int .i64 x.f1] := by
 obtain ⟨_, _, rfl, rfl, rfl⟩ := h; exact rfl
theorem aa7 {w : World} {base : Nat} {ok : Nat → Prop} {x : S86} {cs : List Value} (h : k86.M w base ok x cs) : cs = [.int .u8 x.f0, .int .i64 x.f1] := by
 obtain ⟨_, _, rfl, rfl, rfl⟩ := h; exact rfl
theorem RZ (w : World) (x : S86)  : k86.K w x [.int .u8 x.f0, .int .i64 x.f1] := ⟨[.int .u8 x.f0], [.int .i64 x.f1], rfl, rfl, rfl⟩
theorem vv (w : World) (base : Nat) (ok : Nat → Prop) (x : S86)  : k86.M w base ok x [.int .u8 x.f0, .int .i64 x.f1] := ⟨[.int .u8 x.f0], [.int .i64 x.f1], rfl, rfl, rfl⟩
theorem ahm (W : World) (ok : Nat → Prop) (x : S86) : Kd.FK k86 W ok x [.int .u8 x.f0, .int .i64 x.f1] := fun W2 _ => RZ W2 x
def ak (xs : List S86) (i : Int) : S86 := xs.getD i.toNat z86
theorem nk {w : World} {A : Option Addr} {n : Nat} {xs : List S86} (h : Kd.C k86 w A n xs) (i : Int) (h0 : 0 ≤ i) (h1 : i < n) : ∃ ad , A = some ad ∧ w.cell? (ad.add (i.toNat * 2)) = some (.int .u8 (ak xs i).f0) ∧ w.cell? ⟨(ad.add (i.toNat * 2)).block, (ad.add (i.toNat * 2)).off + 1, none⟩ = some (.int .i64 (ak xs i).f1) := by
 obtain ⟨ad, c, e, _, hK, hc0⟩ := Kd.vX h z86 i h0 h1; have hc : ∀ j u, c[j]? = some u → w.cell? (ad.add (i.toNat * 2 + j)) = some u := hc0; obtain rfl := RQ hK; exact ⟨ad, e, hc 0 _ rfl, by rw [← qy _ _ 1 (by omega)]; exact hc 1 _ rfl⟩
def Lg (xs : List (List S86)) (i : Int) : (List S86) := xs.getD i.toNat ([] : List S86)
theorem ajB {w : World} {A : Option Addr} {n : Nat} {xs : List (List S86)} (h : Kd.C (Kd.slice 86 k86) w A n xs) (i : Int) (h0 : 0 ≤ i) (h1 : i < n) : ∃ ad A0 c0, A = some ad ∧ w.cell? (ad.add i.toNat) = some (.slice A0 (Lg xs i).length c0) ∧ (Lg xs i).length ≤ c0 ∧ k86.C w A0 (Lg xs i).length (Lg xs i) := by
 obtain ⟨ad, c, e, _, hK, hc0⟩ := Kd.vX h ([] : List S86) i h0 h1; have hc : ∀ j u, c[j]? = some u → w.cell? (ad.add (i.toNat * 1 + j)) = some u := hc0; obtain ⟨A0, c0, rfl, l0, g0⟩ := hK; exact ⟨ad, A0, c0, e, by have hq := hc 0 _ rfl; rwa [Nat.mul_one, Nat.add_zero] at hq, l0, g0⟩
structure S66 where
 f0 : S63
 f1 : (List S86)
def z66 : S66 := ⟨z63, ([] : List S86)⟩
def k66 : Kd S66 := Kd.iso (Kd.pair k63 (Kd.slice 86 k86)) (fun x : S66 => (x.f0, x.f1))
theorem Co {w : World} {x : S66} {cs : List Value} (h : k66.K w x cs) : ∃ A2 c2, cs = [.int .i64 x.f0.f0, .int .i64 x.f0.f1, .slice A2 x.f1.length c2] ∧ x.f1.length ≤ c2 ∧ k86.C w A2 x.f1.length x.f1 := by
 obtain ⟨_, _, rfl, s0, ⟨A2, c2, rfl, l2, g2⟩⟩ := h; obtain rfl := Hl s0; exact ⟨A2, c2, rfl, l2, g2⟩
theorem aa4 {w : World} {base : Nat} {ok : Nat → Prop} {x : S66} {cs : List Value} (h : k66.M w base ok x cs) : ∃ v2, cs = [.int .i64 x.f0.f0, .int .i64 x.f0.f1, v2] ∧ k86.R 86 w base ok v2 x.f1 := by
 obtain ⟨_, _, rfl, s0, ⟨v2, rfl, g2⟩⟩ := h; obtain rfl := NT s0; exact ⟨v2, rfl, g2⟩
theorem QM (w : World) (x : S66) {A2 : Option Addr} {c2 : Nat} (l2 : x.f1.length ≤ c2) (g2 : k86.C w A2 x.f1.length x.f1) : k66.K w x [.int .i64 x.f0.f0, .int .i64 x.f0.f1, .slice A2 x.f1.length c2] := ⟨[.int .i64 x.f0.f0, .int .i64 x.f0.f1], [.slice A2 x.f1.length c2], rfl, (Ru w x.f0 ), ⟨A2, c2, rfl, l2, g2⟩⟩
theorem UO (w : World) (base : Nat) (ok : Nat → Prop) (x : S66) {v2 : Value} (g2 : k86.R 86 w base ok v2 x.f1) : k66.M w base ok x [.int .i64 x.f0.f0, .int .i64 x.f0.f1, v2] := ⟨[.int .i64 x.f0.f0, .int .i64 x.f0.f1], [v2], rfl, (Tj w base ok x.f0 ), ⟨v2, rfl, g2⟩⟩
theorem Nw {W : World} {ok : Nat → Prop} {x : S66} {cs : List Value} (h : Kd.FK k66 W ok x cs) : ∃ A2 c2, cs = [.int .i64 x.f0.f0, .int .i64 x.f0.f1, .slice A2 x.f1.length c2] ∧ x.f1.length ≤ c2 ∧ Kd.F k86 W ok A2 x.f1.length x.f1 := by
 obtain ⟨A2, c2, rfl, l2, _⟩ := Co (Kd.qB h); exact ⟨A2, c2, rfl, l2, (fun W' hW => by obtain ⟨A2_, c2_, he, l2_, g2_⟩ := Co (h W' hW); injection (Option.some.inj (show some (Value.slice A2 x.f1.length c2) = some (Value.slice A2_ x.f1.length c2_) from congrArg (fun l => l[2]?) he)) with ha_ _ _; rw [ha_]; exact g2_)⟩
theorem Fq (W : World) (ok : Nat → Prop) (x : S66) {A2 : Option Addr} {c2 : Nat} (l2 : x.f1.length ≤ c2) (g2 : Kd.F k86 W ok A2 x.f1.length x.f1) : Kd.FK k66 W ok x [.int .i64 x.f0.f0, .int .i64 x.f0.f1, .slice A2 x.f1.length c2] := fun W2 hW => QM W2 x l2 (g2 W2 hW)
def ai (xs : List S66) (i : Int) : S66 := xs.getD i.toNat z66
theorem nH {w : World} {A : Option Addr} {n : Nat} {xs : List S66} (h : Kd.C k66 w A n xs) (i : Int) (h0 : 0 ≤ i) (h1 : i < n) : ∃ ad A2 c2, A = some ad ∧ w.cell? (ad.add (i.toNat * 3)) = some (.int .i64 (ai xs i).f0.f0) ∧ w.cell? ⟨(ad.add (i.toNat * 3)).block, (ad.add (i.toNat * 3)).off + 1, none⟩ = some (.int .i64 (ai xs i).f0.f1) ∧ w.cell? ⟨(ad.add (i.toNat * 3)).block, (ad.add (i.toNat * 3)).off + 2, none⟩ = some (.slice A2 (ai xs i).f1.length c2) ∧ (ai xs i).f1.length ≤ c2 ∧ k86.C w A2 (ai xs i).f1.length (ai xs i).f1 := by
 obtain ⟨ad, c, e, _, hK, hc0⟩ := Kd.vX h z66 i h0 h1; have hc : ∀ j u, c[j]? = some u → w.cell? (ad.add (i.toNat * 3 + j)) = some u := hc0; obtain ⟨A2, c2, rfl, l2, g2⟩ := Co hK; exact ⟨ad, A2, c2, e, hc 0 _ rfl, by rw [← qy _ _ 1 (by omega)]; exact hc 1 _ rfl, by rw [← qy _ _ 2 (by omega)]; exact hc 2 _ rfl, l2, g2⟩
structure S27 where
 f0 : Int
 f1 : Int
def z27 : S27 := ⟨(0 : Int), (0 : Int)⟩
def k27 : Kd S27 := Kd.iso (Kd.pair (Kd.int .i64) (Kd.int .i64)) (fun x : S27 => (x.f0, x.f1))
theorem IU {w : World} {x : S27} {cs : List Value} (h : k27.K w x cs) : cs = [.int .i64 x.f0, .int .i64 x.f1] := by
 obtain ⟨_, _, rfl, rfl, rfl⟩ := h; exact rfl
theorem aa3 {w : World} {base : Nat} {ok : Nat → Prop} {x : S27} {cs : List Value} (h : k27.M w base ok x cs) : cs = [.int .i64 x.f0, .int .i64 x.f1] := by
 obtain ⟨_, _, rfl, rfl, rfl⟩ := h; exact rfl
theorem OG (w : World) (x : S27)  : k27.K w x [.int .i64 x.f0, .int .i64 x.f1] := ⟨[.int .i64 x.f0], [.int .i64 x.f1], rfl, rfl, rfl⟩
theorem wZ (w : World) (base : Nat) (ok : Nat → Prop) (x : S27)  : k27.M w base ok x [.int .i64 x.f0, .int .i64 x.f1] := ⟨[.int .i64 x.f0], [.int .i64 x.f1], rfl, rfl, rfl⟩
theorem ahw (W : World) (ok : Nat → Prop) (x : S27) : Kd.FK k27 W ok x [.int .i64 x.f0, .int .i64 x.f1] := fun W2 _ => OG W2 x
def eG (xs : List S27) (i : Int) : S27 := xs.getD i.toNat z27
theorem wD {w : World} {A : Option Addr} {n : Nat} {xs : List S27} (h : Kd.C k27 w A n xs) (i : Int) (h0 : 0 ≤ i) (h1 : i < n) : ∃ ad , A = some ad ∧ w.cell? (ad.add (i.toNat * 2)) = some (.int .i64 (eG xs i).f0) ∧ w.cell? ⟨(ad.add (i.toNat * 2)).block, (ad.add (i.toNat * 2)).off + 1, none⟩ = some (.int .i64 (eG xs i).f1) := by
 obtain ⟨ad, c, e, _, hK, hc0⟩ := Kd.vX h z27 i h0 h1; have hc : ∀ j u, c[j]? = some u → w.cell? (ad.add (i.toNat * 2 + j)) = some u := hc0; obtain rfl := IU hK; exact ⟨ad, e, hc 0 _ rfl, by rw [← qy _ _ 1 (by omega)]; exact hc 1 _ rfl⟩
def dn (xs : List (List S27)) (i : Int) : (List S27) := xs.getD i.toNat ([] : List S27)
theorem xI {w : World} {A : Option Addr} {n : Nat} {xs : List (List S27)} (h : Kd.C (Kd.slice 27 k27) w A n xs) (i : Int) (h0 : 0 ≤ i) (h1 : i < n) : ∃ ad A0 c0, A = some ad ∧ w.cell? (ad.add i.toNat) = some (.slice A0 (dn xs i).length c0) ∧ (dn xs i).length ≤ c0 ∧ k27.C w A0 (dn xs i).length (dn xs i) := by
 obtain ⟨ad, c, e, _, hK, hc0⟩ := Kd.vX h ([] : List S27) i h0 h1; have hc : ∀ j u, c[j]? = some u → w.cell? (ad.add (i.toNat * 1 + j)) = some u := hc0; obtain ⟨A0, c0, rfl, l0, g0⟩ := hK; exact ⟨ad, A0, c0, e, by have hq := hc 0 _ rfl; rwa [Nat.mul_one, Nat.add_zero] at hq, l0, g0⟩
def vP (xs : List (List Int)) (i : Int) : (List Int) := xs.getD i.toNat ([] : List Int)
theorem acF {w : World} {A : Option Addr} {n : Nat} {xs : List (List Int)} (h : Kd.C (Kd.slice 5 (Kd.int .u8)) w A n xs) (i : Int) (h0 : 0 ≤ i) (h1 : i < n) : ∃ ad A0 c0, A = some ad ∧ w.cell? (ad.add i.toNat) = some (.slice A0 (vP xs i).length c0) ∧ (vP xs i).length ≤ c0 ∧ (Kd.int .u8).C w A0 (vP xs i).length (vP xs i) := by
 obtain ⟨ad, c, e, _, hK, hc0⟩ := Kd.vX h ([] : List Int) i h0 h1; have hc : ∀ j u, c[j]? = some u → w.cell? (ad.add (i.toNat * 1 + j)) = some u := hc0; obtain ⟨A0, c0, rfl, l0, g0⟩ := hK; exact ⟨ad, A0, c0, e, by have hq := hc 0 _ rfl; rwa [Nat.mul_one, Nat.add_zero] at hq, l0, g0⟩
structure mQ where
 f0 : Int
 f1 : Int
def Rx : mQ := ⟨(0 : Int), (0 : Int)⟩
def rT : Kd mQ := Kd.iso (Kd.pair (Kd.int .i64) (Kd.int .u8)) (fun x : mQ => (x.f0, x.f1))
theorem Ny {w : World} {x : mQ} {cs : List Value} (h : rT.K w x cs) : cs = [.int .i64 x.f0, .int .u8 x.f1] := by
 obtain ⟨_, _, rfl, rfl, rfl⟩ := h; exact rfl
theorem aam {w : World} {base : Nat} {ok : Nat → Prop} {x : mQ} {cs : List Value} (h : rT.M w base ok x cs) : cs = [.int .i64 x.f0, .int .u8 x.f1] := by
 obtain ⟨_, _, rfl, rfl, rfl⟩ := h; exact rfl
theorem Vd (w : World) (x : mQ)  : rT.K w x [.int .i64 x.f0, .int .u8 x.f1] := ⟨[.int .i64 x.f0], [.int .u8 x.f1], rfl, rfl, rfl⟩
theorem CF (w : World) (base : Nat) (ok : Nat → Prop) (x : mQ)  : rT.M w base ok x [.int .i64 x.f0, .int .u8 x.f1] := ⟨[.int .i64 x.f0], [.int .u8 x.f1], rfl, rfl, rfl⟩
theorem abE (W : World) (ok : Nat → Prop) (x : mQ) : Kd.FK rT W ok x [.int .i64 x.f0, .int .u8 x.f1] := fun W2 _ => Vd W2 x
def xn (xs : List mQ) (i : Int) : mQ := xs.getD i.toNat Rx
theorem VR {w : World} {A : Option Addr} {n : Nat} {xs : List mQ} (h : Kd.C rT w A n xs) (i : Int) (h0 : 0 ≤ i) (h1 : i < n) : ∃ ad , A = some ad ∧ w.cell? (ad.add (i.toNat * 2)) = some (.int .i64 (xn xs i).f0) ∧ w.cell? ⟨(ad.add (i.toNat * 2)).block, (ad.add (i.toNat * 2)).off + 1, none⟩ = some (.int .u8 (xn xs i).f1) := by
 obtain ⟨ad, c, e, _, hK, hc0⟩ := Kd.vX h Rx i h0 h1; have hc : ∀ j u, c[j]? = some u → w.cell? (ad.add (i.toNat * 2 + j)) = some u := hc0; obtain rfl := Ny hK; exact ⟨ad, e, hc 0 _ rfl, by rw [← qy _ _ 1 (by omega)]; exact hc 1 _ rfl⟩
end Go.Proofs.Ytihedeofkhapiaa.Pr
end
section
namespace Go.Proofs.Ytihedeofkhapiaa.Pr
open Go.RowKit Go.Proofs.YtihedeofkhapiaaW.PrintWords Go.Proofs.YtihedeofkhapiaaW.PrintLast Go.Proofs.YtihedeofkhapiaaW.PrintMore
def ba (n k : Nat) : Array Bool := ((List.range n).map k.testBit).toArray
variable {P : Program} {ops : Array Oper} {Q : Exit → Act → World → Prop} {md : Region.Mode} {S : World → Prop} {ds : List Nat} {T : Bool × List (List Nat × List Nat)} {B : List Nat} {oi oj : Oper} {v : Value} {fuel : Nat} {l : Array Bool} {a a' : Act} {w : World}
theorem dO (i : Nat) (N : Tmp) (l' : Array Bool) (hT : lS md ops = T) (h : bV P md ops Q S ds fuel l' a' w)
 (hi : ops[i]? = some oi := by exact rfl) (hN : oi.dst = some N := by exact rfl) (hc : Zw T l.toList l'.toList i = true := by kernel_rfl)
 (hQ : ∀ c a w, Q (.panic c) (a.put oi.dst v) w → Q (.panic c) a w := by exact fun _ _ _ h => h) (hw : Region.wanted oi (yielded ops a.tmps) = true := by rfl)
 (hv : ∀ w, (execOp a.eval oi).run P w = .ok (.value v) w := by intro w'; go_simp; with_reducible rfl)
 (ha : a.put (some N) v = a' := by simp only [Act.put, List.setIfInBounds_toArray, List.set_cons_zero, List.set_cons_succ, qm, uG]; rfl) : bV P md ops Q S ds (fuel + 1) l a w :=
 Il l' hi hN (aaK hT hc) hQ (Or.inl ⟨hw, hv⟩) ha h
theorem mR (i : Nat) (N : Tmp) (l' : Array Bool) (hT : lS md ops = T) (hB : kI T.2 B = true) (hS : S w) (h : bV P md ops Q S ds fuel l' a' w)
 (hi : ops[i]? = some oi := by exact rfl) (hN : oi.dst = some N := by exact rfl) (hc : Qz T B ds l.toList l'.toList i = true := by kernel_rfl)
 (hQ : ∀ c a w, Q (.panic c) (a.put oi.dst v) w → Q (.panic c) a w := by exact fun _ _ _ h => h) (hw : Region.wanted oi (yielded ops a.tmps) = true := by rfl)
 (hv : ∀ w, S w → (execOp a.eval oi).run P w = .ok (.value v) w := by intro w'; try simp only [and_imp]; intros; go_simp; with_reducible rfl)
 (ha : a.put (some N) v = a' := by simp only [Act.put, List.setIfInBounds_toArray, List.set_cons_zero, List.set_cons_succ, qm, uG]; rfl) : bV P md ops Q S ds (fuel + 1) l a w :=
 BM l' hi hN (Sj hT hB hc) hQ (Or.inl ⟨hw, hv⟩) hS ha h
theorem on_ (i : Nat) (N : Option Tmp) (l' : Array Bool) (hT : lS md ops = T)
 (h : ∀ K : Act → World → Prop, Shut (∀ a' w', S w' → (S w' → bV P md ops Q S ds fuel l' a' w') → K a' w') → if Region.wanted oi (yielded ops a.tmps) = true then Oper.wp P oi a w K Q else K (a.put N undef) w)
 (hi : ops[i]? = some oi := by exact rfl) (hN : oi.dst = N := by exact rfl) (hc : (uf T.2 l.toList == [i] && l.toList.set i true == l'.toList) = true := by kernel_rfl) (hd : i ∉ ds := by decide) : bV P md ops Q S ds (fuel + 1) l a w :=
 ZY l' hi hN (Ri hT hc) hd h
theorem BC (i : Nat) (N : Option Tmp) (l' : Array Bool) (hT : lS md ops = T)
 (h : ∀ K : Act → World → Prop, Shut (∀ a' w', bV P md ops Q S ds fuel l' a' w' → K a' w') → if Region.wanted oi (yielded ops a.tmps) = true then Oper.wp P oi a w K Q else K (a.put N undef) w)
 (hi : ops[i]? = some oi := by exact rfl) (hN : oi.dst = N := by exact rfl) (hc : (uf T.2 l.toList == [i] && l.toList.set i true == l'.toList) = true := by kernel_rfl) (hd : i ∈ ds := by decide) : bV P md ops Q S ds (fuel + 1) l a w :=
 ac8 l' hi hN (Ri hT hc) hd h
theorem DL (i j : Nat) (Ni Nj : Tmp) (li lj : Array Bool) (hT : lS md ops = T)
 (h1 : ∀ K : Act → World → Prop, Shut (∀ a' w', S w' → (S w' → bV P md ops Q S ds fuel li a' w') → K a' w') → if Region.wanted oi (yielded ops a.tmps) = true then Oper.wp P oi a w K Q else K (a.put (some Ni) undef) w)
 (h2 : ∀ K : Act → World → Prop, Shut (∀ a' w', S w' → (S w' → bV P md ops Q S ds fuel lj a' w') → K a' w') → if Region.wanted oj (yielded ops a.tmps) = true then Oper.wp P oj a w K Q else K (a.put (some Nj) undef) w)
 (hi : ops[i]? = some oi := by exact rfl) (hj : ops[j]? = some oj := by exact rfl) (hNi : oi.dst = some Ni := by exact rfl) (hNj : oj.dst = some Nj := by exact rfl)
 (hc : (uf T.2 l.toList == [i, j] && l.toList.set i true == li.toList && l.toList.set j true == lj.toList) = true := by kernel_rfl) (hdi : i ∉ ds := by decide) (hdj : j ∉ ds := by decide) : bV P md ops Q S ds (fuel + 1) l a w :=
 ajh li lj hi hj hNi hNj (aaa hT hc) hdi hdj h1 h2
theorem kT (h : bV P md ops Q S ds fuel l a' w) (ha : a = a' := by show Act.put _ (some _) _ = _; simp only [Act.put, List.setIfInBounds_toArray, List.set_cons_zero, List.set_cons_succ, qm, uG]; rfl) : bV P md ops Q S ds fuel l a w := Mq ha h
theorem akZ (h : bV P md ops Q S ds fuel l a' w) (ha : a = a' := by simp only [Act.put, List.setIfInBounds_toArray, List.set_cons_zero, List.set_cons_succ, qm, uG]; rfl) : bV P md ops Q S ds fuel l a w := Mq ha h
theorem D5 (h : bV P md ops Q S ds fuel l a' w) (ha : a = a' := by simp only [BD, Act.put, List.setIfInBounds_toArray, List.set_cons_zero, List.set_cons_succ, qm, uG]; rfl) : bV P md ops Q S ds fuel l a w := Mq ha h
theorem AZ (h : bV P md ops Q S ds fuel l a' w) (ha : a = a' := by simp only [BD, Act.put, List.setIfInBounds_toArray, List.set_cons_zero, List.set_cons_succ]; done) : bV P md ops Q S ds fuel l a w := Mq ha h
theorem zN {n : Nat} (hT : lS md ops = T) (h : Q .normal a w) (hc : (uf T.2 l.toList == []) = true := by kernel_rfl) : bV P md ops Q S ds n l a w := Sb (Vr hT hc) h
theorem nb_ {w : World} {g gb : Nat} {o : Obj} (hg : gb = w.heap.size) (h : w.heap[g]? = some o) : g ≠ gb := by rw [hg]; exact Nat.ne_of_lt (bW h)
theorem gP {w : World} {g : Nat} {t : TypeId} {a0 a1 : Value} (h : w.heap[g]? = some (.cells #[a0, a1] t (0, 0))) : w.cell? ⟨g, 0, none⟩ = some a0 ∧ w.cell? ⟨g, 1, none⟩ = some a1 ∧ w.frozen? ⟨g, 0, none⟩ = false ∧ w.frozen? ⟨g, 1, none⟩ = false := ⟨(af h 0).trans rfl, (af h 1).trans rfl, aK h 0, aK h 1⟩
theorem cells3 {w : World} {g : Nat} {t : TypeId} {a0 a1 a2 : Value} (h : w.heap[g]? = some (.cells #[a0, a1, a2] t (0, 0))) : w.cell? ⟨g, 0, none⟩ = some a0 ∧ w.cell? ⟨g, 1, none⟩ = some a1 ∧ w.cell? ⟨g, 2, none⟩ = some a2 ∧ w.frozen? ⟨g, 0, none⟩ = false ∧ w.frozen? ⟨g, 1, none⟩ = false ∧ w.frozen? ⟨g, 2, none⟩ = false := ⟨(af h 0).trans rfl, (af h 1).trans rfl, (af h 2).trans rfl, aK h 0, aK h 1, aK h 2⟩
theorem aiA {w : World} {g : Nat} {t : TypeId} {a0 a1 a2 a3 : Value} (h : w.heap[g]? = some (.cells #[a0, a1, a2, a3] t (0, 0))) : w.cell? ⟨g, 0, none⟩ = some a0 ∧ w.cell? ⟨g, 1, none⟩ = some a1 ∧ w.cell? ⟨g, 2, none⟩ = some a2 ∧ w.cell? ⟨g, 3, none⟩ = some a3 ∧ w.frozen? ⟨g, 0, none⟩ = false ∧ w.frozen? ⟨g, 1, none⟩ = false ∧ w.frozen? ⟨g, 2, none⟩ = false ∧ w.frozen? ⟨g, 3, none⟩ = false := ⟨(af h 0).trans rfl, (af h 1).trans rfl, (af h 2).trans rfl, (af h 3).trans rfl, aK h 0, aK h 1, aK h 2, aK h 3⟩
theorem cells5 {w : World} {g : Nat} {t : TypeId} {a0 a1 a2 a3 a4 : Value} (h : w.heap[g]? = some (.cells #[a0, a1, a2, a3, a4] t (0, 0))) : w.cell? ⟨g, 0, none⟩ = some a0 ∧ w.cell? ⟨g, 1, none⟩ = some a1 ∧ w.cell? ⟨g, 2, none⟩ = some a2 ∧ w.cell? ⟨g, 3, none⟩ = some a3 ∧ w.cell? ⟨g, 4, none⟩ = some a4 ∧ w.frozen? ⟨g, 0, none⟩ = false ∧ w.frozen? ⟨g, 1, none⟩ = false ∧ w.frozen? ⟨g, 2, none⟩ = false ∧ w.frozen? ⟨g, 3, none⟩ = false ∧ w.frozen? ⟨g, 4, none⟩ = false := ⟨(af h 0).trans rfl, (af h 1).trans rfl, (af h 2).trans rfl, (af h 3).trans rfl, (af h 4).trans rfl, aK h 0, aK h 1, aK h 2, aK h 3, aK h 4⟩
theorem aia {w : World} {g : Nat} {t : TypeId} {a0 a1 a2 a3 a4 a5 : Value} (h : w.heap[g]? = some (.cells #[a0, a1, a2, a3, a4, a5] t (0, 0))) : w.cell? ⟨g, 0, none⟩ = some a0 ∧ w.cell? ⟨g, 1, none⟩ = some a1 ∧ w.cell? ⟨g, 2, none⟩ = some a2 ∧ w.cell? ⟨g, 3, none⟩ = some a3 ∧ w.cell? ⟨g, 4, none⟩ = some a4 ∧ w.cell? ⟨g, 5, none⟩ = some a5 ∧ w.frozen? ⟨g, 0, none⟩ = false ∧ w.frozen? ⟨g, 1, none⟩ = false ∧ w.frozen? ⟨g, 2, none⟩ = false ∧ w.frozen? ⟨g, 3, none⟩ = false ∧ w.frozen? ⟨g, 4, none⟩ = false ∧ w.frozen? ⟨g, 5, none⟩ = false := ⟨(af h 0).trans rfl, (af h 1).trans rfl, (af h 2).trans rfl, (af h 3).trans rfl, (af h 4).trans rfl, (af h 5).trans rfl, aK h 0, aK h 1, aK h 2, aK h 3, aK h 4, aK h 5⟩
end Go.Proofs.Ytihedeofkhapiaa.Pr
end
section
namespace Go.Proofs.Ytihedeofkhapiaa.Pr
open Go.RowKit Go.Proofs.YtihedeofkhapiaaW.PrintWords Go.Proofs.YtihedeofkhapiaaW.PrintLast Go.Proofs.YtihedeofkhapiaaW.PrintMore
attribute [local go_sem] nC nA pO oV nP nM pY qa
def aV (w0 W : World) (g : Nat) (f0 : Int) (f1 : Int) : Prop := W.heap[g]? = some (.cells #[.int .u64 f0, .int .u64 f1] 91 (0, 0)) ∧ w0.heap.size ≤ g
theorem aV.grown {w0 W : World} {g : Nat} {f0 : Int} {f1 : Int} {W1 : World} {row : Option Nat} (h : aV w0 W g f0 f1) (hw : W.grownBy W1 row) (hne : some g ≠ row) : aV w0 W1 g f0 f1 := by
 obtain ⟨hb, hg⟩ := h; exact ⟨bS hb hw hne, hg⟩
theorem aV.Me {w0 W : World} {g : Nat} {f0 : Int} {f1 : Int} {α : Type} {d : Kd α} {e : Nat} {base : Nat} {ok : Nat → Prop} {v : Value} {xs : List α} (h : aV w0 W g f0 f1) (ho : Kd.N d e W base ok v xs) (ht : e ≠ 91) : some g ≠ v.ownBlock := by
 obtain ⟨hb, hg⟩ := h; exact Kd.Ci ho hb ht
theorem aV.fresh {w0 W : World} {g : Nat} {f0 : Int} {f1 : Int} (h : aV w0 W g f0 f1) : ∀ k, W.heap.size ≤ k → k ≠ g := by
 obtain ⟨hb, hg⟩ := h; exact Kd.kM hb
theorem aV.below {w0 W : World} {g : Nat} {f0 : Int} {f1 : Int} {W1 : World} (h : aV w0 W g f0 f1) (hw : Below W.heap.size W W1) : aV w0 W1 g f0 f1 := h.grown (jA hw none) (by simp)
theorem aV.alloc {w0 W : World} {g : Nat} {f0 : Int} {f1 : Int} (h : aV w0 W g f0 f1) (o : Obj) : aV w0 (W.alloc o) g f0 f1 := h.below (aA (Below.refl _ _) o)
theorem aV.drewN {w0 W : World} {g : Nat} {f0 : Int} {f1 : Int} (h : aV w0 W g f0 f1) (m : Nat) : aV w0 (W.drewN m) g f0 f1 := h
theorem aV.drew {w0 W : World} {g : Nat} {f0 : Int} {f1 : Int} (h : aV w0 W g f0 f1) : aV w0 W.drew g f0 f1 := h
theorem aV.at_ {w0 W : World} {g : Nat} {f0 : Int} {f1 : Int} {w' : World} {m : Nat} (hq : W.drewN m = w') (h : aV w0 W g f0 f1) : aV w0 w' g f0 f1 := by subst hq; exact aV.drewN h m
theorem aV.apart {w0 W : World} {g : Nat} {f0 : Int} {f1 : Int} {α : Type} {d : Kd α} {e : Nat} {base : Nat} {ok : Nat → Prop} {v : Value} {xs : List α} (h : aV w0 W g f0 f1) (ho : d.R e W base ok v xs) (ht : ∀ q, q ∈ e :: d.E → q ≠ 91) : d.R e W base (fun k => ok k ∧ k ≠ g) v xs := by
 obtain ⟨hb, hg⟩ := h; exact Kd.dQ ho hb ht
theorem aV.own_ne {w0 W : World} {g : Nat} {f0 : Int} {f1 : Int} {α : Type} {d : Kd α} {e : Nat} {base : Nat} {ok : Nat → Prop} {v : Value} {xs : List α} (h : aV w0 W g f0 f1) (ho : d.R e W base ok v xs) (ht : e ≠ 91) : some g ≠ v.ownBlock := by
 obtain ⟨hb, hg⟩ := h; exact Kd.mG ho hb ht
theorem aV.ahD {w0 W : World} {g : Nat} {f0 : Int} {f1 : Int} {α : Type} {d : Kd α} {e : Nat} {base : Nat} {ok : Nat → Prop} {v : Value} {xs : List α} (h : aV w0 W g f0 f1) (ho : d.S e W base ok v xs) (ht : ∀ q, q ∈ e :: d.E → q ≠ 91) : d.S e W base (fun k => ok k ∧ k ≠ g) v xs := by
 obtain ⟨hb, hg⟩ := h; exact Kd.xx ho hb ht
theorem aV.aeR {w0 W : World} {g : Nat} {f0 : Int} {f1 : Int} {α : Type} {d : Kd α} {e : Nat} {base : Nat} {ok : Nat → Prop} {v : Value} {xs : List α} (h : aV w0 W g f0 f1) (ho : d.S e W base ok v xs) (ht : e ≠ 91) : some g ≠ v.ownBlock := by
 obtain ⟨hb, hg⟩ := h; exact Kd.O8 ho hb ht
theorem aV.lt {w0 W : World} {g : Nat} {f0 : Int} {f1 : Int} (h : aV w0 W g f0 f1) : g < W.heap.size := by
 obtain ⟨hb, hg⟩ := h; exact bW hb
theorem aV.ge {w0 W : World} {g : Nat} {f0 : Int} {f1 : Int} (h : aV w0 W g f0 f1) : w0.heap.size ≤ g := by
 obtain ⟨hb, hg⟩ := h; exact hg
theorem aV.ahL {w0 W : World} {g : Nat} {f0 : Int} {f1 : Int} {a : Nat} {cs : Array Value} {t : TypeId} {fr : Nat × Nat} (h : aV w0 W g f0 f1) (hb2 : W.heap[a]? = some (.cells cs t fr)) (ht : t ≠ 91) : g ≠ a := by
 obtain ⟨hb, hg⟩ := h; rintro rfl; rw [hb] at hb2; injection hb2 with hb2; injection hb2 with _ ht2; exact ht ht2.symm
theorem aV.far {w0 W : World} {g : Nat} {f0 : Int} {f1 : Int} {p : Addr} (h : aV w0 W g f0 f1) (hne : g ≠ p.block) (u : Value) : aV w0 (W.setCell p u) g f0 f1 := by
 obtain ⟨hb, hg⟩ := h; exact ⟨aY hb hne u, hg⟩
theorem zK {W : World} {g : Nat} {f0 : Int} {f1 : Int} (h : W.heap[g]? = some (.cells #[.int .u64 f0, .int .u64 f1] 91 (0, 0))) : W.cell? ⟨g, 0, none⟩ = some (.int .u64 f0) := (af h 0).trans rfl
theorem aV.adR {w0 W : World} {g : Nat} {f0 : Int} {f1 : Int} (h : aV w0 W g f0 f1) (x : Int) : aV w0 (W.setCell ⟨g, 0, none⟩ (.int .u64 x)) g x f1 := by
 obtain ⟨hb, hg⟩ := h; exact ⟨by simpa using Bi hb 0 (.int .u64 x), hg⟩
theorem zV {W : World} {g : Nat} {f0 : Int} {f1 : Int} (h : W.heap[g]? = some (.cells #[.int .u64 f0, .int .u64 f1] 91 (0, 0))) : W.cell? ⟨g, 1, none⟩ = some (.int .u64 f1) := (af h 1).trans rfl
theorem aV.O7 {w0 W : World} {g : Nat} {f0 : Int} {f1 : Int} (h : aV w0 W g f0 f1) (x : Int) : aV w0 (W.setCell ⟨g, 1, none⟩ (.int .u64 x)) g f0 x := by
 obtain ⟨hb, hg⟩ := h; exact ⟨by simpa using Bi hb 1 (.int .u64 x), hg⟩
theorem aV.new (w0 W : World) (f0 : Int) (f1 : Int) (hB : Below w0.heap.size w0 W) : aV w0 (W.alloc (.cells #[.int .u64 f0, .int .u64 f1] 91)) W.heap.size f0 f1 := ⟨by simpa using heap_alloc_new W _, hB.size⟩
end Go.Proofs.Ytihedeofkhapiaa.Pr
end
section
namespace Go.Proofs.Ytihedeofkhapiaa.Pr
open Go.RowKit Go.Proofs.YtihedeofkhapiaaW.PrintWords Go.Proofs.YtihedeofkhapiaaW.PrintLast Go.Proofs.YtihedeofkhapiaaW.PrintMore
class inductive UpC : World → World → Prop
 | refl (w : World) : UpC w w
 | alloc {w w' : World} (o : Obj) (h : UpC w w') : UpC w (w'.alloc o)
 | drewN {w w' : World} (n : Nat) (h : UpC w w') : UpC w (w'.drewN n)
 | drew {w w' : World} (h : UpC w w') : UpC w w'.drew
instance UpC.iA {w w' : World} {o : Obj} [h : UpC w w'] : UpC w (w'.alloc o) := .alloc o h
instance UpC.iN {w w' : World} {n : Nat} [h : UpC w w'] : UpC w (w'.drewN n) := .drewN n h
instance UpC.iD {w w' : World} [h : UpC w w'] : UpC w w'.drew := .drew h
instance (priority := high) UpC.iR {w : World} : UpC w w := .refl w
theorem bU {w w' : World} {g : Nat} {o : Obj} (hb : w.heap[g]? = some o) [h : UpC w w'] : w'.heap[g]? = some o := by
 induction h with
 | refl => exact hb
 | alloc o _ ih => exact cK ih _
 | drewN n _ ih => exact fC ih _
 | drew _ ih => exact dD ih
theorem rU {α : Type} {d : Kd α} {e : Nat} {w w' : World} {base : Nat} {ok : Nat → Prop} {v : Value} {xs : List α} (hb : Kd.R d e w base ok v xs) [h : UpC w w'] : Kd.R d e w' base ok v xs := by
 induction h with
 | refl => exact hb
 | alloc o _ ih => exact Kd.Tg ih _
 | drewN n _ ih => exact Kd.Vw ih _
 | drew _ ih => exact Kd.qW ih
theorem nU {α : Type} {d : Kd α} {e : Nat} {w w' : World} {base : Nat} {ok : Nat → Prop} {v : Value} {xs : List α} (hb : Kd.N d e w base ok v xs) [h : UpC w w'] : Kd.N d e w' base ok v xs := by
 induction h with
 | refl => exact hb
 | alloc o _ ih => exact Kd.TP ih _
 | drewN n _ ih => exact Kd.UV ih _
 | drew _ ih => exact Kd.wu ih
theorem vU {α : Type} {d : Kd α} {e : Nat} {w w' : World} {base : Nat} {ok : Nat → Prop} {v : Value} {xs : List α} (hb : Kd.V d e w base ok v xs) [h : UpC w w'] : Kd.V d e w' base ok v xs := by
 induction h with
 | refl => exact hb
 | alloc o _ ih => exact Kd.SY ih _
 | drewN n _ ih => exact Kd.VG ih _
 | drew _ ih => exact Kd.FN ih
theorem iU {w0 w w' : World} {g : Nat} {x y : Int} (hb : aV w0 w g x y) [h : UpC w w'] : aV w0 w' g x y := by
 induction h with
 | refl => exact hb
 | alloc o _ ih => exact aV.alloc ih _
 | drewN n _ ih => exact aV.drewN ih _
 | drew _ ih => exact aV.drew ih
theorem kU {w0 w w' : World} {g : Nat} (hb : au w0 w g none) [h : UpC w w'] : au w0 w' g none := by
 induction h with
 | refl => exact hb
 | alloc o _ ih => exact Jj ih _
 | drewN n _ ih => exact uZ ih _
 | drew _ ih => exact rG ih
theorem lU {w0 w w' : World} (hb : Below w0.heap.size w0 w) [h : UpC w w'] : Below w0.heap.size w0 w' := by
 induction h with
 | refl => exact hb
 | alloc o _ ih => exact aA ih _
 | drewN n _ ih => exact dw ih _
 | drew _ ih => exact gD ih
def Eo (s0_0 s0_1 : Int) : Int := Go.bits .xor .u64 (Go.bits .xor .u64 (Go.bits .xor .u64 (Go.bits .xor .u64 s0_0 (IntKind.u64.wrap (s0_0 * 8388608))) s0_1) ((Go.bits .xor .u64 s0_0 (IntKind.u64.wrap (s0_0 * 8388608))) / 131072)) (s0_1 / 67108864)
def eF.f (s0_0 : Int) (s0_1 : Int) : Option (Int × Int × Int) := if Go.bits .or .u64 s0_1 (Eo s0_0 s0_1) = 0 then some (IntKind.u64.wrap (1 + s0_1), s0_1, 1) else some (IntKind.u64.wrap (Eo s0_0 s0_1 + s0_1), s0_1, Eo s0_0 s0_1)
def CG (s0_0 s0_1 : Int) : Int × Int := (s0_1, if Go.bits .or .u64 s0_1 (Eo s0_0 s0_1) = 0 then 1 else Eo s0_0 s0_1)
theorem PP (a b : Int) : ∃ r, eF.f a b = some (r, (CG a b).1, (CG a b).2) := by
 unfold eF.f CG; split
 ·exact ⟨_, rfl⟩
 ·exact ⟨_, rfl⟩
theorem Jc {P : Program} {c : Code} {Q : Exit → Act → World → Prop} {a : Act} {w0 w W : World} {g : Nat} {x y : Int} (hI : aV w0 W g x y) (hB : Below w0.heap.size w0 W) (hK : au w W g none)
 (k : ∀ W', aV w0 W' g x y → Below w0.heap.size w0 W' → au w W' g none → Code.wp P c Q a W') : Code.wp P c Q a W := k W hI hB hK
set_option maxHeartbeats 8000000 in
set_option maxRecDepth 100000 in
theorem eF.calls (g : Nat) (s0_0 : Int) (s0_1 : Int) (r1 : Int) (r2 : Int) (r3 : Int) (w0 w : World) (hI : aV w0 w g s0_0 s0_1) (hB : Below w0.heap.size w0 w) (h : eF.f s0_0 s0_1 = some (r1, r2, r3)) :
 Calls Try.prog 53 #[.pointer (some ⟨g, 0, none⟩)] w fun e w' => e = .returned (.int .u64 r1) ∧ aV w0 w' g r2 r3 ∧ Below w0.heap.size w0 w' ∧ au w w' g none := by
 have HI0 := aa.mk hI; have HK := aa.mk (au.refl w g none); have HB := aa.mk hB; obtain ⟨HGz3, hgz3⟩ := hI; have Pq := zK HGz3; have QD := zV HGz3; have RA := aK HGz3 0; have Qb := aK HGz3 1; clear HGz3 hgz3 hB; simp only [eF.f] at h; have Hh := aa.mk h; clear h; go_enter Try.func53, Try.ntmps53; go_wp2; go_quiet (fail); go_wp2; obtain ⟨X, hX⟩ : ∃ X, X = Eo s0_0 s0_1 := ⟨_, rfl⟩; rw [show (Go.bits .xor .u64 (Go.bits .xor .u64 (Go.bits .xor .u64 (Go.bits .xor .u64 s0_0 (IntKind.u64.wrap (s0_0 * 8388608))) s0_1) ((Go.bits .xor .u64 s0_0 (IntKind.u64.wrap (s0_0 * 8388608))) / 131072)) (s0_1 / 67108864)) = X from hX.symm]; rw [← hX] at Hh; clear hX; refine Jc (x := s0_1) (y := X) (w0 := w0) (w := w) (g := g) ?_ ?_ ?_ ?_
 ·exact aV.O7 (aV.adR (aV.drewN HI0.out _) _) _
 ·exact bZ (bZ (dw HB.out _) (aV.ge HI0.out)) (aV.ge HI0.out)
 ·exact au.UQ (au.UQ (uZ HK.out _) _ _) _ _
 intro W hI2 hB2 hK2; clear Pq QD RA Qb HI0 HB HK; have HI := aa.mk hI2; have HB := aa.mk hB2; have HK := aa.mk hK2; obtain ⟨HGz3, hgz3⟩ := hI2; have Pq := zK HGz3; have QD := zV HGz3; have RA := aK HGz3 0; have Qb := aK HGz3 1; clear HGz3 hgz3 hB2 hK2; by_cases c2 : Go.bits .or .u64 s0_1 X = 0
 ·have h := Hh.out; rw [if_pos c2] at h; have Kq : (Go.bits .or .u64 s0_1 X == 0) = true := beq_iff_eq.mpr c2; clear c2 Hh; simp only [Option.some.injEq, Prod.mk.injEq] at h; obtain ⟨rfl, rfl, rfl⟩ := h; go_quiet (fail); go_wp2
  go_ret
  exact ⟨rfl, aV.O7 (aV.drewN HI.out _) _, bZ (dw HB.out _) (aV.ge HI.out), au.UQ (uZ HK.out _) _ _⟩
 ·have h := Hh.out; rw [if_neg c2] at h; have Kq : (Go.bits .or .u64 s0_1 X == 0) = false := beq_eq_false_iff_ne.mpr c2; clear c2 Hh; simp only [Option.some.injEq, Prod.mk.injEq] at h; obtain ⟨rfl, rfl, rfl⟩ := h; go_quiet (fail); go_wp2
  go_ret
  exact ⟨rfl, aV.drewN HI.out _, dw HB.out _, uZ HK.out _⟩
end Go.Proofs.Ytihedeofkhapiaa.Pr
end
section
namespace Go.Proofs.Ytihedeofkhapiaa.Pr
open Go.RowKit Go.Proofs.YtihedeofkhapiaaW.PrintWords Go.Proofs.YtihedeofkhapiaaW.PrintLast Go.Proofs.YtihedeofkhapiaaW.PrintMore
attribute [local go_sem] nC nA pO oV nP nM pY qa
def bn.f (s0_0 : Int) (s0_1 : Int) (a1 : Int) : Option (Int × Int × Int) := if a1 < 2 then (some (0, s0_0, s0_1)) else ((eF.f s0_0 s0_1).bind fun Cq => (if (IntKind.u64.wrap (a1)) = 0 then (none) else (some (wrap64 (Int.tmod (Cq.1 / 2048) (IntKind.u64.wrap (a1))), Cq.2.1, Cq.2.2))))
set_option maxHeartbeats 8000000 in
set_option maxRecDepth 100000 in
theorem bn.calls (g : Nat) (s0_0 : Int) (s0_1 : Int) (a1 : Int) (r1 : Int) (r2 : Int) (r3 : Int) (w0 w : World) (hI : aV w0 w g s0_0 s0_1) (hB : Below w0.heap.size w0 w) (h : bn.f s0_0 s0_1 a1 = some (r1, r2, r3)) :
 Calls Try.prog 33 #[.pointer (some ⟨g, 0, none⟩), .int .i64 a1] w fun e w' => e = .returned (.int .i64 r1) ∧ aV w0 w' g r2 r3 ∧ Below w0.heap.size w0 w' ∧ au w w' g none := by
 have HI0 := aa.mk hI; have HK := aa.mk (au.refl w g none); have HL := aa.mk hB.size; clear hI; have HW0 := aa.mk hB.size; have HB := aa.mk hB; clear hB; have H : (if a1 < 2 then (some (0, s0_0, s0_1)) else ((eF.f s0_0 s0_1).bind fun Cq => (if (IntKind.u64.wrap (a1)) = 0 then (none) else (some (wrap64 (Int.tmod (Cq.1 / 2048) (IntKind.u64.wrap (a1))), Cq.2.1, Cq.2.2))))) = some (r1, r2, r3) := h; clear h; by_cases c3 : a1 < 2
 ·rw [if_pos c3] at H; have uP : decide (a1 < 2) = true := decide_eq_true c3; clear c3; simp only [Option.some.injEq, Prod.mk.injEq] at H; obtain ⟨rfl, rfl, rfl⟩ := H; go_enter Try.func33, Try.ntmps33; go_wp2
  go_ret
  exact ⟨by rfl, by exact HI0.out, by exact HB.out, by exact HK.out⟩
 ·rw [if_neg c3] at H; have uP : decide (a1 < 2) = false := decide_eq_false c3; clear c3; replace H := Option.bind_eq_some_iff.mp H; obtain ⟨⟨aji, ahS, ah0⟩, A40, H⟩ := H; dsimp only at H; have A4 := aa.mk A40; clear A40; by_cases c5 : (IntKind.u64.wrap (a1)) = 0
  ·rw [if_pos c5] at H; exact absurd H (by simp)
  ·rw [if_neg c5] at H; have Bd : ((IntKind.u64.wrap (a1)) == 0) = false := beq_eq_false_iff_ne.mpr c5; have QV : ((IntKind.u64.wrap (a1)) != 0) = true := bne_iff_ne.mpr c5; simp only [Option.some.injEq, Prod.mk.injEq] at H; obtain ⟨rfl, rfl, rfl⟩ := H; go_enter Try.func33, Try.ntmps33; go_wp2_with (((with_reducible refine bR (f := 53) rfl ?_); refine eY (some 8) rfl rfl Try.func53 (by kernel_rfl) rfl #[.pointer (some ⟨g, 0, none⟩)] rfl (by (simp only [List.map_toArray, List.map_cons, List.map_nil]); rfl) ?_; (with_reducible refine (eF.calls g s0_0 s0_1 aji ahS ah0 w0 _ ?side1 ?side2 A4.out).mono ?_); (case side1 => exact HI0.out); (case side2 => exact HB.out); rintro e w6 ⟨rfl, hi, hb, hk⟩; refine ⟨_, rfl, ?_⟩; replace HK := aa.mk (au.trans (by exact HK.out) hk (.inl rfl)); replace HB := aa.mk (hb); replace HI0 := aa.mk (hi); clear hb; clear hk; (clear hi)))
   go_ret
   exact ⟨by rfl, by exact HI0.out, by exact HB.out, by exact HK.out⟩
def dB.f (s0_0 : Int) (s0_1 : Int) (a1 : Int) (a2 : Int) : Option (Bool × Int × Int) := (bn.f s0_0 s0_1 a2).bind fun Cz => (some (decide (Cz.1 < a1), Cz.2.1, Cz.2.2))
set_option maxHeartbeats 8000000 in
set_option maxRecDepth 100000 in
theorem dB.calls (g : Nat) (s0_0 : Int) (s0_1 : Int) (a1 : Int) (a2 : Int) (r1 : Bool) (r2 : Int) (r3 : Int) (w0 w : World) (hI : aV w0 w g s0_0 s0_1) (hB : Below w0.heap.size w0 w) (h : dB.f s0_0 s0_1 a1 a2 = some (r1, r2, r3)) :
 Calls Try.prog 32 #[.pointer (some ⟨g, 0, none⟩), .int .i64 a1, .int .i64 a2] w fun e w' => e = .returned (.bool r1) ∧ aV w0 w' g r2 r3 ∧ Below w0.heap.size w0 w' ∧ au w w' g none := by
 have HI0 := aa.mk hI; have HK := aa.mk (au.refl w g none); have HL := aa.mk hB.size; clear hI; have HW0 := aa.mk hB.size; have HB := aa.mk hB; clear hB; have H : ((bn.f s0_0 s0_1 a2).bind fun Cz => (some (decide (Cz.1 < a1), Cz.2.1, Cz.2.2))) = some (r1, r2, r3) := h; clear h; replace H := Option.bind_eq_some_iff.mp H; obtain ⟨⟨aiw, ahP, aiM⟩, A40, H⟩ := H; dsimp only at H; have A4 := aa.mk A40; clear A40; simp only [Option.some.injEq, Prod.mk.injEq] at H; obtain ⟨rfl, rfl, rfl⟩ := H; go_enter Try.func32, Try.ntmps32; go_wp2_with (((with_reducible refine bR (f := 33) rfl ?_); refine eY (some 9) rfl rfl Try.func33 (by kernel_rfl) rfl #[.pointer (some ⟨g, 0, none⟩), .int .i64 a2] rfl (by (simp only [List.map_toArray, List.map_cons, List.map_nil]); rfl) ?_; (with_reducible refine (bn.calls g s0_0 s0_1 a2 aiw ahP aiM w0 _ ?side1 ?side2 A4.out).mono ?_); (case side1 => exact HI0.out); (case side2 => exact HB.out); rintro e w5 ⟨rfl, hi, hb, hk⟩; refine ⟨_, rfl, ?_⟩; replace HK := aa.mk (au.trans (by exact HK.out) hk (.inl rfl)); replace HB := aa.mk (hb); replace HI0 := aa.mk (hi); clear hb; clear hk; (clear hi)))
 go_ret
 exact ⟨by rfl, by exact HI0.out, by exact HB.out, by exact HK.out⟩
def cZ.f (s0_0 : Int) (s0_1 : Int) (a1 : Int) (a2 : Int) : Option (Int × Int × Int) := (bn.f s0_0 s0_1 (wrap64 ((wrap64 (a2 - a1)) + 1))).bind fun Dx => (some (wrap64 (a1 + Dx.1), Dx.2.1, Dx.2.2))
set_option maxHeartbeats 8000000 in
set_option maxRecDepth 100000 in
theorem cZ.calls (g : Nat) (s0_0 : Int) (s0_1 : Int) (a1 : Int) (a2 : Int) (r1 : Int) (r2 : Int) (r3 : Int) (w0 w : World) (hI : aV w0 w g s0_0 s0_1) (hB : Below w0.heap.size w0 w) (h : cZ.f s0_0 s0_1 a1 a2 = some (r1, r2, r3)) :
 Calls Try.prog 50 #[.pointer (some ⟨g, 0, none⟩), .int .i64 a1, .int .i64 a2] w fun e w' => e = .returned (.int .i64 r1) ∧ aV w0 w' g r2 r3 ∧ Below w0.heap.size w0 w' ∧ au w w' g none := by
 have HI0 := aa.mk hI; have HK := aa.mk (au.refl w g none); have HL := aa.mk hB.size; clear hI; have HW0 := aa.mk hB.size; have HB := aa.mk hB; clear hB; have H : ((bn.f s0_0 s0_1 (wrap64 ((wrap64 (a2 - a1)) + 1))).bind fun Dx => (some (wrap64 (a1 + Dx.1), Dx.2.1, Dx.2.2))) = some (r1, r2, r3) := h; clear h; replace H := Option.bind_eq_some_iff.mp H; obtain ⟨⟨ajb, ai1, aiQ⟩, A40, H⟩ := H; dsimp only at H; have A4 := aa.mk A40; clear A40; simp only [Option.some.injEq, Prod.mk.injEq] at H; obtain ⟨rfl, rfl, rfl⟩ := H; go_enter Try.func50, Try.ntmps50; go_wp2_with (((with_reducible refine bR (f := 33) rfl ?_); refine eY (some 13) rfl rfl Try.func33 (by kernel_rfl) rfl #[.pointer (some ⟨g, 0, none⟩), .int .i64 (wrap64 ((wrap64 (a2 - a1)) + 1))] rfl (by (simp only [List.map_toArray, List.map_cons, List.map_nil]); rfl) ?_; (with_reducible refine (bn.calls g s0_0 s0_1 (wrap64 ((wrap64 (a2 - a1)) + 1)) ajb ai1 aiQ w0 _ ?side1 ?side2 A4.out).mono ?_); (case side1 => exact HI0.out); (case side2 => exact HB.out); rintro e w5 ⟨rfl, hi, hb, hk⟩; refine ⟨_, rfl, ?_⟩; replace HK := aa.mk (au.trans (by exact HK.out) hk (.inl rfl)); replace HB := aa.mk (hb); replace HI0 := aa.mk (hi); clear hb; clear hk; (clear hi)))
 go_ret
 exact ⟨by rfl, by exact HI0.out, by exact HB.out, by exact HK.out⟩
mutual
def aM.l0 : Nat → Int → Int → Int → Int → Int → Int → List (S86) → Option (Int × Int × (List (S86)) × Int × Int)
 | 0, _, _, _, _, _, _, _ => none
 | k + 1, x7, x8, lW, lT, yR, yC, wY => if x8 > 0 then (aM.j1 k x7 x8 (decide (x7 < 26)) lW lT yR yC wY) else (aM.j1 k x7 x8 false lW lT yR yC wY)
def aM.j1 : Nat → Int → Int → Bool → Int → Int → Int → Int → List (S86) → Option (Int × Int × (List (S86)) × Int × Int)
 | 0, _, _, _, _, _, _, _, _ => none
 | k + 1, x7, x8, x27, lW, lT, yR, yC, wY => if x27 = true then ((bn.f lW lT (mn 4 (wrap64 (26 - x7)))).bind fun yf => ((cZ.f yf.2.1 yf.2.2 1 31).bind fun BJ => (if wY.length < 8796093022208 then (aM.l0 k (wrap64 ((wrap64 (x7 + yf.1)) + 1)) (wrap64 (x8 - 1)) BJ.2.1 BJ.2.2 yR yC (wY ++ [(⟨(wrap64 (65 + (wrap64 (x7 + yf.1)))) % 256, BJ.1⟩ : S86)])) else (none)))) else (some (yR, yC, wY, lW, lT))
end
def aM.f (k : Nat) (s0_0 : Int) (s0_1 : Int) (a1 : Int) : Option (Int × Int × (List (S86)) × Int × Int) := (cZ.f s0_0 s0_1 (-600) 300).bind fun yU => ((bn.f yU.2.1 yU.2.2 200).bind fun Dn => ((cZ.f Dn.2.1 Dn.2.2 1 a1).bind fun BU => (aM.l0 k 0 BU.1 BU.2.1 BU.2.2 yU.1 (wrap64 (yU.1 + Dn.1)) ([] : List (S86)))))
theorem aM.gq : ∀ k, (∀ y0 y1 y2 y3 y4 y5 y6, LeO (aM.l0 k y0 y1 y2 y3 y4 y5 y6) (aM.l0 (k + 1) y0 y1 y2 y3 y4 y5 y6)) ∧ (∀ y0 y1 y2 y3 y4 y5 y6 y7, LeO (aM.j1 k y0 y1 y2 y3 y4 y5 y6 y7) (aM.j1 (k + 1) y0 y1 y2 y3 y4 y5 y6 y7))
 | 0 => ⟨fun _ _ _ _ _ _ _ r h => by simp [aM.l0] at h, fun _ _ _ _ _ _ _ _ r h => by simp [aM.j1] at h⟩
 | k + 1 => by
  obtain ⟨ih0, ih1⟩ := aM.gq k; refine ⟨?_, ?_⟩
  ·intro y0 y1 y2 y3 y4 y5 y6; unfold aM.l0
   repeat' first | (with_reducible exact ih1 _ _ _ _ _ _ _ _) | (with_reducible refine LeO.ite ?_ ?_)
  ·intro y0 y1 y2 y3 y4 y5 y6 y7; unfold aM.j1
   repeat' first | (with_reducible exact ih0 _ _ _ _ _ _ _) | (with_reducible exact LeO.refl _) | (with_reducible refine LeO.ite ?_ ?_) | (with_reducible refine LeO.bind ?_ (fun _ => ?_))
theorem aM.mono : ∀ a0 a1 a2 k, LeO (aM.f k a0 a1 a2) (aM.f (k + 1) a0 a1 a2) := by
 intro a0 a1 a2 k; obtain ⟨ih0, ih1⟩ := aM.gq k; unfold aM.f
 repeat' first | (with_reducible exact ih0 _ _ _ _ _ _ _) | (with_reducible exact LeO.refl _) | (with_reducible refine LeO.bind ?_ (fun _ => ?_))
def aM.T8 : Bool × List (List Nat × List Nat) := (true, [([], []), ([0], [0]), ([], []), ([2], [2]), ([3], [3]), ([], []), ([5], [5]), ([4, 6], [4, 6]), ([7], [7]), ([1, 8, 6], [1, 8]), ([0, 1, 2, 3, 4, 5, 6, 7, 8, 9], []), ([10, 9, 9, 0, 1, 2, 3, 4, 5, 6, 7, 8, 9], [9, 10])])
def aM.B8 : List Nat := [0, 1, 0, 4, 12, 0, 32, 124, 252, 511, 1023, 2047]
theorem aM.YX : lS .any (opsOf Try.f51 8) = aM.T8 := by kernel_rfl
theorem aM.Ps : kI aM.T8.2 aM.B8 = true := by kernel_rfl
set_option maxHeartbeats 8000000 in
set_option maxRecDepth 100000 in
theorem aM.calls (k : Nat) (g : Nat) (s0_0 : Int) (s0_1 : Int) (a1 : Int) (r1 : Int) (r2 : Int) (r3 : List (S86)) (r4 : Int) (r5 : Int) (w0 w : World) (hI : aV w0 w g s0_0 s0_1) (hB : Below w0.heap.size w0 w) (h : aM.f k s0_0 s0_1 a1 = some (r1, r2, r3, r4, r5)) :
 Calls Try.prog 51 #[.pointer (some ⟨g, 0, none⟩), .int .i64 a1] w fun e w' => ∃ v2_ : Value, e = .returned (.agg #[.int .i64 r1, .int .i64 r2, v2_]) ∧ Kd.R k86 86 w' w.heap.size (fun _ => True) v2_ r3 ∧ aV w0 w' g r4 r5 ∧ Below w0.heap.size w0 w' ∧ au w w' g none := by
 have hu66 := Try.underlying66; have hu63 := Try.underlying63; have hu86 := Try.underlying86; have HI0 := aa.mk hI; have HK := aa.mk (au.refl w g none); have HL := aa.mk hB.size; clear hI; have HW0 := aa.mk hB.size; have HB := aa.mk hB; clear hB; have H : ((cZ.f s0_0 s0_1 (-600) 300).bind fun yU => ((bn.f yU.2.1 yU.2.2 200).bind fun Dn => ((cZ.f Dn.2.1 Dn.2.2 1 a1).bind fun BU => (aM.l0 k 0 BU.1 BU.2.1 BU.2.2 yU.1 (wrap64 (yU.1 + Dn.1)) ([] : List (S86)))))) = some (r1, r2, r3, r4, r5) := h; clear h; replace H := Option.bind_eq_some_iff.mp H; obtain ⟨⟨pz, abx, adi⟩, A30, H⟩ := H; dsimp only at H; have A3 := aa.mk A30; clear A30; replace H := Option.bind_eq_some_iff.mp H; obtain ⟨⟨zl, ZR, aay⟩, A40, H⟩ := H; dsimp only at H; have A4 := aa.mk A40; clear A40; replace H := Option.bind_eq_some_iff.mp H; obtain ⟨⟨adk, ad3, adV⟩, A50, H⟩ := H; dsimp only at H; have A5 := aa.mk A50; clear A50; have H' := aa.mk H; clear H; go_enter Try.func51, Try.ntmps51; (go_wp2_with (first | ((with_reducible refine df (N := 4) rfl ?_); refine dA ?hg (N := 4) ?hd (cs := #[.int .i64 0, .int .i64 0, .slice none 0 0]) (t := 66) ?hr ?_; (case hd => rfl); (case hg => rfl); (case hr => (go_simp; done)); intro wK hg w6 hbox hb; replace HB := aa.mk (av (by exact HB.out) hb); have lc := aa.mk (hbox); have aeq := aa.mk ((by rw [hg]; exact (cu (w := w) (g := g) (row := none) (by exact HK.out)) : w.heap.size ≤ wK)); have aer := aa.mk ((Nat.le_trans HW0.out (by rw [hg]; exact (cu (w := w) (g := g) (row := none) (by exact HK.out)) : w.heap.size ≤ wK) : w0.heap.size ≤ wK)); replace HK := aa.mk (au.trans (by exact HK.out) (au.of_below hb g none) (.inl rfl)); have Fz := aa.mk ((by rw [hg]; exact Nat.ne_of_lt (aV.lt (show aV w0 _ g s0_0 s0_1 from by exact HI0.out)) : g ≠ wK)); have wN := aa.mk Fz.out.symm; replace HI0 := aa.mk (aV.below (by exact HI0.out) hb); clear hb hbox hg) | ((with_reducible refine bR (f := 50) rfl ?_); refine eY (some 11) rfl rfl Try.func50 (by kernel_rfl) rfl #[.pointer (some ⟨g, 0, none⟩), .int .i64 (-600), .int .i64 300] rfl (by (simp only [List.map_toArray, List.map_cons, List.map_nil]); rfl) ?_; (with_reducible refine (cZ.calls g s0_0 s0_1 (-600) 300 pz abx adi w0 _ ?side1 ?side2 A3.out).mono ?_); (case side1 => exact HI0.out); (case side2 => exact HB.out); rintro e w7 ⟨rfl, hi, hb, hk⟩; refine ⟨_, rfl, ?_⟩; replace lc := aa.mk (au.blk hk (bU lc.out) wN.out (by simp)); replace HK := aa.mk (au.trans (by exact HK.out) hk (.inl rfl)); replace HB := aa.mk (hb); replace HI0 := aa.mk (hi); clear hb; clear hk; (clear hi)) | ((with_reducible refine bR (f := 33) rfl ?_); refine eY (some 15) rfl rfl Try.func33 (by kernel_rfl) rfl #[.pointer (some ⟨g, 0, none⟩), .int .i64 200] rfl (by (simp only [List.map_toArray, List.map_cons, List.map_nil]); rfl) ?_; (with_reducible refine (bn.calls g abx adi 200 zl ZR aay w0 _ ?side1 ?side2 A4.out).mono ?_); (case side1 => exact HI0.out); (case side2 => exact HB.out); rintro e w8 ⟨rfl, hi, hb, hk⟩; refine ⟨_, rfl, ?_⟩; replace lc := aa.mk (au.blk hk (bU lc.out) wN.out (by simp)); replace HK := aa.mk (au.trans (by exact HK.out) hk (.inl rfl)); replace HB := aa.mk (hb); replace HI0 := aa.mk (hi); clear hb; clear hk; (clear hi)) | ((with_reducible refine df (N := 6) rfl ?_); refine dA ?hg (N := 6) ?hd (cs := #[.int .i64 0, .int .i64 0, .slice none 0 0]) (t := 66) ?hr ?_; (case hd => rfl); (case hg => rfl); (case hr => (go_simp; done)); intro vz hg w9 hbox hb; replace HB := aa.mk (av (by exact HB.out) hb); have jr := aa.mk (hbox); have Xq := aa.mk ((by rw [hg]; exact (cu (w := w) (g := g) (row := none) (by exact HK.out)) : w.heap.size ≤ vz)); have Yx := aa.mk ((Nat.le_trans HW0.out (by rw [hg]; exact (cu (w := w) (g := g) (row := none) (by exact HK.out)) : w.heap.size ≤ vz) : w0.heap.size ≤ vz)); replace HK := aa.mk (au.trans (by exact HK.out) (au.of_below hb g none) (.inl rfl)); have oJ := aa.mk (nb_ hg (bU lc.out)); have zL := aa.mk oJ.out.symm; replace lc := aa.mk (aj (bU lc.out) hb); have yQ := aa.mk ((by rw [hg]; exact Nat.ne_of_lt (aV.lt (show aV w0 _ g ZR aay from by exact HI0.out)) : g ≠ vz)); have yl := aa.mk yQ.out.symm; replace HI0 := aa.mk (aV.below (by exact HI0.out) hb); clear hb hbox hg; have ajK := zL.out; have aj0 := oJ.out; have abH := yl.out; have aeG := yQ.out; obtain ⟨Gw, Gy, Lu, Gi, Fa, LC⟩ := cells3 jr.out) | ((with_reducible refine bR (f := 50) rfl ?_); refine eY (some 21) rfl rfl Try.func50 (by kernel_rfl) rfl #[.pointer (some ⟨g, 0, none⟩), .int .i64 1, .int .i64 a1] rfl (by (simp only [List.map_toArray, List.map_cons, List.map_nil]); rfl) ?_; (with_reducible refine (cZ.calls g ZR aay 1 a1 adk ad3 adV w0 _ ?side1 ?side2 A5.out).mono ?_); (case side1 => repeat ((with_reducible first | exact HI0.out | refine aV.far ?_ yQ.out _))); (case side2 => repeat ((with_reducible first | exact HB.out | refine bZ ?_ Yx.out))); rintro e w13 ⟨rfl, hi, hb, hk⟩; refine ⟨_, rfl, ?_⟩; replace lc := aa.mk (au.blk hk (g' := wK) (o := .cells #[.int .i64 0, .int .i64 0, .slice none 0 0] 66 (0, 0)) (by refine aY ?_ oJ.out _; refine aY ?_ oJ.out _; refine aY ?_ oJ.out _; exact lc.out) wN.out (by simp)); replace jr := aa.mk (au.blk hk (g' := vz) (o := .cells #[.int .i64 pz, .int .i64 (wrap64 (pz + zl)), .slice none 0 0] 66 (0, 0)) (by refine bJ (cs := #[.int .i64 pz, .int .i64 (wrap64 (pz + zl)), .slice none 0 0]) ?_ 2 _ rfl; refine bJ (cs := #[.int .i64 pz, .int .i64 0, .slice none 0 0]) ?_ 1 _ rfl; refine bJ (cs := #[.int .i64 0, .int .i64 0, .slice none 0 0]) ?_ 0 _ rfl; exact jr.out) yl.out (by simp)); replace HK := aa.mk (au.trans (by repeat ((with_reducible first | exact HK.out | refine mJ ?_ Xq.out _))) hk (.inl rfl)); replace HB := aa.mk (hb); replace HI0 := aa.mk (hi); clear hb; clear hk; (clear hi)))); (go_loopg [7, 8] k (fun kq v7 v8 w' => ∃ (xB : Int) (Ee : Int) (ll : Int) (lg : Int) (kP : List (S86)) (rz : Value), v7 = .int .i64 xB ∧ v8 = .int .i64 Ee ∧ aa (aM.l0 kq xB Ee ll lg pz (wrap64 (pz + zl)) kP = some (r1, r2, r3, r4, r5)) ∧ aa (kq ≤ k) ∧ aa (Kd.R k86 86 w' w.heap.size (fun _ => True) rz kP) ∧ aa (w'.heap[wK]? = some (.cells #[.int .i64 0, .int .i64 0, (.slice none 0 0)] 66 (0, 0))) ∧ aa (w'.heap[vz]? = some (.cells #[.int .i64 pz, .int .i64 (wrap64 (pz + zl)), rz] 66 (0, 0))) ∧ aa (aV w0 w' g ll lg) ∧ aa (au w w' g none) ∧ aa (Below w0.heap.size w0 w'))); case atStart => exact ⟨(0), (adk), (ad3), (adV), (([] : List (S86))), (.slice none 0 0), (by rfl), (by rfl), H', ⟨Nat.le_refl _⟩, ⟨by exact Kd.sw _ _ _ _ _⟩, ⟨by exact lc.out⟩, ⟨by exact jr.out⟩, ⟨by exact HI0.out⟩, ⟨by exact HK.out⟩, ⟨by exact HB.out⟩⟩
 case round =>
  clear H' Gw Gy Lu Gi Fa LC; obtain ⟨xB, Ee, ll, lg, kP, rz, rfl, rfl, HA, HK1, gX, lc, jr, HI0, HK, HB⟩ := hrel
  cases gk with
  | zero => exact absurd HA.out (by simp [aM.l0])
  | succ k1 =>
   have H := HA.out; clear HA; simp only [aM.l0] at H; have aaV := aa.mk H; clear H; (go_upto_region 5 with (fail)); go_cut [27] (fun v27 wc => ∃ (kq : Nat) (Gt : Bool), v27 = .bool Gt ∧ aa (aM.j1 kq xB Ee Gt ll lg pz (wrap64 (pz + zl)) kP = some (r1, r2, r3, r4, r5)) ∧ aa (kq ≤ k1) ∧ aa (Kd.R k86 86 wc w.heap.size (fun _ => True) rz kP) ∧ aa (wc.heap[wK]? = some (.cells #[.int .i64 0, .int .i64 0, (.slice none 0 0)] 66 (0, 0))) ∧ aa (wc.heap[vz]? = some (.cells #[.int .i64 pz, .int .i64 (wrap64 (pz + zl)), rz] 66 (0, 0))) ∧ aa (aV w0 wc g ll lg) ∧ aa (au w wc g none) ∧ aa (Below w0.heap.size w0 wc))
   case first =>
    have H := aaV.out; clear aaV; by_cases c15 : Ee > 0
    ·rw [if_pos c15] at H; have YE : decide (0 < Ee) = true := decide_eq_true c15; clear c15; (skip); have H' := aa.mk H; clear H; go_wp2; go_meet; case rel => exact ⟨_, (decide (xB < 26)), (by rfl), H', ⟨by have := HK1.out; omega⟩, ⟨by exact gX.out⟩, ⟨by exact lc.out⟩, ⟨by exact jr.out⟩, ⟨by exact HI0.out⟩, ⟨by exact HK.out⟩, ⟨by exact HB.out⟩⟩
    ·rw [if_neg c15] at H; have YE : decide (0 < Ee) = false := decide_eq_false c15; clear c15; (skip); have H' := aa.mk H; clear H; go_wp2; go_meet; case rel => exact ⟨_, (false), (by rfl), H', ⟨by have := HK1.out; omega⟩, ⟨by exact gX.out⟩, ⟨by exact lc.out⟩, ⟨by exact jr.out⟩, ⟨by exact HI0.out⟩, ⟨by exact HK.out⟩, ⟨by exact HB.out⟩⟩
   case rest =>
    clear aaV; obtain ⟨kq, Gt, rfl, HA, HJ13, gX, lc, jr, HI0, HK, HB⟩ := hcut
    cases kq with
    | zero => exact absurd HA.out (by simp [aM.j1])
    | succ kj13 =>
     have H := HA.out; clear HA; simp only [aM.j1] at H; by_cases c16 : Gt = true
     ·subst c16; rw [if_pos rfl] at H; obtain ⟨V7, YG⟩ : ∃ j_ : Int, (mn 4 (wrap64 (26 - xB))) = j_ := ⟨_, rfl⟩; (replace H : ((bn.f ll lg (V7)).bind fun yf => ((cZ.f yf.2.1 yf.2.2 1 31).bind fun BJ => (if kP.length < 8796093022208 then (aM.l0 kj13 (wrap64 ((wrap64 (xB + yf.1)) + 1)) (wrap64 (Ee - 1)) BJ.2.1 BJ.2.2 pz (wrap64 (pz + zl)) (kP ++ [(⟨(wrap64 (65 + (wrap64 (xB + yf.1)))) % 256, BJ.1⟩ : S86)])) else (none)))) = some (r1, r2, r3, r4, r5) := by (rw [YG] at H; exact H)); have aif : (if (wrap64 (26 - xB)) < 4 then (wrap64 (26 - xB)) else 4) = V7 := YG; replace H := Option.bind_eq_some_iff.mp H; obtain ⟨⟨JE, aaM, aag⟩, adS, H⟩ := H; dsimp only at H; have A18 := aa.mk adS; clear adS; replace H := Option.bind_eq_some_iff.mp H; obtain ⟨⟨PL, aav, Zj⟩, Rf, H⟩ := H; dsimp only at H; have A19 := aa.mk Rf; clear Rf; by_cases c20 : kP.length < 8796093022208
      ·rw [if_pos c20] at H; have R7 := aa.mk c20; clear c20; obtain ⟨UJ, QB⟩ : ∃ y_ : List (S86), y_ = (kP ++ [(⟨(wrap64 (65 + (wrap64 (xB + JE)))) % 256, PL⟩ : S86)]) := ⟨_, rfl⟩; (replace H : (aM.l0 kj13 (wrap64 ((wrap64 (xB + JE)) + 1)) (wrap64 (Ee - 1)) aav Zj pz (wrap64 (pz + zl)) UJ) = some (r1, r2, r3, r4, r5) := by (rw [QB]; with_reducible exact H)); have ac1 := aa.mk QB; clear QB; have H' := aa.mk H; clear H; (go_wp2_with (((with_reducible refine bR (f := 33) rfl ?_); refine eY (some 35) rfl rfl Try.func33 (by kernel_rfl) rfl #[.pointer (some ⟨g, 0, none⟩), .int .i64 V7] rfl (by (simp only [List.map_toArray, List.map_cons, List.map_nil]); rfl) ?_; (with_reducible refine (bn.calls g ll lg V7 JE aaM aag w0 _ ?side1 ?side2 A18.out).mono ?_); (case side1 => exact HI0.out); (case side2 => exact HB.out); rintro e w21 ⟨rfl, hi, hb, hk⟩; refine ⟨_, rfl, ?_⟩; replace gX := aa.mk (Kd.cz (Kd.mE (aV.apart (show aV w0 _ g ll lg from by exact HI0.out) (rU gX.out) (by decide)) hk (fun _ h => h.2)) (fun _ h => h.1)); replace lc := aa.mk (au.blk hk (bU lc.out) wN.out (by simp)); replace jr := aa.mk (au.blk hk (bU jr.out) yl.out (by simp)); replace HK := aa.mk (au.trans (by exact HK.out) hk (.inl rfl)); replace HB := aa.mk (hb); replace HI0 := aa.mk (hi); clear hb; clear hk; (clear hi)))); replace gX := aa.mk (Kd.qW gX.out); replace lc := aa.mk (dD lc.out); replace jr := aa.mk (dD jr.out); replace HI0 := aa.mk (aV.drew HI0.out); replace HK := aa.mk (rG HK.out); replace HB := aa.mk (gD HB.out); refine oF (n := 12) (S := fun w' => w'.cell? ⟨vz, 0, none⟩ = some (.int .i64 pz) ∧ w'.cell? ⟨vz, 1, none⟩ = some (.int .i64 (wrap64 (pz + zl))) ∧ w'.cell? ⟨vz, 2, none⟩ = some (rz)) (ds := [11]) (ba 12 0) (by kernel_rfl) rfl rfl ⟨(af jr.out 0).trans rfl, (af jr.out 1).trans rfl, (af jr.out 2).trans rfl⟩ (fun bB => ?_); refine kw aM.YX aM.Ps (fun HT_ HW_ => ?_); generalize w21.drew = w22 at gX lc jr HI0 HK HB bB ⊢; refine dO 0 37 (ba 12 1) HT_.out ?_
       refine dO 2 39 (ba 12 5) HT_.out ?_
       refine dO 3 40 (ba 12 13) HT_.out ?_
       refine dO 4 41 (ba 12 29) HT_.out ?_
       refine dO 5 42 (ba 12 61) HT_.out ?_
       refine mR 1 38 (ba 12 63) HT_.out HW_.out bB ?_
       refine on_ 6 (some 43) (ba 12 127) HT_.out (fun K hK => ?_); refine wG Try.func50 (by kernel_rfl) rfl #[.pointer (some ⟨g, 0, none⟩), .int .i64 1, .int .i64 31] (by rfl) rfl rfl (by (simp only [List.map_toArray, List.map_cons, List.map_nil]); rfl) ?_; (with_reducible refine (cZ.calls g aaM aag 1 31 PL aav Zj w0 _ ?side1 ?side2 A19.out).mono ?_); (case side1 => exact HI0.out); (case side2 => exact HB.out); rintro e w23 ⟨rfl, hi, hb, hk⟩; refine ⟨_, rfl, ?_⟩; replace gX := aa.mk (Kd.cz (Kd.mE (aV.apart (show aV w0 _ g aaM aag from by exact HI0.out) (rU gX.out) (by decide)) hk (fun _ h => h.2)) (fun _ h => h.1)); replace lc := aa.mk (au.blk hk (bU lc.out) wN.out (by simp)); replace jr := aa.mk (au.blk hk (bU jr.out) yl.out (by simp)); replace HK := aa.mk (au.trans (by exact HK.out) hk (.inl rfl)); replace HB := aa.mk (hb); replace HI0 := aa.mk (hi); (clear hb); (skip); (clear hk); (clear hi); refine hK.out _ _ ⟨(af jr.out 0).trans rfl, (af jr.out 1).trans rfl, (af jr.out 2).trans rfl⟩ (fun bB => ?_); clear hK K; refine kT ?_
       refine dO 7 44 (ba 12 255) HT_.out ?_
       refine on_ 8 (some 45) (ba 12 511) HT_.out (fun K hK => ?_); refine zD (w1 := ?_) (v := ?_) (by rfl) rfl ?_ ?_; rotate_left 2
       ·go_simp; constructor
        ·rfl
        ·rfl
       refine hK.out _ _ ⟨(af (cK jr.out _) 0).trans rfl, (af (cK jr.out _) 1).trans rfl, (af (cK jr.out _) 2).trans rfl⟩ (fun bB => ?_); clear hK K; refine kT ?_
       refine on_ 9 (some 46) (ba 12 1023) HT_.out (fun K hK => ?_); refine Kd.tZ k86 w.heap.size (by rfl) (.tmp 38) (.tmp 45) 64 86 (.agg #[(.int .u8 0), (.int .i64 0)]) 16 rfl Try.underlying64 SE rfl (by decide) (by omega) rz kP (⟨(wrap64 (65 + (wrap64 (xB + JE)))) % 256, PL⟩ : S86) [.int .u8 ((wrap64 (65 + (wrap64 (xB + JE)))) % 256), .int .i64 PL] (fun _ => True) (fun _ => False) rfl rfl ?aP (fun _ hk => hk.elim) ?aF ?aO (Below.refl _ _) ?aS ?aL ?_; (case aP => exact vv _ _ _ (⟨(wrap64 (65 + (wrap64 (xB + JE)))) % 256, PL⟩ : S86)); (case aF => exact (fun _ _ => trivial)); (case aO => exact (rU gX.out)); (case aS => exact (cu (w := w) (g := g) (row := none) (by exact HK.out))); (case aL => have := R7.out; omega); intro alB w24 ho hb hg hat; rw [← ac1.out] at ho; replace lc := aa.mk (bS (bU lc.out) hg (Kd.mG gX.out lc.out (by decide))); replace jr := aa.mk (bS (bU jr.out) hg (Kd.mG gX.out jr.out (by decide))); replace HI0 := aa.mk (aV.grown (by exact HI0.out) hg (aV.own_ne HI0.out gX.out (by decide))); replace HB := aa.mk (mf (by exact HB.out) HL.out hb); replace HK := aa.mk (au.trans (by exact HK.out) (au.nZ hg g) (Kd.wW gX.out)); have XJ := aa.mk (ho); clear gX ho hb hg hat; obtain ⟨Vm, Uo, Zq⟩ := Kd.fe XJ.out; (subst Zq); refine hK.out _ _ ⟨(af jr.out 0).trans rfl, (af jr.out 1).trans rfl, (af jr.out 2).trans rfl⟩ (fun bB => ?_); clear hK K; refine kT ?_
       refine dO 10 47 (ba 12 2047) HT_.out ?_
       refine BC 11 none (ba 12 4095) HT_.out (fun K hK => ?_); have hs26 : w24.cell? ⟨vz, 2, none⟩ = some (rz) := (af jr.out 2).trans rfl; have hfs26 := aK jr.out 2; have hns26_0 := oJ.out; have hms26_0 := zL.out; refine sU (w1 := ?_) (by rfl) rfl ?_ ?_; rotate_left
       ·go_simp; rfl
       refine hK.out _ _ ?_; clear hK K; refine zN HT_.out ?_; go_wp2; go_roundg kj13; (case measure => have := HK1.out; have := HJ13.out; omega); case rel => exact ⟨(wrap64 ((wrap64 (xB + JE)) + 1)), (wrap64 (Ee - 1)), (aav), (Zj), (UJ), (.slice Vm UJ.length Uo), (by rfl), (by rfl), H', ⟨by have := HK1.out; have := HJ13.out; omega⟩, ⟨by exact Kd.cz (Kd.jV (p := ⟨vz, 2, none⟩) (Kd.dQ XJ.out jr.out (by decide)) (fun _ hk => hk.2) (.slice Vm UJ.length Uo)) (fun _ hk => trivial)⟩, ⟨by refine aY ?_ oJ.out _; exact lc.out⟩, ⟨by refine bJ (cs := #[.int .i64 pz, .int .i64 (wrap64 (pz + zl)), rz]) ?_ 2 _ rfl; exact jr.out⟩, ⟨by repeat ((with_reducible first | exact HI0.out | refine aV.far ?_ yQ.out _))⟩, ⟨by repeat ((with_reducible first | exact HK.out | refine mJ ?_ Xq.out _))⟩, ⟨by repeat ((with_reducible first | exact HB.out | refine bZ ?_ Yx.out))⟩⟩
      ·rw [if_neg c20] at H; exact absurd H (by simp)
     ·replace c16 := Bool.eq_false_iff.mpr c16; subst c16; rw [if_neg (show ¬ (false = true) by decide)] at H; simp only [Option.some.injEq, Prod.mk.injEq] at H; obtain ⟨rfl, rfl, rfl, rfl, rfl⟩ := H; have akB := zL.out; have ajC := oJ.out; have ad9 := yl.out; have ada := yQ.out; obtain ⟨afZ, aeT, agv, ae4, agh, af7⟩ := cells3 jr.out; have aeI := wN.out; have aej := Fz.out; obtain ⟨LQ, Mr, UN, Mj, KY, UB⟩ := cells3 lc.out; obtain ⟨ac3, adM, aic⟩ := Kd.fe gX.out; subst aic; go_wp2; refine bodyPost_ret (results_cell_row rfl _ _ wK 66 #[.int .i64 pz, .int .i64 (wrap64 (pz + zl)), .slice ac3 kP.length adM] (0, 0) _ rfl (by refine bJ (cs := #[.int .i64 pz, .int .i64 (wrap64 (pz + zl)), .slice none 0 0]) ?_ 2 _ rfl; refine bJ (cs := #[.int .i64 pz, .int .i64 0, .slice none 0 0]) ?_ 1 _ rfl; refine bJ (cs := #[.int .i64 0, .int .i64 0, .slice none 0 0]) ?_ 0 _ rfl; exact lc.out) Try.underlying66 rfl (by kernel_rfl)) rfl ?_; exact ⟨_, by rfl, by exact Kd.cz (Kd.jV (p := ⟨wK, 2, none⟩) (Kd.jV (p := ⟨wK, 1, none⟩) (Kd.jV (p := ⟨wK, 0, none⟩) (Kd.dQ gX.out lc.out (by decide)) (fun _ hk => hk.2) (.int .i64 pz)) (fun _ hk => hk.2) (.int .i64 (wrap64 (pz + zl)))) (fun _ hk => hk.2) (.slice ac3 kP.length adM)) (fun _ hk => trivial), by repeat ((with_reducible first | exact HI0.out | refine aV.far ?_ Fz.out _)), by repeat ((with_reducible first | exact HB.out | refine bZ ?_ aer.out)), by repeat ((with_reducible first | exact HK.out | refine mJ ?_ aeq.out _))⟩
def dR.f (s0_0 : Int) (s0_1 : Int) (l1 : List Int) : Option (Int × Int × Int) := if (l1.length : Int) = 0 then (some (0, s0_0, s0_1)) else ((bn.f s0_0 s0_1 (l1.length : Int)).bind fun wI => (if 0 ≤ wI.1 then (if wI.1 < (l1.length : Int) then (some (rd l1 wI.1, wI.2.1, wI.2.2)) else (none)) else (none)))
set_option maxHeartbeats 8000000 in
set_option maxRecDepth 100000 in
theorem dR.calls (g : Nat) (s0_0 : Int) (s0_1 : Int) (A1 : Option Addr) (c1 : Nat) (l1 : List Int) (r1 : Int) (r2 : Int) (r3 : Int) (w0 w : World) (hI : aV w0 w g s0_0 s0_1) (hB : Below w0.heap.size w0 w) (hr1 : Kd.C (Kd.int .i64) w A1 l1.length l1) (hc1 : l1.length ≤ c1) (hf1 : ∀ ad, A1 = some ad → 0 < l1.length → ad.block ≠ g) (h : dR.f s0_0 s0_1 l1 = some (r1, r2, r3)) :
 Calls Try.prog 52 #[.pointer (some ⟨g, 0, none⟩), .slice A1 l1.length c1] w fun e w' => e = .returned (.int .i64 r1) ∧ aV w0 w' g r2 r3 ∧ Below w0.heap.size w0 w' ∧ au w w' g none := by
 have HR1 := aa.mk hr1; have HC1 := aa.mk hc1; clear hr1 hc1; have HI0 := aa.mk hI; have HK := aa.mk (au.refl w g none); have HL := aa.mk hB.size; clear hI; have HW0 := aa.mk hB.size; have HB := aa.mk hB; clear hB; have H : (if (l1.length : Int) = 0 then (some (0, s0_0, s0_1)) else ((bn.f s0_0 s0_1 (l1.length : Int)).bind fun wI => (if 0 ≤ wI.1 then (if wI.1 < (l1.length : Int) then (some (rd l1 wI.1, wI.2.1, wI.2.2)) else (none)) else (none)))) = some (r1, r2, r3) := h; clear h; by_cases c3 : (l1.length : Int) = 0
 ·rw [if_pos c3] at H; have uP : ((l1.length : Int) == 0) = true := beq_iff_eq.mpr c3; have D6 : ((l1.length : Int) != 0) = false := bne_eq_false_iff_eq.mpr c3; clear c3; simp only [Option.some.injEq, Prod.mk.injEq] at H; obtain ⟨rfl, rfl, rfl⟩ := H; go_enter Try.func52, Try.ntmps52; go_wp2
  go_ret
  exact ⟨by rfl, by exact HI0.out, by exact HB.out, by exact HK.out⟩
 ·rw [if_neg c3] at H; have uP : ((l1.length : Int) == 0) = false := beq_eq_false_iff_ne.mpr c3; have D6 : ((l1.length : Int) != 0) = true := bne_iff_ne.mpr c3; (have alj : ¬ (l1 = []) := fun h_ => c3 (by rw [h_]; rfl)); replace H := Option.bind_eq_some_iff.mp H; obtain ⟨⟨H6, ain, ahV⟩, A40, H⟩ := H; dsimp only at H; have A4 := aa.mk A40; clear A40; by_cases c5 : 0 ≤ H6
  ·rw [if_pos c5] at H; have Bd : decide (0 ≤ H6) = true := decide_eq_true c5; clear c5; by_cases c6 : H6 < (l1.length : Int)
   ·rw [if_pos c6] at H; have UL : decide (H6 < (l1.length : Int)) = true := decide_eq_true c6; clear c6; simp only [Option.some.injEq, Prod.mk.injEq] at H; obtain ⟨rfl, rfl, rfl⟩ := H; go_enter Try.func52, Try.ntmps52; go_wp2_with (((with_reducible refine bR (f := 33) rfl ?_); refine eY (some 12) rfl rfl Try.func33 (by kernel_rfl) rfl #[.pointer (some ⟨g, 0, none⟩), .int .i64 (l1.length : Int)] rfl (by (simp only [List.map_toArray, List.map_cons, List.map_nil]); rfl) ?_; (with_reducible refine (bn.calls g s0_0 s0_1 (l1.length : Int) H6 ain ahV w0 _ ?side1 ?side2 A4.out).mono ?_); (case side1 => exact HI0.out); (case side2 => exact HB.out); rintro e w7 ⟨rfl, hi, hb, hk⟩; refine ⟨_, rfl, ?_⟩; replace HK := aa.mk (au.trans (by exact HK.out) hk (.inl rfl)); replace HB := aa.mk (hb); replace HI0 := aa.mk (hi); clear hb; clear hk; clear hi; have aaD : 0 ≤ (H6 : Int) := of_decide_eq_true (by with_reducible assumption); have ZZ : H6 < (l1.length : Int) := of_decide_eq_true (by with_reducible assumption); obtain ⟨ajX, e377, Mv⟩ := Kd.sM HR1.out H6 aaD ZZ; cases e377; replace Mv := Nh HK.out Mv (by (rw [add_block]; exact hf1 _ rfl (by omega))); replace aaD := eq_true aaD; replace ZZ := eq_true ZZ))
    go_ret
    exact ⟨by rfl, by exact HI0.out, by exact HB.out, by exact HK.out⟩
   ·rw [if_neg c6] at H; exact absurd H (by simp)
  ·rw [if_neg c5] at H; exact absurd H (by simp)
mutual
def ah.l0 : Nat → Int → Int → Int → Int → Int → List (S66) → Int → Int → Int → Option ((List (S66)) × Int × Int × Int × (List (List (S27))) × Int × ByteArray × List Int × Int × Int)
 | 0, _, _, _, _, _, _, _, _, _ => none
 | k + 1, x2, x3, x11, lW, lT, gW, iW, iP, jo => if x11 > 0 then ((aM.f k lW lT x2).bind fun GM => ((some (([(⟨(⟨GM.1, GM.2.1⟩ : S63), GM.2.2.1⟩ : S66)] : List (S66)) : List (S66))).bind fun Cy => (if gW.length + Cy.length < 3518437208883 then (ah.l0 k x2 x3 (wrap64 (x11 - 1)) GM.2.2.2.1 GM.2.2.2.2 (gW ++ Cy) iW iP jo) else (none)))) else ((bn.f lW lT (gW.length : Int)).bind fun Ef => (if 0 ≤ Ef.1 then (if Ef.1 < (gW.length : Int) then ((cZ.f Ef.2.1 Ef.2.2 1 x3).bind fun Dj => (ah.l1 k ((ai gW Ef.1).f1) 0 Dj.1 Dj.2.1 Dj.2.2 gW iW iP jo ([] : List (List (S27))) Ef.1 (⟨#[]⟩ : ByteArray) ([] : List Int))) else (none)) else (none)))
def ah.l1 : Nat → List (S86) → Int → Int → Int → Int → List (S66) → Int → Int → Int → List (List (S27)) → Int → ByteArray → List Int → Option ((List (S66)) × Int × Int × Int × (List (List (S27))) × Int × ByteArray × List Int × Int × Int)
 | 0, _, _, _, _, _, _, _, _, _, _, _, _, _ => none
 | k + 1, x13, x14, x15, lW, lT, gW, iW, iP, jo, jJ, jT, jI, jG => if x15 > 0 then ((bn.f lW lT (x13.length : Int)).bind fun Cc => (if 0 ≤ Cc.1 then (if Cc.1 < (x13.length : Int) then ((bn.f Cc.2.1 Cc.2.2 (wrap64 (iW + 1))).bind fun Dc => ((bn.f Dc.2.1 Dc.2.2 (wrap64 (iP + 1))).bind fun wh => (ah.l2 k x13 x14 x15 ((ak x13 Cc.1).f1) Dc.1 wh.1 0 wh.2.1 wh.2.2 gW iW iP jo jJ jT jI jG ((ak x13 Cc.1).f0) ((ak x13 Cc.1).f1)))) else (none)) else (none))) else ((dR.f lW lT (([0, 0, 1, 2] : List Int))).bind fun BI => (some (gW, iW, iP, mn 40 (wrap64 (x14 + BI.1)), jJ, jT, jI, jG, BI.2.1, BI.2.2)))
def ah.l2 : Nat → List (S86) → Int → Int → Int → Int → Int → Int → Int → Int → List (S66) → Int → Int → Int → List (List (S27)) → Int → ByteArray → List Int → Int → Int → Option ((List (S66)) × Int × Int × Int × (List (List (S27))) × Int × ByteArray × List Int × Int × Int)
 | 0, _, _, _, _, _, _, _, _, _, _, _, _, _, _, _, _, _, _, _ => none
 | k + 1, x13, x14, x15, x17, x18, x19, x20, lW, lT, gW, iW, iP, jo, jJ, jT, jI, jG, lu, jR => if x20 < 5 then (if 0 ≤ x20 then (if (Go.bits .and .i64 (shr .i64 jR x20) 1) = 1 then (if x18 > 0 then ((dB.f lW lT 1 3).bind fun CP => (ah.j3 k x13 x14 x15 x17 x18 x19 x20 ((Go.bits .and .i64 (shr .i64 jR x20) 1) == 1) CP.1 CP.2.1 CP.2.2 gW iW iP jo jJ jT jI jG lu jR)) else (ah.j3 k x13 x14 x15 x17 x18 x19 x20 ((Go.bits .and .i64 (shr .i64 jR x20) 1) == 1) false lW lT gW iW iP jo jJ jT jI jG lu jR)) else (ah.j3 k x13 x14 x15 x17 x18 x19 x20 ((Go.bits .and .i64 (shr .i64 jR x20) 1) == 1) false lW lT gW iW iP jo jJ jT jI jG lu jR)) else (none)) else ((dR.f lW lT (([0, 1, 1, 2, 3] : List Int))).bind fun CZ => (ah.l3 k x13 x14 x15 x17 ([] : List (S27)) CZ.1 CZ.2.1 CZ.2.2 gW iW iP jo jJ jT jI jG lu jR))
def ah.j3 : Nat → List (S86) → Int → Int → Int → Int → Int → Int → Bool → Bool → Int → Int → List (S66) → Int → Int → Int → List (List (S27)) → Int → ByteArray → List Int → Int → Int → Option ((List (S66)) × Int × Int × Int × (List (List (S27))) × Int × ByteArray × List Int × Int × Int)
 | 0, _, _, _, _, _, _, _, _, _, _, _, _, _, _, _, _, _, _, _, _, _ => none
 | k + 1, x13, x14, x15, x17, x18, x19, x20, x21, aja, lW, lT, gW, iW, iP, jo, jJ, jT, jI, jG, lu, jR => if aja = true then (if 0 ≤ x20 then (if x21 = true then (ah.l2 k x13 (wrap64 (x14 + 1)) x15 (wrap64 (x17 - (shl .i64 1 x20))) (wrap64 (x18 - 1)) x19 (wrap64 (x20 + 1)) lW lT gW iW iP jo jJ jT jI jG lu jR) else (if x19 > 0 then ((dB.f lW lT 1 3).bind fun qM => (if qM.1 = true then (ah.l2 k x13 (wrap64 ((wrap64 (x14 + 1)) + 1)) x15 (wrap64 ((wrap64 (x17 - (shl .i64 1 x20))) + (shl .i64 1 x20))) (wrap64 (x18 - 1)) (wrap64 (x19 - 1)) (wrap64 (x20 + 1)) qM.2.1 qM.2.2 gW iW iP jo jJ jT jI jG lu jR) else (ah.l2 k x13 (wrap64 (x14 + 1)) x15 (wrap64 (x17 - (shl .i64 1 x20))) (wrap64 (x18 - 1)) x19 (wrap64 (x20 + 1)) qM.2.1 qM.2.2 gW iW iP jo jJ jT jI jG lu jR))) else (ah.l2 k x13 (wrap64 (x14 + 1)) x15 (wrap64 (x17 - (shl .i64 1 x20))) (wrap64 (x18 - 1)) x19 (wrap64 (x20 + 1)) lW lT gW iW iP jo jJ jT jI jG lu jR))) else (none)) else (if x21 = true then (ah.l2 k x13 x14 x15 x17 x18 x19 (wrap64 (x20 + 1)) lW lT gW iW iP jo jJ jT jI jG lu jR) else (if x19 > 0 then ((dB.f lW lT 1 3).bind fun vQ => (if vQ.1 = true then (if 0 ≤ x20 then (ah.l2 k x13 (wrap64 (x14 + 1)) x15 (wrap64 (x17 + (shl .i64 1 x20))) x18 (wrap64 (x19 - 1)) (wrap64 (x20 + 1)) vQ.2.1 vQ.2.2 gW iW iP jo jJ jT jI jG lu jR) else (none)) else (ah.l2 k x13 x14 x15 x17 x18 x19 (wrap64 (x20 + 1)) vQ.2.1 vQ.2.2 gW iW iP jo jJ jT jI jG lu jR))) else (ah.l2 k x13 x14 x15 x17 x18 x19 (wrap64 (x20 + 1)) lW lT gW iW iP jo jJ jT jI jG lu jR)))
def ah.l3 : Nat → List (S86) → Int → Int → Int → List (S27) → Int → Int → Int → List (S66) → Int → Int → Int → List (List (S27)) → Int → ByteArray → List Int → Int → Int → Option ((List (S66)) × Int × Int × Int × (List (List (S27))) × Int × ByteArray × List Int × Int × Int)
 | 0, _, _, _, _, _, _, _, _, _, _, _, _, _, _, _, _, _, _ => none
 | k + 1, x13, x14, x15, x17, x22, x23, lW, lT, gW, iW, iP, jo, jJ, jT, jI, jG, lu, jR => if x23 > 0 then ((bn.f lW lT 32).bind fun Oz => ((dR.f Oz.2.1 Oz.2.2 (([31, 15, Oz.1] : List Int))).bind fun tK => ((some (([(⟨tK.1, Go.bits .and .i64 x17 tK.1⟩ : S27)] : List (S27)) : List (S27))).bind fun tY => (if x22.length + tY.length < 8796093022208 then (ah.l3 k x13 x14 x15 x17 (x22 ++ tY) (wrap64 (x23 - 1)) tK.2.1 tK.2.2 gW iW iP jo jJ jT jI jG lu jR) else (none))))) else ((some (([lu] : List Int) : List Int)).bind fun jh => (if jI.size + (strOfNums jh).size ≤ 9223372036854775807 then ((some (([x17] : List Int) : List Int)).bind fun mX => (if jG.length + mX.length < 17592186044416 then ((some (([x22] : List (List (S27))) : List (List (S27)))).bind fun ug => (if jJ.length + ug.length < 5864062014805 then (ah.l1 k x13 x14 (wrap64 (x15 - 1)) lW lT gW iW iP jo (jJ ++ ug) jT (jI ++ (strOfNums jh)) (jG ++ mX)) else (none))) else (none))) else (none)))
end
def ah.f (k : Nat) (s0_0 : Int) (s0_1 : Int) (a1 : Int) (a2 : Int) (a3 : Int) : Option ((List (S66)) × Int × Int × Int × (List (List (S27))) × Int × ByteArray × List Int × Int × Int) := (bn.f s0_0 s0_1 3).bind fun C9 => ((bn.f C9.2.1 C9.2.2 3).bind fun wH => ((cZ.f wH.2.1 wH.2.2 1 a1).bind fun sG => (ah.l0 k a2 a3 sG.1 sG.2.1 sG.2.2 ([] : List (S66)) C9.1 wH.1 0)))
theorem ah.gq : ∀ k, (∀ y0 y1 y2 y3 y4 y5 y6 y7 y8, LeO (ah.l0 k y0 y1 y2 y3 y4 y5 y6 y7 y8) (ah.l0 (k + 1) y0 y1 y2 y3 y4 y5 y6 y7 y8)) ∧ (∀ y0 y1 y2 y3 y4 y5 y6 y7 y8 y9 y10 y11 y12, LeO (ah.l1 k y0 y1 y2 y3 y4 y5 y6 y7 y8 y9 y10 y11 y12) (ah.l1 (k + 1) y0 y1 y2 y3 y4 y5 y6 y7 y8 y9 y10 y11 y12)) ∧ (∀ y0 y1 y2 y3 y4 y5 y6 y7 y8 y9 y10 y11 y12 y13 y14 y15 y16 y17 y18, LeO (ah.l2 k y0 y1 y2 y3 y4 y5 y6 y7 y8 y9 y10 y11 y12 y13 y14 y15 y16 y17 y18) (ah.l2 (k + 1) y0 y1 y2 y3 y4 y5 y6 y7 y8 y9 y10 y11 y12 y13 y14 y15 y16 y17 y18)) ∧ (∀ y0 y1 y2 y3 y4 y5 y6 y7 y8 y9 y10 y11 y12 y13 y14 y15 y16 y17 y18 y19 y20, LeO (ah.j3 k y0 y1 y2 y3 y4 y5 y6 y7 y8 y9 y10 y11 y12 y13 y14 y15 y16 y17 y18 y19 y20) (ah.j3 (k + 1) y0 y1 y2 y3 y4 y5 y6 y7 y8 y9 y10 y11 y12 y13 y14 y15 y16 y17 y18 y19 y20)) ∧ (∀ y0 y1 y2 y3 y4 y5 y6 y7 y8 y9 y10 y11 y12 y13 y14 y15 y16 y17, LeO (ah.l3 k y0 y1 y2 y3 y4 y5 y6 y7 y8 y9 y10 y11 y12 y13 y14 y15 y16 y17) (ah.l3 (k + 1) y0 y1 y2 y3 y4 y5 y6 y7 y8 y9 y10 y11 y12 y13 y14 y15 y16 y17))
 | 0 => ⟨fun _ _ _ _ _ _ _ _ _ r h => by simp [ah.l0] at h, fun _ _ _ _ _ _ _ _ _ _ _ _ _ r h => by simp [ah.l1] at h, fun _ _ _ _ _ _ _ _ _ _ _ _ _ _ _ _ _ _ _ r h => by simp [ah.l2] at h, fun _ _ _ _ _ _ _ _ _ _ _ _ _ _ _ _ _ _ _ _ _ r h => by simp [ah.j3] at h, fun _ _ _ _ _ _ _ _ _ _ _ _ _ _ _ _ _ _ r h => by simp [ah.l3] at h⟩
 | k + 1 => by
  obtain ⟨ih0, ih1, ih2, ih3, ih4⟩ := ah.gq k; refine ⟨?_, ?_, ?_, ?_, ?_⟩; all_goals intros; (first | unfold ah.l0 | unfold ah.l1 | unfold ah.l2 | unfold ah.j3 | unfold ah.l3); repeat' first | (with_reducible exact ih0 _ _ _ _ _ _ _ _ _) | (with_reducible exact ih1 _ _ _ _ _ _ _ _ _ _ _ _ _) | (with_reducible exact ih2 _ _ _ _ _ _ _ _ _ _ _ _ _ _ _ _ _ _ _) | (with_reducible exact ih3 _ _ _ _ _ _ _ _ _ _ _ _ _ _ _ _ _ _ _ _ _) | (with_reducible exact ih4 _ _ _ _ _ _ _ _ _ _ _ _ _ _ _ _ _ _) | (with_reducible exact aM.mono _ _ _ _) | (with_reducible exact LeO.refl _) | (with_reducible exact LeO.none _) | (with_reducible refine LeO.ite ?_ ?_) | (with_reducible refine LeO.bind ?_ (fun _ => ?_)) | exact ih0 _ _ _ _ _ _ _ _ _ | exact ih1 _ _ _ _ _ _ _ _ _ _ _ _ _ | exact ih2 _ _ _ _ _ _ _ _ _ _ _ _ _ _ _ _ _ _ _ | exact ih3 _ _ _ _ _ _ _ _ _ _ _ _ _ _ _ _ _ _ _ _ _ | exact ih4 _ _ _ _ _ _ _ _ _ _ _ _ _ _ _ _ _ _ | exact aM.mono _ _ _ _ | exact LeO.none _ | refine LeO.ite ?_ ?_ | refine LeO.bind ?_ (fun _ => ?_)
theorem ah.mono : ∀ a0 a1 a2 a3 a4 k, LeO (ah.f k a0 a1 a2 a3 a4) (ah.f (k + 1) a0 a1 a2 a3 a4) := by
 intro a0 a1 a2 a3 a4 k; obtain ⟨ih0, ih1, ih2, ih3, ih4⟩ := ah.gq k; unfold ah.f
 repeat' first
  | (with_reducible exact ih0 _ _ _ _ _ _ _ _ _)
  | (with_reducible exact ih1 _ _ _ _ _ _ _ _ _ _ _ _ _)
  | (with_reducible exact ih2 _ _ _ _ _ _ _ _ _ _ _ _ _ _ _ _ _ _ _)
  | (with_reducible exact ih3 _ _ _ _ _ _ _ _ _ _ _ _ _ _ _ _ _ _ _ _ _)
  | (with_reducible exact ih4 _ _ _ _ _ _ _ _ _ _ _ _ _ _ _ _ _ _)
  | (with_reducible exact aM.mono _ _ _ _)
  | (with_reducible exact LeO.refl _)
  | (with_reducible exact LeO.none _)
  | (with_reducible refine LeO.ite ?_ ?_)
  | (with_reducible refine LeO.bind ?_ (fun _ => ?_))
  | exact ih0 _ _ _ _ _ _ _ _ _
  | exact ih1 _ _ _ _ _ _ _ _ _ _ _ _ _
  | exact ih2 _ _ _ _ _ _ _ _ _ _ _ _ _ _ _ _ _ _ _
  | exact ih3 _ _ _ _ _ _ _ _ _ _ _ _ _ _ _ _ _ _ _ _ _
  | exact ih4 _ _ _ _ _ _ _ _ _ _ _ _ _ _ _ _ _ _
  | exact aM.mono _ _ _ _
  | exact LeO.none _
  | refine LeO.ite ?_ ?_
  | refine LeO.bind ?_ (fun _ => ?_)
def eP.f (a0 : Int) (a1 : Int) (a2 : Int) : Option (Bool) := if a1 ≤ a0 then (some (decide (a0 ≤ a2))) else (some false)
set_option maxHeartbeats 8000000 in
set_option maxRecDepth 100000 in
theorem eP.calls (a0 : Int) (a1 : Int) (a2 : Int) (r : Bool) (w : World) (h : eP.f a0 a1 a2 = some r) :
 Calls Try.prog 64 #[.int .i64 a0, .int .i64 a1, .int .i64 a2] w fun e w' => e = .returned (.bool r) ∧ dF w w' := by
 have H : (if a1 ≤ a0 then (some (decide (a0 ≤ a2))) else (some false)) = some r := h; clear h; by_cases c4 : a1 ≤ a0
 ·rw [if_pos c4] at H; have yu : decide (a1 ≤ a0) = true := decide_eq_true c4; clear c4; obtain rfl := Option.some.inj H; go_enter Try.func64, Try.ntmps64; go_wp2
  go_ret
  exact ⟨by rfl, by exact dF.refl _⟩
 ·rw [if_neg c4] at H; have yu : decide (a1 ≤ a0) = false := decide_eq_false c4; clear c4; obtain rfl := Option.some.inj H; go_enter Try.func64, Try.ntmps64; go_wp2
  go_ret
  exact ⟨by rfl, by exact dF.refl _⟩
mutual
def aG.j0 : Nat → Bool → Int → Int → List (S86) → Option (Int)
 | 0, _, _, _, _ => none
 | k + 1, x5, tJ, tQ, nR => if x5 = true then (some 1) else (if tJ > tQ then (some 5) else (if (nR.length : Int) = 0 then (some 7) else (if (nR.length : Int) > 8 then (some 6) else (aG.l0 k nR (nR.length : Int) 0 tJ tQ nR))))
def aG.l0 : Nat → List (S86) → Int → Int → Int → Int → List (S86) → Option (Int)
 | 0, _, _, _, _, _, _ => none
 | k + 1, x35, x36, x37, tJ, tQ, nR => if x37 < x36 then (if 0 ≤ x37 then (if x37 < (x35.length : Int) then (if ((ak x35 x37).f0) < 65 then (aG.j2 k x37 x35 x36 x37 (decide (((ak x35 x37).f0) < 65)) tJ tQ nR ((ak x35 x37).f0) ((ak x35 x37).f1)) else (aG.j2 k x37 x35 x36 x37 (decide (((ak x35 x37).f0) > 90)) tJ tQ nR ((ak x35 x37).f0) ((ak x35 x37).f1))) else (none)) else (none)) else (some 0)
def aG.j2 : Nat → Int → List (S86) → Int → Int → Bool → Int → Int → List (S86) → Int → Int → Option (Int)
 | 0, _, _, _, _, _, _, _, _, _, _ => none
 | k + 1, x3, x35, x36, x37, x42, tJ, tQ, nR, VY, VW => if x42 = true then (some 8) else ((eP.f VW 1 1023).bind fun aaU => (if aaU = true then (if x3 > 0 then (if 0 ≤ (wrap64 (x3 - 1)) then (if (wrap64 (x3 - 1)) < (nR.length : Int) then (if VY ≤ ((ak nR (wrap64 (x3 - 1))).f0) then (some 5) else (aG.l0 k x35 x36 (wrap64 (x37 + 1)) tJ tQ nR)) else (none)) else (none)) else (aG.l0 k x35 x36 (wrap64 (x37 + 1)) tJ tQ nR)) else (some 1)))
end
def aG.f (k : Nat) (gu : Int) (bg : Int) (fK : List (S86)) : Option (Int) := (eP.f gu (-3000) 3000).bind fun Ho => (if Ho = true then ((eP.f bg (-3000) 3000).bind fun Oq => (aG.j0 k (!Oq) gu bg fK)) else (aG.j0 k (!Ho) gu bg fK))
theorem aG.gq : ∀ k, (∀ y0 y1 y2 y3, LeO (aG.j0 k y0 y1 y2 y3) (aG.j0 (k + 1) y0 y1 y2 y3)) ∧ (∀ y0 y1 y2 y3 y4 y5, LeO (aG.l0 k y0 y1 y2 y3 y4 y5) (aG.l0 (k + 1) y0 y1 y2 y3 y4 y5)) ∧ (∀ y0 y1 y2 y3 y4 y5 y6 y7 y8 y9, LeO (aG.j2 k y0 y1 y2 y3 y4 y5 y6 y7 y8 y9) (aG.j2 (k + 1) y0 y1 y2 y3 y4 y5 y6 y7 y8 y9))
 | 0 => ⟨fun _ _ _ _ r h => by simp [aG.j0] at h, fun _ _ _ _ _ _ r h => by simp [aG.l0] at h, fun _ _ _ _ _ _ _ _ _ _ r h => by simp [aG.j2] at h⟩
 | k + 1 => by
  obtain ⟨ih0, ih1, ih2⟩ := aG.gq k; refine ⟨?_, ?_, ?_⟩
  ·intro y0 y1 y2 y3; unfold aG.j0
   repeat' first | (with_reducible exact ih1 _ _ _ _ _ _) | (with_reducible exact LeO.refl _) | (with_reducible refine LeO.ite ?_ ?_)
  ·intro y0 y1 y2 y3 y4 y5; unfold aG.l0
   repeat' first | (with_reducible exact ih2 _ _ _ _ _ _ _ _ _ _) | (with_reducible exact LeO.refl _) | (with_reducible refine LeO.ite ?_ ?_)
  ·intro y0 y1 y2 y3 y4 y5 y6 y7 y8 y9; unfold aG.j2
   repeat' first | (with_reducible exact ih1 _ _ _ _ _ _) | (with_reducible exact LeO.refl _) | (with_reducible refine LeO.ite ?_ ?_) | (with_reducible refine LeO.bind ?_ (fun _ => ?_))
theorem aG.mono : ∀ a0 a1 a2 k, LeO (aG.f k a0 a1 a2) (aG.f (k + 1) a0 a1 a2) := by
 intro a0 a1 a2 k; obtain ⟨ih0, ih1, ih2⟩ := aG.gq k; unfold aG.f
 repeat' first | (with_reducible exact ih0 _ _ _ _) | (with_reducible exact LeO.refl _) | (with_reducible refine LeO.ite ?_ ?_) | (with_reducible refine LeO.bind ?_ (fun _ => ?_))
set_option maxHeartbeats 8000000 in
set_option maxRecDepth 100000 in
theorem aG.calls (k : Nat) (gu : Int) (bg : Int) (Si : Option Addr) (I8 : Nat) (fK : List (S86)) (r : Int) (w : World) (XV : Kd.C k86 w Si fK.length fK) (XZ : fK.length ≤ I8) (h : aG.f k gu bg fK = some r) :
 Calls Try.prog 63 #[.agg #[.int .i64 gu, .int .i64 bg, .slice Si fK.length I8]] w fun e w' => e = .returned (.int .i64 r) ∧ Below w.heap.size w w' := by
 have hu66 := Try.underlying66; have hu86 := Try.underlying86; have Db := aa.mk XV; have akc := aa.mk XZ; clear XV XZ; have HB := aa.mk (Below.refl w.heap.size w); have H : ((eP.f gu (-3000) 3000).bind fun Ho => (if Ho = true then ((eP.f bg (-3000) 3000).bind fun Oq => (aG.j0 k (!Oq) gu bg fK)) else (aG.j0 k (!Ho) gu bg fK))) = some r := h; clear h; replace H := Option.bind_eq_some_iff.mp H; obtain ⟨Ho, A20, H⟩ := H; have A2 := aa.mk A20; clear A20; have HC3 := aa.mk H; clear H; go_enter Try.func63, Try.ntmps63; (go_upto_if 5 with (first | ((with_reducible refine df (N := 1) rfl ?_); refine dA ?hg (N := 1) ?hd (cs := #[.int .i64 gu, .int .i64 bg, .slice Si fK.length I8]) (t := 66) ?hr ?_; (case hd => rfl); (case hg => rfl); (case hr => (go_simp; done)); intro zf hg w4 hbox hb; have lX := aa.mk (hbox); have aj2 := aa.mk ((by rw [hg]; exact (ay (by exact HB.out)) : w.heap.size ≤ zf)); have ajA := aa.mk ((by rw [hg]; exact (ay (by exact HB.out)) : w.heap.size ≤ zf)); replace HB := aa.mk (av (by exact HB.out) hb); clear hb hbox hg; obtain ⟨KL, Jy, KP, JP, Jf, Jm⟩ := cells3 lX.out) | (go_at_call 64; (with_reducible refine (eP.calls gu (-3000) 3000 Ho _ A2.out).mono ?_); rintro e w' ⟨rfl, ⟨nd, rfl⟩⟩))); (skip); go_cut [5] (fun v5 wc => ∃ (kq : Nat) (WQ : Bool), v5 = .bool WQ ∧ aa (aG.j0 kq WQ gu bg fK = some r) ∧ aa (kq ≤ k) ∧ aa (wc.heap[zf]? = some (.cells #[.int .i64 gu, .int .i64 bg, (.slice Si fK.length I8)] 66 (0, 0))) ∧ aa (Below w.heap.size w wc))
 case first =>
  have H := HC3.out; clear HC3; by_cases c6 : Ho = true
  ·subst c6; rw [if_pos rfl] at H; replace H := Option.bind_eq_some_iff.mp H; obtain ⟨Oq, A70, H⟩ := H; have A7 := aa.mk A70; clear A70; have H' := aa.mk H; clear H; obtain ⟨KF, KU, RL, Jb, J2, Qc⟩ := cells3 lX.out; (go_wp2_with ((go_at_call 64; (with_reducible refine (eP.calls bg (-3000) 3000 Oq _ A7.out).mono ?_); rintro e w' ⟨rfl, ⟨nd, rfl⟩⟩))); go_meet; case rel => exact ⟨_, (!Oq), (by rfl), H', ⟨by omega⟩, ⟨by (with_reducible repeat (refine fC ?_ _)); exact lX.out⟩, ⟨by exact lU HB.out⟩⟩
  ·replace c6 := Bool.eq_false_iff.mpr c6; subst c6; rw [if_neg (show ¬ (false = true) by decide)] at H; have H' := aa.mk H; clear H; go_wp2; go_meet; case rel => exact ⟨_, (!false), (by rfl), H', ⟨by omega⟩, ⟨by (with_reducible repeat (refine fC ?_ _)); exact lX.out⟩, ⟨by exact lU HB.out⟩⟩
 case rest =>
  clear HC3 KL Jy KP JP Jf Jm; obtain ⟨kq, WQ, rfl, HA, HJ2, lX, HB⟩ := hcut
  cases kq with
  | zero => exact absurd HA.out (by simp [aG.j0])
  | succ kj2 =>
   have H := HA.out; clear HA; simp only [aG.j0] at H; by_cases c9 : WQ = true
   ·subst c9; rw [if_pos rfl] at H; obtain rfl := Option.some.inj H; go_wp2
    go_ret
    exact ⟨by rfl, by exact HB.out⟩
   ·replace c9 := Bool.eq_false_iff.mpr c9; subst c9; rw [if_neg (show ¬ (false = true) by decide)] at H; by_cases c10 : gu > bg
    ·rw [if_pos c10] at H; have Av : decide (bg < gu) = true := decide_eq_true c10; clear c10; obtain rfl := Option.some.inj H; obtain ⟨afy, afl, afx, ahB, afe, af6⟩ := cells3 lX.out; go_wp2
     go_ret
     exact ⟨by rfl, by exact HB.out⟩
    ·rw [if_neg c10] at H; have Av : decide (bg < gu) = false := decide_eq_false c10; clear c10; by_cases c12 : (fK.length : Int) = 0
     ·rw [if_pos c12] at H; have AX : ((fK.length : Int) == 0) = true := beq_iff_eq.mpr c12; have LK : ((fK.length : Int) != 0) = false := bne_eq_false_iff_eq.mpr c12; clear c12; obtain rfl := Option.some.inj H; obtain ⟨VT, WI, agA, WG, Xg, agn⟩ := cells3 lX.out; go_wp2
      go_ret
      exact ⟨by rfl, by exact HB.out⟩
     ·rw [if_neg c12] at H; have AX : ((fK.length : Int) == 0) = false := beq_eq_false_iff_ne.mpr c12; have LK : ((fK.length : Int) != 0) = true := bne_iff_ne.mpr c12; (have acA : ¬ (fK = []) := fun h_ => c12 (by rw [h_]; rfl)); by_cases c14 : (fK.length : Int) > 8
      ·rw [if_pos c14] at H; have Hw : decide (8 < (fK.length : Int)) = true := decide_eq_true c14; have H5 : decide (8 < fK.length) = true := decide_eq_true (by omega); clear c14; obtain rfl := Option.some.inj H; obtain ⟨VB, WK, WB, Ve, Wv, VM⟩ := cells3 lX.out; go_wp2
       go_ret
       exact ⟨by rfl, by exact HB.out⟩
      ·rw [if_neg c14] at H; have Hw : decide (8 < (fK.length : Int)) = false := decide_eq_false c14; have H5 : decide (8 < fK.length) = false := decide_eq_false (by omega); clear c14; have H' := aa.mk H; clear H; obtain ⟨F9, FP, F7, Gm, Fv, Fj⟩ := cells3 lX.out; go_wp2; (go_loopg [37] kj2 (fun kq v37 w' => ∃ (gL : Int), v37 = .int .i64 gL ∧ aa (aG.l0 kq fK (fK.length : Int) gL gu bg fK = some r) ∧ aa (kq ≤ kj2) ∧ aa (w'.heap[zf]? = some (.cells #[.int .i64 gu, .int .i64 bg, (.slice Si fK.length I8)] 66 (0, 0))) ∧ aa (Below w.heap.size w w'))); case atStart => exact ⟨(0), (by rfl), H', ⟨Nat.le_refl _⟩, ⟨by (with_reducible skip); exact lX.out⟩, ⟨by exact HB.out⟩⟩
       case round =>
        clear H' Av c12 AX LK acA Hw H5 F9 FP F7 Gm Fv Fj; obtain ⟨gL, rfl, HA, HK2, lX, HB⟩ := hrel
        cases gk with
        | zero => exact absurd HA.out (by simp [aG.l0])
        | succ k2 =>
         have H := HA.out; clear HA; simp only [aG.l0] at H; by_cases c17 : gL < (fK.length : Int)
         ·rw [if_pos c17] at H; have Ez : decide (gL < (fK.length : Int)) = true := decide_eq_true c17; clear c17; by_cases c18 : 0 ≤ gL
          ·rw [if_pos c18] at H; have Es : decide (0 ≤ gL) = true := decide_eq_true c18; clear c18; by_cases c19 : gL < (fK.length : Int)
           ·rw [if_pos c19] at H; have QU : decide (gL < (fK.length : Int)) = true := decide_eq_true c19; clear c19; have Nc := aa.mk H; clear H; have Vl : 0 ≤ (gL : Int) := of_decide_eq_true (by with_reducible assumption); have UK : gL < (fK.length : Int) := of_decide_eq_true (by with_reducible assumption); obtain ⟨zu, e107, Bt, Bz⟩ := nk Db.out gL Vl UK; cases e107; replace Bt := (HB.out.cell (World.block_lt_of_cell? w _ Bt)).trans Bt; replace Bz := (HB.out.cell (World.block_lt_of_cell? w _ Bz)).trans Bz; replace Vl := eq_true Vl; replace UK := eq_true UK; (go_upto_if 42 with (((with_reducible refine df (N := 4) rfl ?_); refine dA ?hg (N := 4) ?hd (cs := #[.int .u8 0, .int .i64 0]) (t := 86) ?hr ?_; (case hd => rfl); (case hg => rfl); (case hr => (go_simp; done)); intro He hg w21 hbox hb; have yG := aa.mk (hbox); have akM := aa.mk ((by rw [hg]; exact (ay (by exact HB.out)) : w.heap.size ≤ He)); have XR := aa.mk ((by rw [hg]; exact (ay (by exact HB.out)) : w.heap.size ≤ He)); replace HB := aa.mk (av (by exact HB.out) hb); have mW := aa.mk ((by rw [hg]; exact Nat.ne_of_lt (bW (g := zf) (o := .cells #[.int .i64 gu, .int .i64 bg, .slice (some zu) fK.length I8] 66 (0, 0)) (bU lX.out)) : zf ≠ He)); have rJ := aa.mk ((by rw [hg]; exact Nat.ne_of_gt (bW (g := zf) (o := .cells #[.int .i64 gu, .int .i64 bg, .slice (some zu) fK.length I8] 66 (0, 0)) (bU lX.out)) : He ≠ zf)); replace lX := aa.mk (aj (bU lX.out) hb); clear hb hbox hg; have ab3 := rJ.out; have abw := mW.out; obtain ⟨Lh, MH, Lc, L6⟩ := gP yG.out))); (skip); go_cut [42] (fun v42 wc => ∃ (kq : Nat) (FU : Bool), v42 = .bool FU ∧ aa (aG.j2 kq gL fK (fK.length : Int) gL FU gu bg fK ((ak fK gL).f0) ((ak fK gL).f1) = some r) ∧ aa (kq ≤ k2) ∧ aa (wc.heap[zf]? = some (.cells #[.int .i64 gu, .int .i64 bg, (.slice (some zu) fK.length I8)] 66 (0, 0))) ∧ aa (wc.heap[He]? = some (.cells #[.int .u8 ((ak fK gL).f0), .int .i64 ((ak fK gL).f1)] 86 (0, 0))) ∧ aa (Below w.heap.size w wc))
            case first =>
             have H := Nc.out; clear Nc; by_cases c24 : ((ak fK gL).f0) < 65
             ·rw [if_pos c24] at H; have Qq : decide (((ak fK gL).f0) < 65) = true := decide_eq_true c24; clear c24; (rw [Qq]); have H' := aa.mk H; clear H; go_wp2; go_meet; case rel => exact ⟨_, (decide (((ak fK gL).f0) < 65)), (by simp [*]; done), H', ⟨by have := HJ2.out; have := HK2.out; omega⟩, ⟨by (with_reducible skip); refine aY ?_ mW.out _; (with_reducible skip); refine aY ?_ mW.out _; (with_reducible skip); exact lX.out⟩, ⟨by (with_reducible skip); refine bJ (cs := #[.int .u8 ((ak fK gL).f0), .int .i64 0]) ?_ 1 _ rfl; (with_reducible skip); refine bJ (cs := #[.int .u8 0, .int .i64 0]) ?_ 0 _ rfl; (with_reducible skip); exact yG.out⟩, ⟨by repeat ((with_reducible first | exact HB.out | refine bZ ?_ XR.out))⟩⟩
             ·rw [if_neg c24] at H; have Qq : decide (((ak fK gL).f0) < 65) = false := decide_eq_false c24; clear c24; (rw [Qq]); have H' := aa.mk H; clear H; have abZ := rJ.out; have aed := mW.out; obtain ⟨SS, Xl, TS, Vz⟩ := gP yG.out; go_wp2; go_meet; case rel => exact ⟨_, (decide (((ak fK gL).f0) > 90)), (by rfl), H', ⟨by have := HJ2.out; have := HK2.out; omega⟩, ⟨by (with_reducible skip); refine aY ?_ mW.out _; (with_reducible skip); refine aY ?_ mW.out _; (with_reducible skip); exact lX.out⟩, ⟨by (with_reducible skip); refine bJ (cs := #[.int .u8 ((ak fK gL).f0), .int .i64 0]) ?_ 1 _ rfl; (with_reducible skip); refine bJ (cs := #[.int .u8 0, .int .i64 0]) ?_ 0 _ rfl; (with_reducible skip); exact yG.out⟩, ⟨by repeat ((with_reducible first | exact HB.out | refine bZ ?_ XR.out))⟩⟩
            case rest =>
             clear Nc Ez Es QU Lh MH Lc L6 Bt Bz Vl UK; obtain ⟨kq, FU, rfl, HA, HJ19, lX, yG, HB⟩ := hcut
             cases kq with
             | zero => exact absurd HA.out (by simp [aG.j2])
             | succ kj19 =>
              have H := HA.out; clear HA; simp only [aG.j2] at H; by_cases c27 : FU = true
              ·subst c27; rw [if_pos rfl] at H; obtain rfl := Option.some.inj H; go_wp2
               go_ret
               exact ⟨by rfl, by exact HB.out⟩
              ·replace c27 := Bool.eq_false_iff.mpr c27; subst c27; rw [if_neg (show ¬ (false = true) by decide)] at H; replace H := Option.bind_eq_some_iff.mp H; obtain ⟨aaU, acj, H⟩ := H; have A28 := aa.mk acj; clear acj; by_cases c29 : aaU = true
               ·subst c29; rw [if_pos rfl] at H; by_cases c30 : gL > 0
                ·rw [if_pos c30] at H; have ach : decide (0 < gL) = true := decide_eq_true c30; clear c30; obtain ⟨pG, XM⟩ : ∃ j_ : Int, (wrap64 (gL - 1)) = j_ := ⟨_, rfl⟩; (replace H : (if 0 ≤ (pG) then (if (pG) < (fK.length : Int) then (if ((ak fK gL).f0) ≤ ((ak fK (pG)).f0) then (some 5) else (aG.l0 kj19 fK (fK.length : Int) (wrap64 (gL + 1)) gu bg fK)) else (none)) else (none)) = some r := by (rw [XM] at H; exact H)); (skip); have aiV : (IntKind.i64.wrap (gL - 1)) = pG := (qm _).trans XM; by_cases c32 : 0 ≤ (pG)
                 ·rw [if_pos c32] at H; have X6 : decide (0 ≤ (pG)) = true := decide_eq_true c32; clear c32; by_cases c33 : (pG) < (fK.length : Int)
                  ·rw [if_pos c33] at H; have Ry : decide ((pG) < (fK.length : Int)) = true := decide_eq_true c33; clear c33; by_cases c34 : ((ak fK gL).f0) ≤ ((ak fK (pG)).f0)
                   ·rw [if_pos c34] at H; have adG : decide (((ak fK gL).f0) ≤ ((ak fK (pG)).f0)) = true := decide_eq_true c34; clear c34; obtain rfl := Option.some.inj H; have QY := rJ.out; have Pg := mW.out; obtain ⟨Vh, TB, Wu, Uv⟩ := gP yG.out; (go_wp2_with ((go_at_call 64; (with_reducible refine (eP.calls ((ak fK gL).f1) 1 1023 true _ A28.out).mono ?_); rintro e w' ⟨rfl, ⟨nd, rfl⟩⟩; obtain ⟨wR, xg, wO, wV, xw, wT⟩ := cells3 lX.out; have rO : 0 ≤ ((pG) : Int) := of_decide_eq_true (by with_reducible assumption); have su : (pG) < (fK.length : Int) := of_decide_eq_true (by with_reducible assumption); obtain ⟨vW, e110, iQ, iK⟩ := nk Db.out (pG) rO su; obtain rfl : zu = vW := (by injection e110); replace iQ := (HB.out.cell (World.block_lt_of_cell? w _ iQ)).trans iQ; replace iK := (HB.out.cell (World.block_lt_of_cell? w _ iK)).trans iK; replace rO := eq_true rO; replace su := eq_true su))); repeat (go_quiet (first | (go_at_call 64; (with_reducible refine (eP.calls ((ak fK gL).f1) 1 1023 true _ A28.out).mono ?_); rintro e w' ⟨rfl, ⟨nd, rfl⟩⟩; (try first | exact ⟨rfl, _, World.drewN_drewN _ _ _⟩ | exact ⟨rfl, _, Eq.trans (World.drewN_drewN _ _ _) (congrArg (World.drewN _) (Nat.add_assoc _ _ _))⟩); obtain ⟨wR, xg, wO, wV, xw, wT⟩ := cells3 lX.out; have rO : 0 ≤ ((pG) : Int) := of_decide_eq_true (by first | (with_reducible assumption) | assumption); have su : (pG) < (fK.length : Int) := of_decide_eq_true (by first | (with_reducible assumption) | assumption); obtain ⟨vW, e110, iQ, iK⟩ := nk Db.out (pG) rO su; obtain rfl : zu = vW := (by injection e110); replace iQ := (HB.out.cell (World.block_lt_of_cell? w _ iQ)).trans iQ; replace iK := (HB.out.cell (World.block_lt_of_cell? w _ iK)).trans iK; replace rO := eq_true rO; replace su := eq_true su)); go_wp2_with (first | (go_at_call 64; (with_reducible refine (eP.calls ((ak fK gL).f1) 1 1023 true _ A28.out).mono ?_); rintro e w' ⟨rfl, ⟨nd, rfl⟩⟩; (try first | exact ⟨rfl, _, World.drewN_drewN _ _ _⟩ | exact ⟨rfl, _, Eq.trans (World.drewN_drewN _ _ _) (congrArg (World.drewN _) (Nat.add_assoc _ _ _))⟩); obtain ⟨wR, xg, wO, wV, xw, wT⟩ := cells3 lX.out; have rO : 0 ≤ ((pG) : Int) := of_decide_eq_true (by first | (with_reducible assumption) | assumption); have su : (pG) < (fK.length : Int) := of_decide_eq_true (by first | (with_reducible assumption) | assumption); obtain ⟨vW, e110, iQ, iK⟩ := nk Db.out (pG) rO su; obtain rfl : zu = vW := (by injection e110); replace iQ := (HB.out.cell (World.block_lt_of_cell? w _ iQ)).trans iQ; replace iK := (HB.out.cell (World.block_lt_of_cell? w _ iK)).trans iK; replace rO := eq_true rO; replace su := eq_true su)))
                    go_ret
                    exact ⟨by rfl, by exact lU HB.out⟩
                   ·rw [if_neg c34] at H; have adG : decide (((ak fK gL).f0) ≤ ((ak fK (pG)).f0)) = false := decide_eq_false c34; clear c34; have H' := aa.mk H; clear H; have ajy := rJ.out; have aki := mW.out; obtain ⟨ahn, agW, afH, ahb⟩ := gP yG.out; (go_wp2_with ((go_at_call 64; (with_reducible refine (eP.calls ((ak fK gL).f1) 1 1023 true _ A28.out).mono ?_); rintro e w' ⟨rfl, ⟨nd, rfl⟩⟩; obtain ⟨LF, MK, Mc, K9, Ll, LJ⟩ := cells3 lX.out; have rO : 0 ≤ ((pG) : Int) := of_decide_eq_true (by with_reducible assumption); have su : (pG) < (fK.length : Int) := of_decide_eq_true (by with_reducible assumption); obtain ⟨vW, e110, iQ, iK⟩ := nk Db.out (pG) rO su; obtain rfl : zu = vW := (by injection e110); replace iQ := (HB.out.cell (World.block_lt_of_cell? w _ iQ)).trans iQ; replace iK := (HB.out.cell (World.block_lt_of_cell? w _ iK)).trans iK; replace rO := eq_true rO; replace su := eq_true su))); (repeat (go_quiet (first | (go_at_call 64; (with_reducible refine (eP.calls ((ak fK gL).f1) 1 1023 true _ A28.out).mono ?_); rintro e w' ⟨rfl, ⟨nd, rfl⟩⟩; (try first | exact ⟨rfl, _, World.drewN_drewN _ _ _⟩ | exact ⟨rfl, _, Eq.trans (World.drewN_drewN _ _ _) (congrArg (World.drewN _) (Nat.add_assoc _ _ _))⟩); obtain ⟨LF, MK, Mc, K9, Ll, LJ⟩ := cells3 lX.out; have rO : 0 ≤ ((pG) : Int) := of_decide_eq_true (by first | (with_reducible assumption) | assumption); have su : (pG) < (fK.length : Int) := of_decide_eq_true (by first | (with_reducible assumption) | assumption); obtain ⟨vW, e110, iQ, iK⟩ := nk Db.out (pG) rO su; obtain rfl : zu = vW := (by injection e110); replace iQ := (HB.out.cell (World.block_lt_of_cell? w _ iQ)).trans iQ; replace iK := (HB.out.cell (World.block_lt_of_cell? w _ iK)).trans iK; replace rO := eq_true rO; replace su := eq_true su)); go_wp2_with (first | (go_at_call 64; (with_reducible refine (eP.calls ((ak fK gL).f1) 1 1023 true _ A28.out).mono ?_); rintro e w' ⟨rfl, ⟨nd, rfl⟩⟩; (try first | exact ⟨rfl, _, World.drewN_drewN _ _ _⟩ | exact ⟨rfl, _, Eq.trans (World.drewN_drewN _ _ _) (congrArg (World.drewN _) (Nat.add_assoc _ _ _))⟩); obtain ⟨LF, MK, Mc, K9, Ll, LJ⟩ := cells3 lX.out; have rO : 0 ≤ ((pG) : Int) := of_decide_eq_true (by first | (with_reducible assumption) | assumption); have su : (pG) < (fK.length : Int) := of_decide_eq_true (by first | (with_reducible assumption) | assumption); obtain ⟨vW, e110, iQ, iK⟩ := nk Db.out (pG) rO su; obtain rfl : zu = vW := (by injection e110); replace iQ := (HB.out.cell (World.block_lt_of_cell? w _ iQ)).trans iQ; replace iK := (HB.out.cell (World.block_lt_of_cell? w _ iK)).trans iK; replace rO := eq_true rO; replace su := eq_true su)))); go_roundg kj19; (case measure => have := HJ2.out; have := HK2.out; have := HJ19.out; omega); case rel => exact ⟨(wrap64 (gL + 1)), (by rfl), H', ⟨by have := HJ2.out; have := HK2.out; have := HJ19.out; omega⟩, ⟨by (with_reducible repeat (refine fC ?_ _)); exact lX.out⟩, ⟨by exact lU HB.out⟩⟩
                  ·rw [if_neg c33] at H; exact absurd H (by simp)
                 ·rw [if_neg c32] at H; exact absurd H (by simp)
                ·rw [if_neg c30] at H; have ach : decide (0 < gL) = false := decide_eq_false c30; clear c30; have H' := aa.mk H; clear H; have MJ := rJ.out; have Mm := mW.out; obtain ⟨TV, WN, Tp, Wy⟩ := gP yG.out; (go_wp2_with ((go_at_call 64; (with_reducible refine (eP.calls ((ak fK gL).f1) 1 1023 true _ A28.out).mono ?_); rintro e w' ⟨rfl, ⟨nd, rfl⟩⟩))); (repeat (go_quiet (first | (go_at_call 64; (with_reducible refine (eP.calls ((ak fK gL).f1) 1 1023 true _ A28.out).mono ?_); rintro e w' ⟨rfl, ⟨nd, rfl⟩⟩; (try first | exact ⟨rfl, _, World.drewN_drewN _ _ _⟩ | exact ⟨rfl, _, Eq.trans (World.drewN_drewN _ _ _) (congrArg (World.drewN _) (Nat.add_assoc _ _ _))⟩))); go_wp2_with (first | (go_at_call 64; (with_reducible refine (eP.calls ((ak fK gL).f1) 1 1023 true _ A28.out).mono ?_); rintro e w' ⟨rfl, ⟨nd, rfl⟩⟩; (try first | exact ⟨rfl, _, World.drewN_drewN _ _ _⟩ | exact ⟨rfl, _, Eq.trans (World.drewN_drewN _ _ _) (congrArg (World.drewN _) (Nat.add_assoc _ _ _))⟩))))); go_roundg kj19; (case measure => have := HJ2.out; have := HK2.out; have := HJ19.out; omega); case rel => exact ⟨(wrap64 (gL + 1)), (by rfl), H', ⟨by have := HJ2.out; have := HK2.out; have := HJ19.out; omega⟩, ⟨by (with_reducible repeat (refine fC ?_ _)); exact lX.out⟩, ⟨by exact lU HB.out⟩⟩
               ·replace c29 := Bool.eq_false_iff.mpr c29; subst c29; rw [if_neg (show ¬ (false = true) by decide)] at H; obtain rfl := Option.some.inj H; have K7 := rJ.out; have Lf := mW.out; obtain ⟨VO, Xb, WZ, Xf⟩ := gP yG.out; go_wp2_with ((go_at_call 64; (with_reducible refine (eP.calls ((ak fK gL).f1) 1 1023 false _ A28.out).mono ?_); rintro e w' ⟨rfl, ⟨nd, rfl⟩⟩))
                go_ret
                exact ⟨by rfl, by exact lU HB.out⟩
           ·rw [if_neg c19] at H; exact absurd H (by simp)
          ·rw [if_neg c18] at H; exact absurd H (by simp)
         ·rw [if_neg c17] at H; have Ez : decide (gL < (fK.length : Int)) = false := decide_eq_false c17; clear c17; obtain rfl := Option.some.inj H; go_wp2
          go_ret
          exact ⟨by rfl, by exact HB.out⟩
def fD.f (a0 : Int) (a1 : Int) : Option (Int) := some (Go.bits .andNot .i64 a0 a1)
set_option maxHeartbeats 8000000 in
set_option maxRecDepth 100000 in
theorem fD.calls (a0 : Int) (a1 : Int) (r : Int) (w : World) (h : fD.f a0 a1 = some r) :
 Calls Try.prog 65 #[.int .i64 a0, .int .i64 a1] w fun e w' => e = .returned (.int .i64 r) ∧ dF w w' := by
 have H : (some (Go.bits .andNot .i64 a0 a1)) = some r := h; clear h; obtain rfl := Option.some.inj H; go_enter Try.func65, Try.ntmps65; go_wp2
 go_ret
 exact ⟨by first | rfl | (simp; done) | (simp [*]; done), by repeat (first | exact dF.refl _ | apply dF.step)⟩
mutual
def aJ.l0 : Nat → List (S66) → Int → Int → List (S66) → Int → Int → Int → List (List (S27)) → Option (Int)
 | 0, _, _, _, _, _, _, _, _ => none
 | k + 1, x21, x22, x23, yz, wL, wQ, xh, ru => if x23 < x22 then (if 0 ≤ x23 then (if x23 < (x21.length : Int) then ((aG.f k ((ai x21 x23).f0.f0) ((ai x21 x23).f0.f1) ((ai x21 x23).f1)).bind fun D8 => (if D8 = 0 then (aJ.l0 k x21 x22 (wrap64 (x23 + 1)) yz wL wQ xh ru) else (some D8))) else (none)) else (none)) else ((eP.f wL 0 10).bind fun Pi => (if Pi = true then ((eP.f wQ 0 10).bind fun VE => (if VE = true then ((eP.f xh 0 40).bind fun Wq => (aJ.j1 k (!Wq) yz wL wQ xh ru)) else (aJ.j1 k (!VE) yz wL wQ xh ru))) else (aJ.j1 k (!Pi) yz wL wQ xh ru)))
def aJ.j1 : Nat → Bool → List (S66) → Int → Int → Int → List (List (S27)) → Option (Int)
 | 0, _, _, _, _, _, _ => none
 | k + 1, x33, yz, wL, wQ, xh, ru => if x33 = true then (some 1) else (if (ru.length : Int) = 0 then (some 7) else (if (ru.length : Int) > 8 then (some 6) else (aJ.l1 k ru (ru.length : Int) 0)))
def aJ.l1 : Nat → List (List (S27)) → Int → Int → Option (Int)
 | 0, _, _, _ => none
 | k + 1, x57, x58, x59 => if x59 < x58 then (if 0 ≤ x59 then (if x59 < (x57.length : Int) then (if ((dn x57 x59).length : Int) > 4 then (some 6) else (aJ.l2 k x57 x58 x59 (dn x57 x59) ((dn x57 x59).length : Int) 0)) else (none)) else (none)) else (some 0)
def aJ.l2 : Nat → List (List (S27)) → Int → Int → List (S27) → Int → Int → Option (Int)
 | 0, _, _, _, _, _, _ => none
 | k + 1, x57, x58, x59, x66, x67, x68 => if x68 < x67 then (if 0 ≤ x68 then (if x68 < (x66.length : Int) then ((eP.f ((eG x66 x68).f0) 0 1023).bind fun QG => (if QG = true then ((eP.f ((eG x66 x68).f1) 0 1023).bind fun UF => (aJ.j4 k x57 x58 x59 x66 x67 x68 (!UF) ((eG x66 x68).f0) ((eG x66 x68).f1))) else (aJ.j4 k x57 x58 x59 x66 x67 x68 (!QG) ((eG x66 x68).f0) ((eG x66 x68).f1)))) else (none)) else (none)) else (aJ.l1 k x57 x58 (wrap64 (x59 + 1)))
def aJ.j4 : Nat → List (List (S27)) → Int → Int → List (S27) → Int → Int → Bool → Int → Int → Option (Int)
 | 0, _, _, _, _, _, _, _, _, _ => none
 | k + 1, x57, x58, x59, x66, x67, x68, x72, Ws, U7 => if x72 = true then (some 1) else ((fD.f U7 Ws).bind fun Fx => (if Fx = 0 then (aJ.l2 k x57 x58 x59 x66 x67 (wrap64 (x68 + 1))) else (some 2)))
end
def aJ.f (k : Nat) (aU : List (S66)) (bg : Int) (bP : Int) (bY : Int) (aX : List (List (S27))) : Option (Int) := if (aU.length : Int) = 0 then (some 7) else (if (aU.length : Int) > 4 then (some 6) else (aJ.l0 k aU (aU.length : Int) 0 aU bg bP bY aX))
theorem aJ.gq : ∀ k, (∀ y0 y1 y2 y3 y4 y5 y6 y7, LeO (aJ.l0 k y0 y1 y2 y3 y4 y5 y6 y7) (aJ.l0 (k + 1) y0 y1 y2 y3 y4 y5 y6 y7)) ∧ (∀ y0 y1 y2 y3 y4 y5, LeO (aJ.j1 k y0 y1 y2 y3 y4 y5) (aJ.j1 (k + 1) y0 y1 y2 y3 y4 y5)) ∧ (∀ y0 y1 y2, LeO (aJ.l1 k y0 y1 y2) (aJ.l1 (k + 1) y0 y1 y2)) ∧ (∀ y0 y1 y2 y3 y4 y5, LeO (aJ.l2 k y0 y1 y2 y3 y4 y5) (aJ.l2 (k + 1) y0 y1 y2 y3 y4 y5)) ∧ (∀ y0 y1 y2 y3 y4 y5 y6 y7 y8, LeO (aJ.j4 k y0 y1 y2 y3 y4 y5 y6 y7 y8) (aJ.j4 (k + 1) y0 y1 y2 y3 y4 y5 y6 y7 y8))
 | 0 => ⟨fun _ _ _ _ _ _ _ _ r h => by simp [aJ.l0] at h, fun _ _ _ _ _ _ r h => by simp [aJ.j1] at h, fun _ _ _ r h => by simp [aJ.l1] at h, fun _ _ _ _ _ _ r h => by simp [aJ.l2] at h, fun _ _ _ _ _ _ _ _ _ r h => by simp [aJ.j4] at h⟩
 | k + 1 => by
  obtain ⟨ih0, ih1, ih2, ih3, ih4⟩ := aJ.gq k; refine ⟨?_, ?_, ?_, ?_, ?_⟩
  ·intro y0 y1 y2 y3 y4 y5 y6 y7; unfold aJ.l0
   repeat' first | (with_reducible exact ih0 _ _ _ _ _ _ _ _) | (with_reducible exact ih1 _ _ _ _ _ _) | (with_reducible exact aG.mono _ _ _ _) | (with_reducible exact LeO.refl _) | (with_reducible refine LeO.ite ?_ ?_) | (with_reducible refine LeO.bind ?_ (fun _ => ?_))
  ·intro y0 y1 y2 y3 y4 y5; unfold aJ.j1
   repeat' first | (with_reducible exact ih2 _ _ _) | (with_reducible exact LeO.refl _) | (with_reducible refine LeO.ite ?_ ?_)
  ·intro y0 y1 y2; unfold aJ.l1
   repeat' first | (with_reducible exact ih3 _ _ _ _ _ _) | (with_reducible exact LeO.refl _) | (with_reducible refine LeO.ite ?_ ?_)
  ·intro y0 y1 y2 y3 y4 y5; unfold aJ.l2
   repeat' first | (with_reducible exact ih2 _ _ _) | (with_reducible exact ih4 _ _ _ _ _ _ _ _ _) | (with_reducible exact LeO.refl _) | (with_reducible refine LeO.ite ?_ ?_) | (with_reducible refine LeO.bind ?_ (fun _ => ?_))
  ·intro y0 y1 y2 y3 y4 y5 y6 y7 y8; unfold aJ.j4
   repeat' first | (with_reducible exact ih3 _ _ _ _ _ _) | (with_reducible exact LeO.refl _) | (with_reducible refine LeO.ite ?_ ?_) | (with_reducible refine LeO.bind ?_ (fun _ => ?_))
theorem aJ.mono : ∀ a0 a1 a2 a3 a4 k, LeO (aJ.f k a0 a1 a2 a3 a4) (aJ.f (k + 1) a0 a1 a2 a3 a4) := by
 intro a0 a1 a2 a3 a4 k; obtain ⟨ih0, ih1, ih2, ih3, ih4⟩ := aJ.gq k; unfold aJ.f
 repeat' first | (with_reducible exact ih0 _ _ _ _ _ _ _ _) | (with_reducible exact LeO.refl _) | (with_reducible refine LeO.ite ?_ ?_)
set_option maxHeartbeats 8000000 in
set_option maxRecDepth 100000 in
theorem aJ.calls (k : Nat) (eH : Option Addr) (dU : Nat) (aU : List (S66)) (bg : Int) (bP : Int) (bY : Int) (dW : Option Addr) (dS : Nat) (aX : List (List (S27))) (r : Int) (w : World) (lK : Kd.C k66 w eH aU.length aU) (nu : aU.length ≤ dU) (lH : Kd.C (Kd.slice 27 k27) w dW aX.length aX) (nz : aX.length ≤ dS) (h : aJ.f k aU bg bP bY aX = some r) :
 Calls Try.prog 40 #[.agg #[.slice eH aU.length dU, .int .i64 bg, .int .i64 bP, .int .i64 bY, .slice dW aX.length dS]] w fun e w' => e = .returned (.int .i64 r) ∧ Below w.heap.size w w' := by
 have hu25 := Try.underlying25; have hu66 := Try.underlying66; have hu27 := Try.underlying27; have qh := aa.mk lK; have uy := aa.mk nu; clear lK nu; have rf := aa.mk lH; have uK := aa.mk nz; clear lH nz; have HB := aa.mk (Below.refl w.heap.size w); have H : (if (aU.length : Int) = 0 then (some 7) else (if (aU.length : Int) > 4 then (some 6) else (aJ.l0 k aU (aU.length : Int) 0 aU bg bP bY aX))) = some r := h; clear h; by_cases c2 : (aU.length : Int) = 0
 ·rw [if_pos c2] at H; have Kq : ((aU.length : Int) == 0) = true := beq_iff_eq.mpr c2; have abT : ((aU.length : Int) != 0) = false := bne_eq_false_iff_eq.mpr c2; clear c2; obtain rfl := Option.some.inj H; go_enter Try.func40, Try.ntmps40; go_wp2_with (((with_reducible refine df (N := 1) rfl ?_); refine dA ?hg (N := 1) ?hd (cs := #[.slice eH aU.length dU, .int .i64 bg, .int .i64 bP, .int .i64 bY, .slice dW aX.length dS]) (t := 25) ?hr ?_; (case hd => rfl); (case hg => rfl); (case hr => (go_simp; done)); intro lJ hg w3 hbox hb; have ik := aa.mk (hbox); have Yu := aa.mk ((by rw [hg]; exact (ay (by exact HB.out)) : w.heap.size ≤ lJ)); have X5 := aa.mk ((by rw [hg]; exact (ay (by exact HB.out)) : w.heap.size ≤ lJ)); replace HB := aa.mk (av (by exact HB.out) hb); clear hb hbox hg; obtain ⟨Z6, aaY, aaS, Zy, aae, Zx, Zo, ZJ, aaC, YN⟩ := cells5 ik.out))
  go_ret
  exact ⟨by rfl, by exact HB.out⟩
 ·rw [if_neg c2] at H; have Kq : ((aU.length : Int) == 0) = false := beq_eq_false_iff_ne.mpr c2; have abT : ((aU.length : Int) != 0) = true := bne_iff_ne.mpr c2; (have ahK : ¬ (aU = []) := fun h_ => c2 (by rw [h_]; rfl)); by_cases c5 : (aU.length : Int) > 4
  ·rw [if_pos c5] at H; have Bd : decide (4 < (aU.length : Int)) = true := decide_eq_true c5; have QV : decide (4 < aU.length) = true := decide_eq_true (by omega); clear c5; obtain rfl := Option.some.inj H; go_enter Try.func40, Try.ntmps40; go_wp2_with (((with_reducible refine df (N := 1) rfl ?_); refine dA ?hg (N := 1) ?hd (cs := #[.slice eH aU.length dU, .int .i64 bg, .int .i64 bP, .int .i64 bY, .slice dW aX.length dS]) (t := 25) ?hr ?_; (case hd => rfl); (case hg => rfl); (case hr => (go_simp; done)); intro lJ hg w6 hbox hb; have ik := aa.mk (hbox); have Yu := aa.mk ((by rw [hg]; exact (ay (by exact HB.out)) : w.heap.size ≤ lJ)); have X5 := aa.mk ((by rw [hg]; exact (ay (by exact HB.out)) : w.heap.size ≤ lJ)); replace HB := aa.mk (av (by exact HB.out) hb); clear hb hbox hg; obtain ⟨ah8, ahT, ais, ajo, aip, aiy, ah6, aiL, aiC, ahO⟩ := cells5 ik.out))
   go_ret
   exact ⟨by rfl, by exact HB.out⟩
  ·rw [if_neg c5] at H; have Bd : decide (4 < (aU.length : Int)) = false := decide_eq_false c5; have QV : decide (4 < aU.length) = false := decide_eq_false (by omega); clear c5; have H' := aa.mk H; clear H; go_enter Try.func40, Try.ntmps40; (go_wp2_with (((with_reducible refine df (N := 1) rfl ?_); refine dA ?hg (N := 1) ?hd (cs := #[.slice eH aU.length dU, .int .i64 bg, .int .i64 bP, .int .i64 bY, .slice dW aX.length dS]) (t := 25) ?hr ?_; (case hd => rfl); (case hg => rfl); (case hr => (go_simp; done)); intro lJ hg w8 hbox hb; have ik := aa.mk (hbox); have Yu := aa.mk ((by rw [hg]; exact (ay (by exact HB.out)) : w.heap.size ≤ lJ)); have X5 := aa.mk ((by rw [hg]; exact (ay (by exact HB.out)) : w.heap.size ≤ lJ)); replace HB := aa.mk (av (by exact HB.out) hb); clear hb hbox hg; obtain ⟨Rt, QE, YW, Zu, Z0, Rc, Pb, Zk, YI, ZL⟩ := cells5 ik.out))); (go_loopg [23] k (fun kq v23 w' => ∃ (iE : Int), v23 = .int .i64 iE ∧ aa (aJ.l0 kq aU (aU.length : Int) iE aU bg bP bY aX = some r) ∧ aa (kq ≤ k) ∧ aa (w'.heap[lJ]? = some (.cells #[(.slice eH aU.length dU), .int .i64 bg, .int .i64 bP, .int .i64 bY, (.slice dW aX.length dS)] 25 (0, 0))) ∧ aa (Below w.heap.size w w'))); case atStart => exact ⟨(0), (by rfl), H', ⟨Nat.le_refl _⟩, ⟨by (with_reducible skip); exact ik.out⟩, ⟨by exact HB.out⟩⟩
   case round =>
    clear H' c2 Kq abT ahK Bd QV Rt QE YW Zu Z0 Rc Pb Zk YI ZL; obtain ⟨iE, rfl, HA, HK1, ik, HB⟩ := hrel
    cases gk with
    | zero => exact absurd HA.out (by simp [aJ.l0])
    | succ k1 =>
     have H := HA.out; clear HA; simp only [aJ.l0] at H; by_cases c10 : iE < (aU.length : Int)
     ·rw [if_pos c10] at H; have Av : decide (iE < (aU.length : Int)) = true := decide_eq_true c10; clear c10; by_cases c11 : 0 ≤ iE
      ·rw [if_pos c11] at H; have RU : decide (0 ≤ iE) = true := decide_eq_true c11; clear c11; by_cases c12 : iE < (aU.length : Int)
       ·rw [if_pos c12] at H; have AX : decide (iE < (aU.length : Int)) = true := decide_eq_true c12; clear c12; replace H := Option.bind_eq_some_iff.mp H; obtain ⟨D8, ab6, H⟩ := H; have A13 := aa.mk ab6; clear ab6; by_cases c14 : D8 = 0
        ·rw [if_pos c14] at H; have Hw : (D8 == 0) = true := beq_iff_eq.mpr c14; have H5 : (D8 != 0) = false := bne_eq_false_iff_eq.mpr c14; clear c14; have H' := aa.mk H; clear H; have KO : 0 ≤ (iE : Int) := of_decide_eq_true (by with_reducible assumption); have JL : iE < (aU.length : Int) := of_decide_eq_true (by with_reducible assumption); obtain ⟨BS, A112_2, c112_2, e112, uU, ve, vw, yw, yc⟩ := nH qh.out iE KO JL; cases e112; replace uU := (HB.out.cell (World.block_lt_of_cell? w _ uU)).trans uU; replace ve := (HB.out.cell (World.block_lt_of_cell? w _ ve)).trans ve; replace vw := (HB.out.cell (World.block_lt_of_cell? w _ vw)).trans vw; have Fe := aa.mk yc; have Fu := aa.mk yw; clear yc yw; replace KO := eq_true KO; replace JL := eq_true JL; (go_wp2_with (first | ((with_reducible refine df (N := 4) rfl ?_); refine dA ?hg (N := 4) ?hd (cs := #[.int .i64 0, .int .i64 0, .slice none 0 0]) (t := 66) ?hr ?_; (case hd => rfl); (case hg => rfl); (case hr => (go_simp; done)); intro vT hg w15 hbox hb; have Cv := aa.mk (hbox); have abQ := aa.mk ((by rw [hg]; exact (ay (by exact HB.out)) : w.heap.size ≤ vT)); have G6 := aa.mk ((by rw [hg]; exact (ay (by exact HB.out)) : w.heap.size ≤ vT)); replace HB := aa.mk (av (by exact HB.out) hb); have nL := aa.mk ((by rw [hg]; exact Nat.ne_of_lt (bW (g := lJ) (o := .cells #[.slice (some BS) aU.length dU, .int .i64 bg, .int .i64 bP, .int .i64 bY, .slice dW aX.length dS] 25 (0, 0)) (bU ik.out)) : lJ ≠ vT)); have zQ := aa.mk ((by rw [hg]; exact Nat.ne_of_gt (bW (g := lJ) (o := .cells #[.slice (some BS) aU.length dU, .int .i64 bg, .int .i64 bP, .int .i64 bY, .slice dW aX.length dS] 25 (0, 0)) (bU ik.out)) : vT ≠ lJ)); replace ik := aa.mk (aj (bU ik.out) hb); clear hb hbox hg; have ajT := zQ.out; have aj9 := nL.out; obtain ⟨Md, La, KZ, Ma, M6, ML⟩ := cells3 Cv.out) | ((with_reducible refine bR (f := 63) rfl ?_); refine eY (some 28) rfl rfl Try.func63 (by kernel_rfl) rfl #[.agg #[.int .i64 ((ai aU iE).f0.f0), .int .i64 ((ai aU iE).f0.f1), .slice A112_2 ((ai aU iE).f1).length c112_2]] rfl (by (simp only [List.map_toArray, List.map_cons, List.map_nil]); rfl) ?_; (with_reducible refine (aG.calls k1 ((ai aU iE).f0.f0) ((ai aU iE).f0.f1) _ _ ((ai aU iE).f1) D8 _ ?side1 ?side2 A13.out).mono ?_); (case side1 => exact Kd.aT Fe.out (by repeat ((with_reducible first | exact HB.out | refine bZ ?_ G6.out)))); (case side2 => exact Fu.out); rintro e w18 ⟨rfl, hb⟩; refine ⟨_, rfl, ?_⟩; replace ik := aa.mk (aj (g := lJ) (o := .cells #[.slice (some BS) aU.length dU, .int .i64 bg, .int .i64 bP, .int .i64 bY, .slice dW aX.length dS] 25 (0, 0)) (by (with_reducible skip); refine aY ?_ nL.out _; (with_reducible skip); refine aY ?_ nL.out _; (with_reducible skip); refine aY ?_ nL.out _; (with_reducible skip); exact ik.out) hb); replace Cv := aa.mk (aj (g := vT) (o := .cells #[.int .i64 ((ai aU iE).f0.f0), .int .i64 ((ai aU iE).f0.f1), .slice A112_2 ((ai aU iE).f1).length c112_2] 66 (0, 0)) (by (with_reducible skip); refine bJ (cs := #[.int .i64 ((ai aU iE).f0.f0), .int .i64 ((ai aU iE).f0.f1), .slice none 0 0]) ?_ 2 _ rfl; (with_reducible skip); refine bJ (cs := #[.int .i64 ((ai aU iE).f0.f0), .int .i64 0, .slice none 0 0]) ?_ 1 _ rfl; (with_reducible skip); refine bJ (cs := #[.int .i64 0, .int .i64 0, .slice none 0 0]) ?_ 0 _ rfl; (with_reducible skip); exact Cv.out) hb); replace HB := aa.mk (av (by repeat ((with_reducible first | exact HB.out | refine bZ ?_ G6.out))) hb); (clear hb)))); go_roundg k1; (case measure => have := HK1.out; omega); case rel => exact ⟨(wrap64 (iE + 1)), (by rfl), H', ⟨by have := HK1.out; omega⟩, ⟨by (with_reducible skip); exact ik.out⟩, ⟨by exact HB.out⟩⟩
        ·rw [if_neg c14] at H; have Hw : (D8 == 0) = false := beq_eq_false_iff_ne.mpr c14; have H5 : (D8 != 0) = true := bne_iff_ne.mpr c14; obtain rfl := Option.some.inj H; have KO : 0 ≤ (iE : Int) := of_decide_eq_true (by with_reducible assumption); have JL : iE < (aU.length : Int) := of_decide_eq_true (by with_reducible assumption); obtain ⟨BS, A112_2, c112_2, e112, uU, ve, vw, yw, yc⟩ := nH qh.out iE KO JL; cases e112; replace uU := (HB.out.cell (World.block_lt_of_cell? w _ uU)).trans uU; replace ve := (HB.out.cell (World.block_lt_of_cell? w _ ve)).trans ve; replace vw := (HB.out.cell (World.block_lt_of_cell? w _ vw)).trans vw; have Fe := aa.mk yc; have Fu := aa.mk yw; clear yc yw; replace KO := eq_true KO; replace JL := eq_true JL; go_wp2_with (first | ((with_reducible refine df (N := 4) rfl ?_); refine dA ?hg (N := 4) ?hd (cs := #[.int .i64 0, .int .i64 0, .slice none 0 0]) (t := 66) ?hr ?_; (case hd => rfl); (case hg => rfl); (case hr => (go_simp; done)); intro vT hg w19 hbox hb; have Cv := aa.mk (hbox); have abQ := aa.mk ((by rw [hg]; exact (ay (by exact HB.out)) : w.heap.size ≤ vT)); have G6 := aa.mk ((by rw [hg]; exact (ay (by exact HB.out)) : w.heap.size ≤ vT)); replace HB := aa.mk (av (by exact HB.out) hb); have nL := aa.mk ((by rw [hg]; exact Nat.ne_of_lt (bW (g := lJ) (o := .cells #[.slice (some BS) aU.length dU, .int .i64 bg, .int .i64 bP, .int .i64 bY, .slice dW aX.length dS] 25 (0, 0)) (bU ik.out)) : lJ ≠ vT)); have zQ := aa.mk ((by rw [hg]; exact Nat.ne_of_gt (bW (g := lJ) (o := .cells #[.slice (some BS) aU.length dU, .int .i64 bg, .int .i64 bP, .int .i64 bY, .slice dW aX.length dS] 25 (0, 0)) (bU ik.out)) : vT ≠ lJ)); replace ik := aa.mk (aj (bU ik.out) hb); clear hb hbox hg; have akn := zQ.out; have aj5 := nL.out; obtain ⟨V8, TD, Wd, Ui, Tw, UT⟩ := cells3 Cv.out) | ((with_reducible refine bR (f := 63) rfl ?_); refine eY (some 28) rfl rfl Try.func63 (by kernel_rfl) rfl #[.agg #[.int .i64 ((ai aU iE).f0.f0), .int .i64 ((ai aU iE).f0.f1), .slice A112_2 ((ai aU iE).f1).length c112_2]] rfl (by (simp only [List.map_toArray, List.map_cons, List.map_nil]); rfl) ?_; (with_reducible refine (aG.calls k1 ((ai aU iE).f0.f0) ((ai aU iE).f0.f1) _ _ ((ai aU iE).f1) D8 _ ?side1 ?side2 A13.out).mono ?_); (case side1 => exact Kd.aT Fe.out (by repeat ((with_reducible first | exact HB.out | refine bZ ?_ G6.out)))); (case side2 => exact Fu.out); rintro e w22 ⟨rfl, hb⟩; refine ⟨_, rfl, ?_⟩; replace ik := aa.mk (aj (g := lJ) (o := .cells #[.slice (some BS) aU.length dU, .int .i64 bg, .int .i64 bP, .int .i64 bY, .slice dW aX.length dS] 25 (0, 0)) (by (with_reducible skip); refine aY ?_ nL.out _; (with_reducible skip); refine aY ?_ nL.out _; (with_reducible skip); refine aY ?_ nL.out _; (with_reducible skip); exact ik.out) hb); replace Cv := aa.mk (aj (g := vT) (o := .cells #[.int .i64 ((ai aU iE).f0.f0), .int .i64 ((ai aU iE).f0.f1), .slice A112_2 ((ai aU iE).f1).length c112_2] 66 (0, 0)) (by (with_reducible skip); refine bJ (cs := #[.int .i64 ((ai aU iE).f0.f0), .int .i64 ((ai aU iE).f0.f1), .slice none 0 0]) ?_ 2 _ rfl; (with_reducible skip); refine bJ (cs := #[.int .i64 ((ai aU iE).f0.f0), .int .i64 0, .slice none 0 0]) ?_ 1 _ rfl; (with_reducible skip); refine bJ (cs := #[.int .i64 0, .int .i64 0, .slice none 0 0]) ?_ 0 _ rfl; (with_reducible skip); exact Cv.out) hb); replace HB := aa.mk (av (by repeat ((with_reducible first | exact HB.out | refine bZ ?_ G6.out))) hb); (clear hb)))
         go_ret
         exact ⟨by rfl, by exact HB.out⟩
       ·rw [if_neg c12] at H; exact absurd H (by simp)
      ·rw [if_neg c11] at H; exact absurd H (by simp)
     ·rw [if_neg c10] at H; have Av : decide (iE < (aU.length : Int)) = false := decide_eq_false c10; clear c10; replace H := Option.bind_eq_some_iff.mp H; obtain ⟨Pi, abG, H⟩ := H; have A23 := aa.mk abG; clear abG; have aaE := aa.mk H; clear H; obtain ⟨Vj, VK, Ue, Vb, SQ, V6, Uk, SV, Uy, TI⟩ := cells5 ik.out; (go_upto_if 33 with (((with_reducible refine bR (f := 64) rfl ?_); refine eY (some 36) rfl rfl Try.func64 (by kernel_rfl) rfl #[.int .i64 bg, .int .i64 0, .int .i64 10] rfl (by (simp only [List.map_toArray, List.map_cons, List.map_nil]); rfl) ?_; (with_reducible refine (eP.calls bg 0 10 Pi _ A23.out).mono ?_); rintro e w' ⟨rfl, ⟨nd, rfl⟩⟩; refine ⟨_, rfl, ?_⟩))); (skip); go_cut [33] (fun v33 wc => ∃ (kq : Nat) (Fb : Bool), v33 = .bool Fb ∧ aa (aJ.j1 kq Fb aU bg bP bY aX = some r) ∧ aa (kq ≤ k1) ∧ aa (wc.heap[lJ]? = some (.cells #[(.slice eH aU.length dU), .int .i64 bg, .int .i64 bP, .int .i64 bY, (.slice dW aX.length dS)] 25 (0, 0))) ∧ aa (Below w.heap.size w wc))
      case first =>
       have H := aaE.out; clear aaE; by_cases c26 : Pi = true
       ·subst c26; rw [if_pos rfl] at H; replace H := Option.bind_eq_some_iff.mp H; obtain ⟨VE, ad2, H⟩ := H; have A27 := aa.mk ad2; clear ad2; by_cases c28 : VE = true
        ·subst c28; rw [if_pos rfl] at H; replace H := Option.bind_eq_some_iff.mp H; obtain ⟨Wq, ad1, H⟩ := H; have A29 := aa.mk ad1; clear ad1; have H' := aa.mk H; clear H; obtain ⟨agH, aga, afI, agD, afK, ahe, agm, afk, agy, ag2⟩ := cells5 ik.out; (go_wp2_with (first | ((with_reducible refine bR (f := 64) rfl ?_); refine eY (some 40) rfl rfl Try.func64 (by kernel_rfl) rfl #[.int .i64 bP, .int .i64 0, .int .i64 10] rfl (by (simp only [List.map_toArray, List.map_cons, List.map_nil]); rfl) ?_; (with_reducible refine (eP.calls bP 0 10 true _ A27.out).mono ?_); rintro e w' ⟨rfl, ⟨nd, rfl⟩⟩; refine ⟨_, rfl, ?_⟩) | ((with_reducible refine bR (f := 64) rfl ?_); refine eY (some 44) rfl rfl Try.func64 (by kernel_rfl) rfl #[.int .i64 bY, .int .i64 0, .int .i64 40] rfl (by (simp only [List.map_toArray, List.map_cons, List.map_nil]); rfl) ?_; (with_reducible refine (eP.calls bY 0 40 Wq _ A29.out).mono ?_); rintro e w' ⟨rfl, ⟨nd, rfl⟩⟩; refine ⟨_, rfl, ?_⟩))); go_meet; case rel => exact ⟨_, (!Wq), (by rfl), H', ⟨by have := HK1.out; omega⟩, ⟨by (with_reducible repeat (refine fC ?_ _)); exact ik.out⟩, ⟨by exact lU HB.out⟩⟩
        ·replace c28 := Bool.eq_false_iff.mpr c28; subst c28; rw [if_neg (show ¬ (false = true) by decide)] at H; have H' := aa.mk H; clear H; obtain ⟨LQ, Mr, UN, ag4, agf, Mj, KY, UB, aeZ, aho⟩ := cells5 ik.out; (go_wp2_with (((with_reducible refine bR (f := 64) rfl ?_); refine eY (some 40) rfl rfl Try.func64 (by kernel_rfl) rfl #[.int .i64 bP, .int .i64 0, .int .i64 10] rfl (by (simp only [List.map_toArray, List.map_cons, List.map_nil]); rfl) ?_; (with_reducible refine (eP.calls bP 0 10 false _ A27.out).mono ?_); rintro e w' ⟨rfl, ⟨nd, rfl⟩⟩; refine ⟨_, rfl, ?_⟩))); go_meet; case rel => exact ⟨_, (!false), (by rfl), H', ⟨by have := HK1.out; omega⟩, ⟨by (with_reducible repeat (refine fC ?_ _)); exact ik.out⟩, ⟨by exact lU HB.out⟩⟩
       ·replace c26 := Bool.eq_false_iff.mpr c26; subst c26; rw [if_neg (show ¬ (false = true) by decide)] at H; have H' := aa.mk H; clear H; go_wp2; go_meet; case rel => exact ⟨_, (!false), (by rfl), H', ⟨by have := HK1.out; omega⟩, ⟨by (with_reducible repeat (refine fC ?_ _)); exact ik.out⟩, ⟨by exact lU HB.out⟩⟩
      case rest =>
       clear aaE Av Vj VK Ue Vb SQ V6 Uk SV Uy TI; obtain ⟨kq, Fb, rfl, HA, HJ23, ik, HB⟩ := hcut
       cases kq with
       | zero => exact absurd HA.out (by simp [aJ.j1])
       | succ kj23 =>
        have H := HA.out; clear HA; simp only [aJ.j1] at H; by_cases c32 : Fb = true
        ·subst c32; rw [if_pos rfl] at H; obtain rfl := Option.some.inj H; go_wp2
         go_ret
         exact ⟨by rfl, by exact HB.out⟩
        ·replace c32 := Bool.eq_false_iff.mpr c32; subst c32; rw [if_neg (show ¬ (false = true) by decide)] at H; by_cases c33 : (aX.length : Int) = 0
         ·rw [if_pos c33] at H; have Ry : ((aX.length : Int) == 0) = true := beq_iff_eq.mpr c33; have Ym : ((aX.length : Int) != 0) = false := bne_eq_false_iff_eq.mpr c33; clear c33; obtain rfl := Option.some.inj H; obtain ⟨agb, agu, ahj, afN, afA, afd, ae8, afb, afP, agG⟩ := cells5 ik.out; go_wp2
          go_ret
          exact ⟨by rfl, by exact HB.out⟩
         ·rw [if_neg c33] at H; have Ry : ((aX.length : Int) == 0) = false := beq_eq_false_iff_ne.mpr c33; have Ym : ((aX.length : Int) != 0) = true := bne_iff_ne.mpr c33; (have ab8 : ¬ (aX = []) := fun h_ => c33 (by rw [h_]; rfl)); by_cases c35 : (aX.length : Int) > 8
          ·rw [if_pos c35] at H; have Yg : decide (8 < (aX.length : Int)) = true := decide_eq_true c35; have Yy : decide (8 < aX.length) = true := decide_eq_true (by omega); clear c35; obtain rfl := Option.some.inj H; obtain ⟨Vh, TB, afB, agp, afL, Wu, Uv, ahf, af0, ahC⟩ := cells5 ik.out; go_wp2
           go_ret
           exact ⟨by rfl, by exact HB.out⟩
          ·rw [if_neg c35] at H; have Yg : decide (8 < (aX.length : Int)) = false := decide_eq_false c35; have Yy : decide (8 < aX.length) = false := decide_eq_false (by omega); clear c35; have H' := aa.mk H; clear H; obtain ⟨wR, xg, wO, FI, Ff, wV, xw, wT, E8, Gh⟩ := cells5 ik.out; go_wp2; (go_loopg [59] kj23 (fun kq v59 w' => ∃ (fV : Int), v59 = .int .i64 fV ∧ aa (aJ.l1 kq aX (aX.length : Int) fV = some r) ∧ aa (kq ≤ kj23) ∧ aa (w'.heap[lJ]? = some (.cells #[(.slice eH aU.length dU), .int .i64 bg, .int .i64 bP, .int .i64 bY, (.slice dW aX.length dS)] 25 (0, 0))) ∧ aa (Below w.heap.size w w'))); case atStart => exact ⟨(0), (by rfl), H', ⟨Nat.le_refl _⟩, ⟨by (with_reducible skip); exact ik.out⟩, ⟨by exact HB.out⟩⟩
           case round =>
            clear H' c33 Ry Ym ab8 Yg Yy wR xg wO FI Ff wV xw wT E8 Gh; obtain ⟨fV, rfl, HA, HK3, ik, HB⟩ := hrel
            cases gk with
            | zero => exact absurd HA.out (by simp [aJ.l1])
            | succ k3 =>
             have H := HA.out; clear HA; simp only [aJ.l1] at H; by_cases c38 : fV < (aX.length : Int)
             ·rw [if_pos c38] at H; have XT : decide (fV < (aX.length : Int)) = true := decide_eq_true c38; clear c38; by_cases c39 : 0 ≤ fV
              ·rw [if_pos c39] at H; have acm : decide (0 ≤ fV) = true := decide_eq_true c39; clear c39; by_cases c40 : fV < (aX.length : Int)
               ·rw [if_pos c40] at H; have adL : decide (fV < (aX.length : Int)) = true := decide_eq_true c40; clear c40; by_cases c41 : ((dn aX fV).length : Int) > 4
                ·rw [if_pos c41] at H; have Yh : decide (4 < ((dn aX fV).length : Int)) = true := decide_eq_true c41; have XU : decide (4 < (dn aX fV).length) = true := decide_eq_true (by omega); clear c41; obtain rfl := Option.some.inj H; have Ip : 0 ≤ (fV : Int) := of_decide_eq_true (by with_reducible assumption); have Ij : fV < (aX.length : Int) := of_decide_eq_true (by with_reducible assumption); obtain ⟨Hm, A118_0, c118_0, e118, sZ, yg, yI⟩ := xI rf.out fV Ip Ij; cases e118; replace sZ := (HB.out.cell (World.block_lt_of_cell? w _ sZ)).trans sZ; have Mf := aa.mk yI; have Vq := aa.mk yg; clear yI yg; replace Ip := eq_true Ip; replace Ij := eq_true Ij; go_wp2
                 go_ret
                 exact ⟨by rfl, by exact HB.out⟩
                ·rw [if_neg c41] at H; have Yh : decide (4 < ((dn aX fV).length : Int)) = false := decide_eq_false c41; have XU : decide (4 < (dn aX fV).length) = false := decide_eq_false (by omega); clear c41; have H' := aa.mk H; clear H; have Ip : 0 ≤ (fV : Int) := of_decide_eq_true (by with_reducible assumption); have Ij : fV < (aX.length : Int) := of_decide_eq_true (by with_reducible assumption); obtain ⟨Hm, A118_0, c118_0, e118, sZ, yg, yI⟩ := xI rf.out fV Ip Ij; cases e118; replace sZ := (HB.out.cell (World.block_lt_of_cell? w _ sZ)).trans sZ; have Mf := aa.mk yI; have Vq := aa.mk yg; clear yI yg; replace Ip := eq_true Ip; replace Ij := eq_true Ij; go_wp2; (go_loopg [68] k3 (fun kq v68 w' => ∃ (jN : Int), v68 = .int .i64 jN ∧ aa (aJ.l2 kq aX (aX.length : Int) fV (dn aX fV) ((dn aX fV).length : Int) jN = some r) ∧ aa (kq ≤ k3) ∧ aa (w'.heap[lJ]? = some (.cells #[(.slice eH aU.length dU), .int .i64 bg, .int .i64 bP, .int .i64 bY, (.slice (some Hm) aX.length dS)] 25 (0, 0))) ∧ aa (Below w.heap.size w w'))); case atStart => exact ⟨(0), (by rfl), H', ⟨Nat.le_refl _⟩, ⟨by (with_reducible skip); exact ik.out⟩, ⟨by exact HB.out⟩⟩
                 case round =>
                  clear H' XT acm adL Yh XU sZ Ip Ij; obtain ⟨jN, rfl, HA, HK4, ik, HB⟩ := hrel
                  cases gk with
                  | zero => exact absurd HA.out (by simp [aJ.l2])
                  | succ k4 =>
                   have H := HA.out; clear HA; simp only [aJ.l2] at H; by_cases c42 : jN < ((dn aX fV).length : Int)
                   ·rw [if_pos c42] at H; have XO : decide (jN < ((dn aX fV).length : Int)) = true := decide_eq_true c42; clear c42; by_cases c43 : 0 ≤ jN
                    ·rw [if_pos c43] at H; have aeD : decide (0 ≤ jN) = true := decide_eq_true c43; clear c43; by_cases c44 : jN < ((dn aX fV).length : Int)
                     ·rw [if_pos c44] at H; have adw : decide (jN < ((dn aX fV).length : Int)) = true := decide_eq_true c44; clear c44; replace H := Option.bind_eq_some_iff.mp H; obtain ⟨QG, acR, H⟩ := H; have A45 := aa.mk acR; clear acR; have aan := aa.mk H; clear H; have UY : 0 ≤ (jN : Int) := of_decide_eq_true (by with_reducible assumption); have Xe : jN < ((dn aX fV).length : Int) := of_decide_eq_true (by with_reducible assumption); obtain ⟨ajW, e119, Bp, Bq⟩ := wD Mf.out jN UY Xe; cases e119; replace Bp := (HB.out.cell (World.block_lt_of_cell? w _ Bp)).trans Bp; replace Bq := (HB.out.cell (World.block_lt_of_cell? w _ Bq)).trans Bq; replace UY := eq_true UY; replace Xe := eq_true Xe; (go_upto_if 72 with (first | ((with_reducible refine df (N := 9) rfl ?_); refine dA ?hg (N := 9) ?hd (cs := #[.int .i64 0, .int .i64 0]) (t := 27) ?hr ?_; (case hd => rfl); (case hg => rfl); (case hr => (go_simp; done)); intro Hu hg w47 hbox hb; have Dr := aa.mk (hbox); have ajL := aa.mk ((by rw [hg]; exact (ay (by exact HB.out)) : w.heap.size ≤ Hu)); have XB := aa.mk ((by rw [hg]; exact (ay (by exact HB.out)) : w.heap.size ≤ Hu)); replace HB := aa.mk (av (by exact HB.out) hb); have oK := aa.mk ((by rw [hg]; exact Nat.ne_of_lt (bW (g := lJ) (o := .cells #[.slice eH aU.length dU, .int .i64 bg, .int .i64 bP, .int .i64 bY, .slice (some Hm) aX.length dS] 25 (0, 0)) (bU ik.out)) : lJ ≠ Hu)); have wX := aa.mk ((by rw [hg]; exact Nat.ne_of_gt (bW (g := lJ) (o := .cells #[.slice eH aU.length dU, .int .i64 bg, .int .i64 bP, .int .i64 bY, .slice (some Hm) aX.length dS] 25 (0, 0)) (bU ik.out)) : Hu ≠ lJ)); replace ik := aa.mk (aj (bU ik.out) hb); clear hb hbox hg; have akm := wX.out; have aka := oK.out; obtain ⟨Wt, UW, Tx, UI⟩ := gP Dr.out) | ((with_reducible refine bR (f := 64) rfl ?_); refine eY (some 75) rfl rfl Try.func64 (by kernel_rfl) rfl #[.int .i64 ((eG (dn aX fV) jN).f0), .int .i64 0, .int .i64 1023] rfl (by (simp only [List.map_toArray, List.map_cons, List.map_nil]); rfl) ?_; (with_reducible refine (eP.calls ((eG (dn aX fV) jN).f0) 0 1023 QG _ A45.out).mono ?_); rintro e w' ⟨rfl, ⟨nd, rfl⟩⟩; refine ⟨_, rfl, ?_⟩))); (skip); go_cut [72] (fun v72 wc => ∃ (kq : Nat) (EZ : Bool), v72 = .bool EZ ∧ aa (aJ.j4 kq aX (aX.length : Int) fV (dn aX fV) ((dn aX fV).length : Int) jN EZ ((eG (dn aX fV) jN).f0) ((eG (dn aX fV) jN).f1) = some r) ∧ aa (kq ≤ k4) ∧ aa (wc.heap[lJ]? = some (.cells #[(.slice eH aU.length dU), .int .i64 bg, .int .i64 bP, .int .i64 bY, (.slice (some Hm) aX.length dS)] 25 (0, 0))) ∧ aa (wc.heap[Hu]? = some (.cells #[.int .i64 ((eG (dn aX fV) jN).f0), .int .i64 ((eG (dn aX fV) jN).f1)] 27 (0, 0))) ∧ aa (Below w.heap.size w wc))
                      case first =>
                       have H := aan.out; clear aan; by_cases c50 : QG = true
                       ·subst c50; rw [if_pos rfl] at H; replace H := Option.bind_eq_some_iff.mp H; obtain ⟨UF, Qs, H⟩ := H; have A51 := aa.mk Qs; clear Qs; have H' := aa.mk H; clear H; have akb := wX.out; have ajw := oK.out; obtain ⟨af8, afr, af4, agz⟩ := gP Dr.out; (go_wp2_with (((with_reducible refine bR (f := 64) rfl ?_); refine eY (some 79) rfl rfl Try.func64 (by kernel_rfl) rfl #[.int .i64 ((eG (dn aX fV) jN).f1), .int .i64 0, .int .i64 1023] rfl (by (simp only [List.map_toArray, List.map_cons, List.map_nil]); rfl) ?_; (with_reducible refine (eP.calls ((eG (dn aX fV) jN).f1) 0 1023 UF _ A51.out).mono ?_); rintro e w' ⟨rfl, ⟨nd, rfl⟩⟩; refine ⟨_, rfl, ?_⟩))); go_meet; case rel => exact ⟨_, (!UF), (by rfl), H', ⟨by have := HK1.out; have := HJ23.out; have := HK3.out; have := HK4.out; omega⟩, ⟨by (with_reducible repeat (refine fC ?_ _)); refine aY ?_ oK.out _; (with_reducible skip); refine aY ?_ oK.out _; (with_reducible skip); exact ik.out⟩, ⟨by (with_reducible repeat (refine fC ?_ _)); refine bJ (cs := #[.int .i64 ((eG (dn aX fV) jN).f0), .int .i64 0]) ?_ 1 _ rfl; (with_reducible skip); refine bJ (cs := #[.int .i64 0, .int .i64 0]) ?_ 0 _ rfl; (with_reducible skip); exact Dr.out⟩, ⟨by repeat ((with_reducible first | exact HB.out | apply dw | refine bZ ?_ XB.out))⟩⟩
                       ·replace c50 := Bool.eq_false_iff.mpr c50; subst c50; rw [if_neg (show ¬ (false = true) by decide)] at H; have H' := aa.mk H; clear H; go_wp2; go_meet; case rel => exact ⟨_, (!false), (by rfl), H', ⟨by have := HK1.out; have := HJ23.out; have := HK3.out; have := HK4.out; omega⟩, ⟨by (with_reducible repeat (refine fC ?_ _)); refine aY ?_ oK.out _; (with_reducible skip); refine aY ?_ oK.out _; (with_reducible skip); exact ik.out⟩, ⟨by (with_reducible repeat (refine fC ?_ _)); refine bJ (cs := #[.int .i64 ((eG (dn aX fV) jN).f0), .int .i64 0]) ?_ 1 _ rfl; (with_reducible skip); refine bJ (cs := #[.int .i64 0, .int .i64 0]) ?_ 0 _ rfl; (with_reducible skip); exact Dr.out⟩, ⟨by repeat ((with_reducible first | exact HB.out | apply dw | refine bZ ?_ XB.out))⟩⟩
                      case rest =>
                       clear aan XO aeD adw Wt UW Tx UI Bp Bq UY Xe; obtain ⟨kq, EZ, rfl, HA, HJ45, ik, Dr, HB⟩ := hcut
                       cases kq with
                       | zero => exact absurd HA.out (by simp [aJ.j4])
                       | succ kj45 =>
                        have H := HA.out; clear HA; simp only [aJ.j4] at H; by_cases c54 : EZ = true
                        ·subst c54; rw [if_pos rfl] at H; obtain rfl := Option.some.inj H; go_wp2
                         go_ret
                         exact ⟨by rfl, by exact HB.out⟩
                        ·replace c54 := Bool.eq_false_iff.mpr c54; subst c54; rw [if_neg (show ¬ (false = true) by decide)] at H; replace H := Option.bind_eq_some_iff.mp H; obtain ⟨Fx, Qo, H⟩ := H; have A55 := aa.mk Qo; clear Qo; by_cases c56 : Fx = 0
                         ·rw [if_pos c56] at H; have ac2 : (Fx == 0) = true := beq_iff_eq.mpr c56; have ado : (Fx != 0) = false := bne_eq_false_iff_eq.mpr c56; clear c56; have H' := aa.mk H; clear H; have aks := wX.out; have akj := oK.out; obtain ⟨afD, afa, af9, afo⟩ := gP Dr.out; (go_wp2_with (((with_reducible refine bR (f := 65) rfl ?_); refine eY (some 86) rfl rfl Try.func65 (by kernel_rfl) rfl #[.int .i64 ((eG (dn aX fV) jN).f1), .int .i64 ((eG (dn aX fV) jN).f0)] rfl (by (simp only [List.map_toArray, List.map_cons, List.map_nil]); rfl) ?_; (with_reducible refine (fD.calls ((eG (dn aX fV) jN).f1) ((eG (dn aX fV) jN).f0) Fx _ A55.out).mono ?_); rintro e w' ⟨rfl, ⟨nd, rfl⟩⟩; refine ⟨_, rfl, ?_⟩))); go_roundg kj45; (case measure => have := HK1.out; have := HJ23.out; have := HK3.out; have := HK4.out; have := HJ45.out; omega); case rel => exact ⟨(wrap64 (jN + 1)), (by rfl), H', ⟨by have := HK1.out; have := HJ23.out; have := HK3.out; have := HK4.out; have := HJ45.out; omega⟩, ⟨by (with_reducible repeat (refine fC ?_ _)); exact ik.out⟩, ⟨by exact lU HB.out⟩⟩
                         ·rw [if_neg c56] at H; have ac2 : (Fx == 0) = false := beq_eq_false_iff_ne.mpr c56; have ado : (Fx != 0) = true := bne_iff_ne.mpr c56; obtain rfl := Option.some.inj H; have OE := wX.out; have Qw := oK.out; obtain ⟨agq, afQ, agE, ahg⟩ := gP Dr.out; go_wp2_with (((with_reducible refine bR (f := 65) rfl ?_); refine eY (some 86) rfl rfl Try.func65 (by kernel_rfl) rfl #[.int .i64 ((eG (dn aX fV) jN).f1), .int .i64 ((eG (dn aX fV) jN).f0)] rfl (by (simp only [List.map_toArray, List.map_cons, List.map_nil]); rfl) ?_; (with_reducible refine (fD.calls ((eG (dn aX fV) jN).f1) ((eG (dn aX fV) jN).f0) Fx _ A55.out).mono ?_); rintro e w' ⟨rfl, ⟨nd, rfl⟩⟩; refine ⟨_, rfl, ?_⟩))
                          go_ret
                          exact ⟨by rfl, by exact lU HB.out⟩
                     ·rw [if_neg c44] at H; exact absurd H (by simp)
                    ·rw [if_neg c43] at H; exact absurd H (by simp)
                   ·rw [if_neg c42] at H; have XO : decide (jN < ((dn aX fV).length : Int)) = false := decide_eq_false c42; clear c42; have H' := aa.mk H; clear H; go_wp2; go_roundg k4; (case measure => have := HK1.out; have := HJ23.out; have := HK3.out; have := HK4.out; omega); case rel => exact ⟨(wrap64 (fV + 1)), (by rfl), H', ⟨by have := HK1.out; have := HJ23.out; have := HK3.out; have := HK4.out; omega⟩, ⟨by (with_reducible skip); exact ik.out⟩, ⟨by exact HB.out⟩⟩
               ·rw [if_neg c40] at H; exact absurd H (by simp)
              ·rw [if_neg c39] at H; exact absurd H (by simp)
             ·rw [if_neg c38] at H; have XT : decide (fV < (aX.length : Int)) = false := decide_eq_false c38; clear c38; obtain rfl := Option.some.inj H; go_wp2
              go_ret
              exact ⟨by rfl, by exact HB.out⟩
mutual
def dm.l0 : Nat → List (S27) → Int → Int → Bool → List (S27) → Int → Int → Option (Int × Int × Bool)
 | 0, _, _, _, _, _, _, _ => none
 | k + 1, x0, x2, x3, x4, x9, x10, x11 => if x11 < x10 then (if 0 ≤ x11 then (if x11 < (x9.length : Int) then (dm.l0 k x0 (Go.bits .or .i64 x2 ((eG x9 x11).f0)) (Go.bits .or .i64 x3 ((eG x9 x11).f1)) x4 x9 x10 (wrap64 (x11 + 1))) else (none)) else (none)) else (dm.l1 k x2 x3 x4 x0 (x0.length : Int) 0)
def dm.l1 : Nat → Int → Int → Bool → List (S27) → Int → Int → Option (Int × Int × Bool)
 | 0, _, _, _, _, _, _ => none
 | k + 1, x2, x3, x4, x24, x25, x26 => if x26 < x25 then (if 0 ≤ x26 then (if x26 < (x24.length : Int) then (if x4 = true then (dm.l1 k x2 x3 ((Go.bits .and .i64 x3 ((eG x24 x26).f0)) == ((eG x24 x26).f1)) x24 x25 (wrap64 (x26 + 1))) else (dm.l1 k x2 x3 false x24 x25 (wrap64 (x26 + 1)))) else (none)) else (none)) else (some (x2, x3, x4))
end
def dm.f (k : Nat) (l0 : List (S27)) : Option (Int × Int × Bool) := dm.l0 k l0 0 0 true l0 (l0.length : Int) 0
theorem dm.gq : ∀ k, (∀ y0 y1 y2 y3 y4 y5 y6, LeO (dm.l0 k y0 y1 y2 y3 y4 y5 y6) (dm.l0 (k + 1) y0 y1 y2 y3 y4 y5 y6)) ∧ (∀ y0 y1 y2 y3 y4 y5, LeO (dm.l1 k y0 y1 y2 y3 y4 y5) (dm.l1 (k + 1) y0 y1 y2 y3 y4 y5))
 | 0 => ⟨fun _ _ _ _ _ _ _ r h => by simp [dm.l0] at h, fun _ _ _ _ _ _ r h => by simp [dm.l1] at h⟩
 | k + 1 => by
  obtain ⟨ih0, ih1⟩ := dm.gq k; refine ⟨?_, ?_⟩
  ·intro y0 y1 y2 y3 y4 y5 y6; unfold dm.l0
   repeat' first | (with_reducible exact ih0 _ _ _ _ _ _ _) | (with_reducible exact ih1 _ _ _ _ _ _) | (with_reducible exact LeO.refl _) | (with_reducible refine LeO.ite ?_ ?_)
  ·intro y0 y1 y2 y3 y4 y5; unfold dm.l1
   repeat' first | (with_reducible exact ih1 _ _ _ _ _ _) | (with_reducible exact LeO.refl _) | (with_reducible refine LeO.ite ?_ ?_)
theorem dm.mono : ∀ a0 k, LeO (dm.f k a0) (dm.f (k + 1) a0) := by
 intro a0 k; obtain ⟨ih0, ih1⟩ := dm.gq k; unfold dm.f
 repeat' (with_reducible exact ih0 _ _ _ _ _ _ _)
set_option maxHeartbeats 8000000 in
set_option maxRecDepth 100000 in
theorem dm.calls (k : Nat) (A0 : Option Addr) (c0 : Nat) (l0 : List (S27)) (r1 : Int) (r2 : Int) (r3 : Bool) (w : World) (hr0 : Kd.C k27 w A0 l0.length l0) (hc0 : l0.length ≤ c0) (h : dm.f k l0 = some (r1, r2, r3)) :
 Calls Try.prog 82 #[.slice A0 l0.length c0] w fun e w' => e = .returned (.tuple #[.int .i64 r1, .int .i64 r2, .bool r3]) ∧ Below w.heap.size w w' := by
 have hu27 := Try.underlying27; have HR0 := aa.mk hr0; have HC0 := aa.mk hc0; clear hr0 hc0; have HB := aa.mk (Below.refl w.heap.size w); have H : (dm.l0 k l0 0 0 true l0 (l0.length : Int) 0) = some (r1, r2, r3) := h; clear h; have H' := aa.mk H; clear H; go_enter Try.func82, Try.ntmps82; go_wp2; (go_loopg [2, 3, 11] k (fun kq v2 v3 v11 w' => ∃ (Sy : Int) (NI : Int) (kW : Int), v2 = .int .i64 Sy ∧ v3 = .int .i64 NI ∧ v11 = .int .i64 kW ∧ aa (dm.l0 kq l0 Sy NI true l0 (l0.length : Int) kW = some (r1, r2, r3)) ∧ aa (kq ≤ k) ∧ aa (Below w.heap.size w w'))); case atStart => exact ⟨(0), (0), (0), (by rfl), (by rfl), (by rfl), H', ⟨Nat.le_refl _⟩, ⟨by exact HB.out⟩⟩
 case round =>
  clear H'; obtain ⟨Sy, NI, kW, rfl, rfl, rfl, HA, HK1, HB⟩ := hrel
  cases gk with
  | zero => exact absurd HA.out (by simp [dm.l0])
  | succ k1 =>
   have H := HA.out; clear HA; simp only [dm.l0] at H; by_cases c2 : kW < (l0.length : Int)
   ·rw [if_pos c2] at H; have Kq : decide (kW < (l0.length : Int)) = true := decide_eq_true c2; clear c2; by_cases c3 : 0 ≤ kW
    ·rw [if_pos c3] at H; have uP : decide (0 ≤ kW) = true := decide_eq_true c3; clear c3; by_cases c4 : kW < (l0.length : Int)
     ·rw [if_pos c4] at H; have yu : decide (kW < (l0.length : Int)) = true := decide_eq_true c4; clear c4; have H' := aa.mk H; clear H; have RN : 0 ≤ (kW : Int) := of_decide_eq_true (by with_reducible assumption); have Qm : kW < (l0.length : Int) := of_decide_eq_true (by with_reducible assumption); obtain ⟨ahM, e1166, CK, CV⟩ := wD HR0.out kW RN Qm; cases e1166; replace CK := (HB.out.cell (World.block_lt_of_cell? w _ CK)).trans CK; replace CV := (HB.out.cell (World.block_lt_of_cell? w _ CV)).trans CV; replace RN := eq_true RN; replace Qm := eq_true Qm; (go_wp2_with (((with_reducible refine df (N := 6) rfl ?_); refine dA ?hg (N := 6) ?hd (cs := #[.int .i64 0, .int .i64 0]) (t := 27) ?hr ?_; (case hd => rfl); (case hg => rfl); (case hr => (go_simp; done)); intro vN hg w5 hbox hb; have CS := aa.mk (hbox); have SL := aa.mk ((by rw [hg]; exact (ay (by exact HB.out)) : w.heap.size ≤ vN)); have JR := aa.mk ((by rw [hg]; exact (ay (by exact HB.out)) : w.heap.size ≤ vN)); replace HB := aa.mk (av (by exact HB.out) hb); clear hb hbox hg; obtain ⟨zH, zU, Aa, zJ⟩ := gP CS.out))); (repeat (go_quiet (first | ((with_reducible refine df (N := 6) rfl ?_); refine dA ?hg (N := 6) ?hd (cs := #[.int .i64 0, .int .i64 0]) (t := 27) ?hr ?_; (case hd => rfl); (case hg => rfl); (case hr => first | (go_simp; done) | (go_simp; rfl)); intro vN hg w5 hbox hb; have CS := aa.mk (hbox); have SL := aa.mk ((by rw [hg]; exact (ay (by repeat (first | (with_reducible first | exact HB.out | apply aA | apply dw | apply gD) | exact HB.out))) : w.heap.size ≤ vN)); have JR := aa.mk ((by rw [hg]; exact (ay (by repeat (first | (with_reducible first | exact HB.out | apply aA | apply dw | apply gD) | exact HB.out))) : w.heap.size ≤ vN)); replace HB := aa.mk (av (by repeat (first | (with_reducible first | exact HB.out | apply aA | apply dw | apply gD) | exact HB.out)) hb); clear hb hbox hg; obtain ⟨zH, zU, Aa, zJ⟩ := gP CS.out)); go_wp2_with (first | ((with_reducible refine df (N := 6) rfl ?_); refine dA ?hg (N := 6) ?hd (cs := #[.int .i64 0, .int .i64 0]) (t := 27) ?hr ?_; (case hd => rfl); (case hg => rfl); (case hr => first | (go_simp; done) | (go_simp; rfl)); intro vN hg w5 hbox hb; have CS := aa.mk (hbox); have SL := aa.mk ((by rw [hg]; exact (ay (by repeat (first | (with_reducible first | exact HB.out | apply aA | apply dw | apply gD) | exact HB.out))) : w.heap.size ≤ vN)); have JR := aa.mk ((by rw [hg]; exact (ay (by repeat (first | (with_reducible first | exact HB.out | apply aA | apply dw | apply gD) | exact HB.out))) : w.heap.size ≤ vN)); replace HB := aa.mk (av (by repeat (first | (with_reducible first | exact HB.out | apply aA | apply dw | apply gD) | exact HB.out)) hb); clear hb hbox hg; obtain ⟨zH, zU, Aa, zJ⟩ := gP CS.out)))); go_roundg k1; (case measure => have := HK1.out; omega); case rel => exact ⟨(Go.bits .or .i64 Sy ((eG l0 kW).f0)), (Go.bits .or .i64 NI ((eG l0 kW).f1)), (wrap64 (kW + 1)), (by rfl), (by rfl), (by rfl), H', ⟨by have := HK1.out; omega⟩, ⟨by repeat ((with_reducible first | exact HB.out | apply dw | refine bZ ?_ JR.out))⟩⟩
     ·rw [if_neg c4] at H; exact absurd H (by simp)
    ·rw [if_neg c3] at H; exact absurd H (by simp)
   ·rw [if_neg c2] at H; have Kq : decide (kW < (l0.length : Int)) = false := decide_eq_false c2; clear c2; have H' := aa.mk H; clear H; go_wp2; (go_loopg [4, 26] k1 (fun kq v4 v26 w' => ∃ (Ty : Bool) (oQ : Int), v4 = .bool Ty ∧ v26 = .int .i64 oQ ∧ aa (dm.l1 kq Sy NI Ty l0 (l0.length : Int) oQ = some (r1, r2, r3)) ∧ aa (kq ≤ k1) ∧ aa (Below w.heap.size w w'))); case atStart => exact ⟨(true), (0), (by rfl), (by rfl), H', ⟨Nat.le_refl _⟩, ⟨by exact HB.out⟩⟩
    case round =>
     clear H' Kq; obtain ⟨Ty, oQ, rfl, rfl, HA, HK2, HB⟩ := hrel
     cases gk with
     | zero => exact absurd HA.out (by simp [dm.l1])
     | succ k2 =>
      have H := HA.out; clear HA; simp only [dm.l1] at H; by_cases c7 : oQ < (l0.length : Int)
      ·rw [if_pos c7] at H; have Px : decide (oQ < (l0.length : Int)) = true := decide_eq_true c7; clear c7; by_cases c8 : 0 ≤ oQ
       ·rw [if_pos c8] at H; have Qg : decide (0 ≤ oQ) = true := decide_eq_true c8; clear c8; by_cases c9 : oQ < (l0.length : Int)
        ·rw [if_pos c9] at H; have aaN : decide (oQ < (l0.length : Int)) = true := decide_eq_true c9; clear c9; by_cases c10 : Ty = true
         ·subst c10; rw [if_pos rfl] at H; have H' := aa.mk H; clear H; have Cs : 0 ≤ (oQ : Int) := of_decide_eq_true (by with_reducible assumption); have Cf : oQ < (l0.length : Int) := of_decide_eq_true (by with_reducible assumption); obtain ⟨Z5, e1168, rY, sF⟩ := wD HR0.out oQ Cs Cf; cases e1168; replace rY := (HB.out.cell (World.block_lt_of_cell? w _ rY)).trans rY; replace sF := (HB.out.cell (World.block_lt_of_cell? w _ sF)).trans sF; replace Cs := eq_true Cs; replace Cf := eq_true Cf; (go_wp2_with (((with_reducible refine df (N := 8) rfl ?_); refine dA ?hg (N := 8) ?hd (cs := #[.int .i64 0, .int .i64 0]) (t := 27) ?hr ?_; (case hd => rfl); (case hg => rfl); (case hr => (go_simp; done)); intro Cu hg w11 hbox hb; have Kk := aa.mk (hbox); have ZW := aa.mk ((by rw [hg]; exact (ay (by exact HB.out)) : w.heap.size ≤ Cu)); have JN := aa.mk ((by rw [hg]; exact (ay (by exact HB.out)) : w.heap.size ≤ Cu)); replace HB := aa.mk (av (by exact HB.out) hb); clear hb hbox hg; obtain ⟨Gw, Gy, Gi, Fa⟩ := gP Kk.out))); go_roundg k2; (case measure => have := HK1.out; have := HK2.out; omega); case rel => exact ⟨(((Go.bits .and .i64 NI ((eG l0 oQ).f0)) == ((eG l0 oQ).f1))), (wrap64 (oQ + 1)), (by rfl), (by rfl), H', ⟨by have := HK1.out; have := HK2.out; omega⟩, ⟨by repeat ((with_reducible first | exact HB.out | refine bZ ?_ JN.out))⟩⟩
         ·replace c10 := Bool.eq_false_iff.mpr c10; subst c10; rw [if_neg (show ¬ (false = true) by decide)] at H; have H' := aa.mk H; clear H; have Cs : 0 ≤ (oQ : Int) := of_decide_eq_true (by with_reducible assumption); have Cf : oQ < (l0.length : Int) := of_decide_eq_true (by with_reducible assumption); obtain ⟨Z5, e1168, rY, sF⟩ := wD HR0.out oQ Cs Cf; cases e1168; replace rY := (HB.out.cell (World.block_lt_of_cell? w _ rY)).trans rY; replace sF := (HB.out.cell (World.block_lt_of_cell? w _ sF)).trans sF; replace Cs := eq_true Cs; replace Cf := eq_true Cf; (go_wp2_with (((with_reducible refine df (N := 8) rfl ?_); refine dA ?hg (N := 8) ?hd (cs := #[.int .i64 0, .int .i64 0]) (t := 27) ?hr ?_; (case hd => rfl); (case hg => rfl); (case hr => (go_simp; done)); intro Cu hg w13 hbox hb; have Kk := aa.mk (hbox); have ZW := aa.mk ((by rw [hg]; exact (ay (by exact HB.out)) : w.heap.size ≤ Cu)); have JN := aa.mk ((by rw [hg]; exact (ay (by exact HB.out)) : w.heap.size ≤ Cu)); replace HB := aa.mk (av (by exact HB.out) hb); clear hb hbox hg; obtain ⟨VC, TK, UX, WE⟩ := gP Kk.out))); go_roundg k2; (case measure => have := HK1.out; have := HK2.out; omega); case rel => exact ⟨(false), (wrap64 (oQ + 1)), (by rfl), (by rfl), H', ⟨by have := HK1.out; have := HK2.out; omega⟩, ⟨by repeat ((with_reducible first | exact HB.out | refine bZ ?_ JN.out))⟩⟩
        ·rw [if_neg c9] at H; exact absurd H (by simp)
       ·rw [if_neg c8] at H; exact absurd H (by simp)
      ·rw [if_neg c7] at H; have Px : decide (oQ < (l0.length : Int)) = false := decide_eq_false c7; clear c7; simp only [Option.some.injEq, Prod.mk.injEq] at H; obtain ⟨rfl, rfl, rfl⟩ := H; go_wp2
       go_ret3
       exact ⟨by rfl, by exact HB.out⟩
def kr.f (a0 : Int) : Option (Int) := some (Go.bits .and .i64 (wrap64 (IntKind.u64.wrap ((IntKind.u64.wrap ((IntKind.u64.wrap ((Go.bits .and .u64 (IntKind.u64.wrap (((IntKind.u64.wrap ((Go.bits .and .u64 ((IntKind.u64.wrap ((Go.bits .and .u64 (a0 / 2) 6148914691236517205) + (Go.bits .and .u64 a0 6148914691236517205))) / 4) 3689348814741910323) + (Go.bits .and .u64 (IntKind.u64.wrap ((Go.bits .and .u64 (a0 / 2) 6148914691236517205) + (Go.bits .and .u64 a0 6148914691236517205))) 3689348814741910323))) / 16) + (IntKind.u64.wrap ((Go.bits .and .u64 ((IntKind.u64.wrap ((Go.bits .and .u64 (a0 / 2) 6148914691236517205) + (Go.bits .and .u64 a0 6148914691236517205))) / 4) 3689348814741910323) + (Go.bits .and .u64 (IntKind.u64.wrap ((Go.bits .and .u64 (a0 / 2) 6148914691236517205) + (Go.bits .and .u64 a0 6148914691236517205))) 3689348814741910323))))) 1085102592571150095) + ((Go.bits .and .u64 (IntKind.u64.wrap (((IntKind.u64.wrap ((Go.bits .and .u64 ((IntKind.u64.wrap ((Go.bits .and .u64 (a0 / 2) 6148914691236517205) + (Go.bits .and .u64 a0 6148914691236517205))) / 4) 3689348814741910323) + (Go.bits .and .u64 (IntKind.u64.wrap ((Go.bits .and .u64 (a0 / 2) 6148914691236517205) + (Go.bits .and .u64 a0 6148914691236517205))) 3689348814741910323))) / 16) + (IntKind.u64.wrap ((Go.bits .and .u64 ((IntKind.u64.wrap ((Go.bits .and .u64 (a0 / 2) 6148914691236517205) + (Go.bits .and .u64 a0 6148914691236517205))) / 4) 3689348814741910323) + (Go.bits .and .u64 (IntKind.u64.wrap ((Go.bits .and .u64 (a0 / 2) 6148914691236517205) + (Go.bits .and .u64 a0 6148914691236517205))) 3689348814741910323))))) 1085102592571150095) / 256))) + ((IntKind.u64.wrap ((Go.bits .and .u64 (IntKind.u64.wrap (((IntKind.u64.wrap ((Go.bits .and .u64 ((IntKind.u64.wrap ((Go.bits .and .u64 (a0 / 2) 6148914691236517205) + (Go.bits .and .u64 a0 6148914691236517205))) / 4) 3689348814741910323) + (Go.bits .and .u64 (IntKind.u64.wrap ((Go.bits .and .u64 (a0 / 2) 6148914691236517205) + (Go.bits .and .u64 a0 6148914691236517205))) 3689348814741910323))) / 16) + (IntKind.u64.wrap ((Go.bits .and .u64 ((IntKind.u64.wrap ((Go.bits .and .u64 (a0 / 2) 6148914691236517205) + (Go.bits .and .u64 a0 6148914691236517205))) / 4) 3689348814741910323) + (Go.bits .and .u64 (IntKind.u64.wrap ((Go.bits .and .u64 (a0 / 2) 6148914691236517205) + (Go.bits .and .u64 a0 6148914691236517205))) 3689348814741910323))))) 1085102592571150095) + ((Go.bits .and .u64 (IntKind.u64.wrap (((IntKind.u64.wrap ((Go.bits .and .u64 ((IntKind.u64.wrap ((Go.bits .and .u64 (a0 / 2) 6148914691236517205) + (Go.bits .and .u64 a0 6148914691236517205))) / 4) 3689348814741910323) + (Go.bits .and .u64 (IntKind.u64.wrap ((Go.bits .and .u64 (a0 / 2) 6148914691236517205) + (Go.bits .and .u64 a0 6148914691236517205))) 3689348814741910323))) / 16) + (IntKind.u64.wrap ((Go.bits .and .u64 ((IntKind.u64.wrap ((Go.bits .and .u64 (a0 / 2) 6148914691236517205) + (Go.bits .and .u64 a0 6148914691236517205))) / 4) 3689348814741910323) + (Go.bits .and .u64 (IntKind.u64.wrap ((Go.bits .and .u64 (a0 / 2) 6148914691236517205) + (Go.bits .and .u64 a0 6148914691236517205))) 3689348814741910323))))) 1085102592571150095) / 256))) / 65536))) + ((IntKind.u64.wrap ((IntKind.u64.wrap ((Go.bits .and .u64 (IntKind.u64.wrap (((IntKind.u64.wrap ((Go.bits .and .u64 ((IntKind.u64.wrap ((Go.bits .and .u64 (a0 / 2) 6148914691236517205) + (Go.bits .and .u64 a0 6148914691236517205))) / 4) 3689348814741910323) + (Go.bits .and .u64 (IntKind.u64.wrap ((Go.bits .and .u64 (a0 / 2) 6148914691236517205) + (Go.bits .and .u64 a0 6148914691236517205))) 3689348814741910323))) / 16) + (IntKind.u64.wrap ((Go.bits .and .u64 ((IntKind.u64.wrap ((Go.bits .and .u64 (a0 / 2) 6148914691236517205) + (Go.bits .and .u64 a0 6148914691236517205))) / 4) 3689348814741910323) + (Go.bits .and .u64 (IntKind.u64.wrap ((Go.bits .and .u64 (a0 / 2) 6148914691236517205) + (Go.bits .and .u64 a0 6148914691236517205))) 3689348814741910323))))) 1085102592571150095) + ((Go.bits .and .u64 (IntKind.u64.wrap (((IntKind.u64.wrap ((Go.bits .and .u64 ((IntKind.u64.wrap ((Go.bits .and .u64 (a0 / 2) 6148914691236517205) + (Go.bits .and .u64 a0 6148914691236517205))) / 4) 3689348814741910323) + (Go.bits .and .u64 (IntKind.u64.wrap ((Go.bits .and .u64 (a0 / 2) 6148914691236517205) + (Go.bits .and .u64 a0 6148914691236517205))) 3689348814741910323))) / 16) + (IntKind.u64.wrap ((Go.bits .and .u64 ((IntKind.u64.wrap ((Go.bits .and .u64 (a0 / 2) 6148914691236517205) + (Go.bits .and .u64 a0 6148914691236517205))) / 4) 3689348814741910323) + (Go.bits .and .u64 (IntKind.u64.wrap ((Go.bits .and .u64 (a0 / 2) 6148914691236517205) + (Go.bits .and .u64 a0 6148914691236517205))) 3689348814741910323))))) 1085102592571150095) / 256))) + ((IntKind.u64.wrap ((Go.bits .and .u64 (IntKind.u64.wrap (((IntKind.u64.wrap ((Go.bits .and .u64 ((IntKind.u64.wrap ((Go.bits .and .u64 (a0 / 2) 6148914691236517205) + (Go.bits .and .u64 a0 6148914691236517205))) / 4) 3689348814741910323) + (Go.bits .and .u64 (IntKind.u64.wrap ((Go.bits .and .u64 (a0 / 2) 6148914691236517205) + (Go.bits .and .u64 a0 6148914691236517205))) 3689348814741910323))) / 16) + (IntKind.u64.wrap ((Go.bits .and .u64 ((IntKind.u64.wrap ((Go.bits .and .u64 (a0 / 2) 6148914691236517205) + (Go.bits .and .u64 a0 6148914691236517205))) / 4) 3689348814741910323) + (Go.bits .and .u64 (IntKind.u64.wrap ((Go.bits .and .u64 (a0 / 2) 6148914691236517205) + (Go.bits .and .u64 a0 6148914691236517205))) 3689348814741910323))))) 1085102592571150095) + ((Go.bits .and .u64 (IntKind.u64.wrap (((IntKind.u64.wrap ((Go.bits .and .u64 ((IntKind.u64.wrap ((Go.bits .and .u64 (a0 / 2) 6148914691236517205) + (Go.bits .and .u64 a0 6148914691236517205))) / 4) 3689348814741910323) + (Go.bits .and .u64 (IntKind.u64.wrap ((Go.bits .and .u64 (a0 / 2) 6148914691236517205) + (Go.bits .and .u64 a0 6148914691236517205))) 3689348814741910323))) / 16) + (IntKind.u64.wrap ((Go.bits .and .u64 ((IntKind.u64.wrap ((Go.bits .and .u64 (a0 / 2) 6148914691236517205) + (Go.bits .and .u64 a0 6148914691236517205))) / 4) 3689348814741910323) + (Go.bits .and .u64 (IntKind.u64.wrap ((Go.bits .and .u64 (a0 / 2) 6148914691236517205) + (Go.bits .and .u64 a0 6148914691236517205))) 3689348814741910323))))) 1085102592571150095) / 256))) / 65536))) / 4294967296)))) 127)
set_option maxHeartbeats 8000000 in
set_option maxRecDepth 100000 in
theorem kr.calls (a0 : Int) (r : Int) (w : World) (h : kr.f a0 = some r) :
 Calls Try.prog 100 #[.int .u64 a0] w fun e w' => e = .returned (.int .i64 r) ∧ dF w w' := by
 have H : (some (Go.bits .and .i64 (wrap64 (IntKind.u64.wrap ((IntKind.u64.wrap ((IntKind.u64.wrap ((Go.bits .and .u64 (IntKind.u64.wrap (((IntKind.u64.wrap ((Go.bits .and .u64 ((IntKind.u64.wrap ((Go.bits .and .u64 (a0 / 2) 6148914691236517205) + (Go.bits .and .u64 a0 6148914691236517205))) / 4) 3689348814741910323) + (Go.bits .and .u64 (IntKind.u64.wrap ((Go.bits .and .u64 (a0 / 2) 6148914691236517205) + (Go.bits .and .u64 a0 6148914691236517205))) 3689348814741910323))) / 16) + (IntKind.u64.wrap ((Go.bits .and .u64 ((IntKind.u64.wrap ((Go.bits .and .u64 (a0 / 2) 6148914691236517205) + (Go.bits .and .u64 a0 6148914691236517205))) / 4) 3689348814741910323) + (Go.bits .and .u64 (IntKind.u64.wrap ((Go.bits .and .u64 (a0 / 2) 6148914691236517205) + (Go.bits .and .u64 a0 6148914691236517205))) 3689348814741910323))))) 1085102592571150095) + ((Go.bits .and .u64 (IntKind.u64.wrap (((IntKind.u64.wrap ((Go.bits .and .u64 ((IntKind.u64.wrap ((Go.bits .and .u64 (a0 / 2) 6148914691236517205) + (Go.bits .and .u64 a0 6148914691236517205))) / 4) 3689348814741910323) + (Go.bits .and .u64 (IntKind.u64.wrap ((Go.bits .and .u64 (a0 / 2) 6148914691236517205) + (Go.bits .and .u64 a0 6148914691236517205))) 3689348814741910323))) / 16) + (IntKind.u64.wrap ((Go.bits .and .u64 ((IntKind.u64.wrap ((Go.bits .and .u64 (a0 / 2) 6148914691236517205) + (Go.bits .and .u64 a0 6148914691236517205))) / 4) 3689348814741910323) + (Go.bits .and .u64 (IntKind.u64.wrap ((Go.bits .and .u64 (a0 / 2) 6148914691236517205) + (Go.bits .and .u64 a0 6148914691236517205))) 3689348814741910323))))) 1085102592571150095) / 256))) + ((IntKind.u64.wrap ((Go.bits .and .u64 (IntKind.u64.wrap (((IntKind.u64.wrap ((Go.bits .and .u64 ((IntKind.u64.wrap ((Go.bits .and .u64 (a0 / 2) 6148914691236517205) + (Go.bits .and .u64 a0 6148914691236517205))) / 4) 3689348814741910323) + (Go.bits .and .u64 (IntKind.u64.wrap ((Go.bits .and .u64 (a0 / 2) 6148914691236517205) + (Go.bits .and .u64 a0 6148914691236517205))) 3689348814741910323))) / 16) + (IntKind.u64.wrap ((Go.bits .and .u64 ((IntKind.u64.wrap ((Go.bits .and .u64 (a0 / 2) 6148914691236517205) + (Go.bits .and .u64 a0 6148914691236517205))) / 4) 3689348814741910323) + (Go.bits .and .u64 (IntKind.u64.wrap ((Go.bits .and .u64 (a0 / 2) 6148914691236517205) + (Go.bits .and .u64 a0 6148914691236517205))) 3689348814741910323))))) 1085102592571150095) + ((Go.bits .and .u64 (IntKind.u64.wrap (((IntKind.u64.wrap ((Go.bits .and .u64 ((IntKind.u64.wrap ((Go.bits .and .u64 (a0 / 2) 6148914691236517205) + (Go.bits .and .u64 a0 6148914691236517205))) / 4) 3689348814741910323) + (Go.bits .and .u64 (IntKind.u64.wrap ((Go.bits .and .u64 (a0 / 2) 6148914691236517205) + (Go.bits .and .u64 a0 6148914691236517205))) 3689348814741910323))) / 16) + (IntKind.u64.wrap ((Go.bits .and .u64 ((IntKind.u64.wrap ((Go.bits .and .u64 (a0 / 2) 6148914691236517205) + (Go.bits .and .u64 a0 6148914691236517205))) / 4) 3689348814741910323) + (Go.bits .and .u64 (IntKind.u64.wrap ((Go.bits .and .u64 (a0 / 2) 6148914691236517205) + (Go.bits .and .u64 a0 6148914691236517205))) 3689348814741910323))))) 1085102592571150095) / 256))) / 65536))) + ((IntKind.u64.wrap ((IntKind.u64.wrap ((Go.bits .and .u64 (IntKind.u64.wrap (((IntKind.u64.wrap ((Go.bits .and .u64 ((IntKind.u64.wrap ((Go.bits .and .u64 (a0 / 2) 6148914691236517205) + (Go.bits .and .u64 a0 6148914691236517205))) / 4) 3689348814741910323) + (Go.bits .and .u64 (IntKind.u64.wrap ((Go.bits .and .u64 (a0 / 2) 6148914691236517205) + (Go.bits .and .u64 a0 6148914691236517205))) 3689348814741910323))) / 16) + (IntKind.u64.wrap ((Go.bits .and .u64 ((IntKind.u64.wrap ((Go.bits .and .u64 (a0 / 2) 6148914691236517205) + (Go.bits .and .u64 a0 6148914691236517205))) / 4) 3689348814741910323) + (Go.bits .and .u64 (IntKind.u64.wrap ((Go.bits .and .u64 (a0 / 2) 6148914691236517205) + (Go.bits .and .u64 a0 6148914691236517205))) 3689348814741910323))))) 1085102592571150095) + ((Go.bits .and .u64 (IntKind.u64.wrap (((IntKind.u64.wrap ((Go.bits .and .u64 ((IntKind.u64.wrap ((Go.bits .and .u64 (a0 / 2) 6148914691236517205) + (Go.bits .and .u64 a0 6148914691236517205))) / 4) 3689348814741910323) + (Go.bits .and .u64 (IntKind.u64.wrap ((Go.bits .and .u64 (a0 / 2) 6148914691236517205) + (Go.bits .and .u64 a0 6148914691236517205))) 3689348814741910323))) / 16) + (IntKind.u64.wrap ((Go.bits .and .u64 ((IntKind.u64.wrap ((Go.bits .and .u64 (a0 / 2) 6148914691236517205) + (Go.bits .and .u64 a0 6148914691236517205))) / 4) 3689348814741910323) + (Go.bits .and .u64 (IntKind.u64.wrap ((Go.bits .and .u64 (a0 / 2) 6148914691236517205) + (Go.bits .and .u64 a0 6148914691236517205))) 3689348814741910323))))) 1085102592571150095) / 256))) + ((IntKind.u64.wrap ((Go.bits .and .u64 (IntKind.u64.wrap (((IntKind.u64.wrap ((Go.bits .and .u64 ((IntKind.u64.wrap ((Go.bits .and .u64 (a0 / 2) 6148914691236517205) + (Go.bits .and .u64 a0 6148914691236517205))) / 4) 3689348814741910323) + (Go.bits .and .u64 (IntKind.u64.wrap ((Go.bits .and .u64 (a0 / 2) 6148914691236517205) + (Go.bits .and .u64 a0 6148914691236517205))) 3689348814741910323))) / 16) + (IntKind.u64.wrap ((Go.bits .and .u64 ((IntKind.u64.wrap ((Go.bits .and .u64 (a0 / 2) 6148914691236517205) + (Go.bits .and .u64 a0 6148914691236517205))) / 4) 3689348814741910323) + (Go.bits .and .u64 (IntKind.u64.wrap ((Go.bits .and .u64 (a0 / 2) 6148914691236517205) + (Go.bits .and .u64 a0 6148914691236517205))) 3689348814741910323))))) 1085102592571150095) + ((Go.bits .and .u64 (IntKind.u64.wrap (((IntKind.u64.wrap ((Go.bits .and .u64 ((IntKind.u64.wrap ((Go.bits .and .u64 (a0 / 2) 6148914691236517205) + (Go.bits .and .u64 a0 6148914691236517205))) / 4) 3689348814741910323) + (Go.bits .and .u64 (IntKind.u64.wrap ((Go.bits .and .u64 (a0 / 2) 6148914691236517205) + (Go.bits .and .u64 a0 6148914691236517205))) 3689348814741910323))) / 16) + (IntKind.u64.wrap ((Go.bits .and .u64 ((IntKind.u64.wrap ((Go.bits .and .u64 (a0 / 2) 6148914691236517205) + (Go.bits .and .u64 a0 6148914691236517205))) / 4) 3689348814741910323) + (Go.bits .and .u64 (IntKind.u64.wrap ((Go.bits .and .u64 (a0 / 2) 6148914691236517205) + (Go.bits .and .u64 a0 6148914691236517205))) 3689348814741910323))))) 1085102592571150095) / 256))) / 65536))) / 4294967296)))) 127)) = some r := h; clear h; obtain rfl := Option.some.inj H; go_enter Try.func100, Try.ntmps100; go_wp2
 go_ret
 exact ⟨by rfl, by exact dF.refl _⟩
def lD.f (a0 : Int) : Option (Int) := (kr.f a0).bind fun Ig => (some Ig)
set_option maxHeartbeats 8000000 in
set_option maxRecDepth 100000 in
theorem lD.calls (a0 : Int) (r : Int) (w : World) (h : lD.f a0 = some r) :
 Calls Try.prog 87 #[.int .u64 a0] w fun e w' => e = .returned (.int .i64 r) ∧ dF w w' := by
 have H : ((kr.f a0).bind fun Ig => (some Ig)) = some r := h; clear h; replace H := Option.bind_eq_some_iff.mp H; obtain ⟨Ig, A20, H⟩ := H; have A2 := aa.mk A20; clear A20; obtain rfl := Option.some.inj H; go_enter Try.func87, Try.ntmps87; go_wp2_with (((with_reducible refine bR (f := 100) rfl ?_); refine eY (some 7) rfl rfl Try.func100 (by kernel_rfl) rfl #[.int .u64 a0] rfl (by (simp only [List.map_toArray, List.map_cons, List.map_nil]); rfl) ?_; (with_reducible refine (kr.calls a0 Ig _ A2.out).mono ?_); rintro e w' ⟨rfl, ⟨nd, rfl⟩⟩; refine ⟨_, rfl, ?_⟩))
 go_ret
 exact ⟨by rfl, by repeat (first | exact dF.refl _ | apply dF.step)⟩
def iq.f (a0 : Int) : Option (Int) := (lD.f (IntKind.u64.wrap (a0))).bind fun IQ => (some IQ)
set_option maxHeartbeats 8000000 in
set_option maxRecDepth 100000 in
theorem iq.calls (a0 : Int) (r : Int) (w : World) (h : iq.f a0 = some r) :
 Calls Try.prog 83 #[.int .i64 a0] w fun e w' => e = .returned (.int .i64 r) ∧ dF w w' := by
 have H : ((lD.f (IntKind.u64.wrap (a0))).bind fun IQ => (some IQ)) = some r := h; clear h; replace H := Option.bind_eq_some_iff.mp H; obtain ⟨IQ, A20, H⟩ := H; have A2 := aa.mk A20; clear A20; obtain rfl := Option.some.inj H; go_enter Try.func83, Try.ntmps83; go_wp2_with (((with_reducible refine bR (f := 87) rfl ?_); refine eY (some 5) rfl rfl Try.func87 (by kernel_rfl) rfl #[.int .u64 (IntKind.u64.wrap (a0))] rfl (by (simp only [List.map_toArray, List.map_cons, List.map_nil]); rfl) ?_; (with_reducible refine (lD.calls (IntKind.u64.wrap (a0)) IQ _ A2.out).mono ?_); rintro e w' ⟨rfl, ⟨nd, rfl⟩⟩; refine ⟨_, rfl, ?_⟩))
 go_ret
 exact ⟨by rfl, by repeat (first | exact dF.refl _ | apply dF.step)⟩
end Go.Proofs.Ytihedeofkhapiaa.Pr
end
section
namespace Go.Proofs.Ytihedeofkhapiaa.Pr
open Go.RowKit Go.Proofs.YtihedeofkhapiaaW.PrintWords Go.Proofs.YtihedeofkhapiaaW.PrintLast Go.Proofs.YtihedeofkhapiaaW.PrintMore
theorem AP {i : Int} {n : Nat} (h0 : 0 ≤ i) (h : i < (n : Int)) (hn : n ≤ 9223372036854775807) : wrap64 (i + 1) = i + 1 := by
 unfold wrap64; omega
theorem lL {α : Type} (l : List α) (d : α) (i : Nat) (h : i < l.length) : l.drop i = l.getD i d :: l.drop (i + 1) := by
 rw [List.drop_eq_getElem_cons h]; simp [List.getD_eq_getElem?_getD, List.getElem?_eq_getElem h]
def seenStep (s : Int × Int) (x : S27) : Int × Int := (Go.bits .or .i64 s.1 x.f0, Go.bits .or .i64 s.2 x.f1)
def xO (l : List S27) : Int × Int := l.foldl seenStep (0, 0)
def vM (v : Int) (b : Bool) (x : S27) : Bool := if b = true then (Go.bits .and .i64 v x.f0 == x.f1) else false
def gF (l : List S27) : Int × Int × Bool := ((xO l).1, (xO l).2, l.foldl (vM (xO l).2) true)
theorem WL (l : List S27) (hl : l.length ≤ 9223372036854775807) (x2 x3 : Int) : ∀ (d k i : Nat) (b : Bool), i + d = l.length → d < k →
 dm.l1 k x2 x3 b l (l.length : Int) (i : Int) = some (x2, x3, (l.drop i).foldl (vM x3) b) := by
 intro d
 induction d with
 | zero =>
  intro k i b hi hk; obtain ⟨k, rfl⟩ : ∃ m, k = m + 1 := ⟨k - 1, by omega⟩; simp only [dm.l1]; rw [if_neg (by omega), List.drop_eq_nil_of_le (by omega)]; rfl
 | succ d ih =>
  intro k i b hi hk; obtain ⟨k, rfl⟩ : ∃ m, k = m + 1 := ⟨k - 1, by omega⟩; simp only [dm.l1]; rw [if_pos (by omega), if_pos (by omega), if_pos (by omega), AP (by omega) (by omega) hl, lL l z27 i (by omega)]; (have e : eG l (i : Int) = l.getD i z27 := by simp [eG]); rw [e, List.foldl_cons]; have hc : ((i : Int) + 1) = ((i + 1 : Nat) : Int) := by omega
  cases b with
  | true =>
   rw [if_pos rfl, hc, ih k (i + 1) _ (by omega) (by omega)]; simp [vM]
  | false =>
   rw [if_neg (by decide), hc, ih k (i + 1) _ (by omega) (by omega)]; simp [vM]
theorem UD (l : List S27) (hl : l.length ≤ 9223372036854775807) : ∀ (d k i : Nat) (s : Int × Int), i + d = l.length → l.length + d + 1 < k →
 dm.l0 k l s.1 s.2 true l (l.length : Int) (i : Int) = some (((l.drop i).foldl seenStep s).1, ((l.drop i).foldl seenStep s).2, l.foldl (vM ((l.drop i).foldl seenStep s).2) true) := by
 intro d
 induction d with
 | zero =>
  intro k i s hi hk; obtain ⟨k, rfl⟩ : ∃ m, k = m + 1 := ⟨k - 1, by omega⟩; simp only [dm.l0]; rw [if_neg (by omega), List.drop_eq_nil_of_le (show l.length ≤ i by omega)]; have := WL l hl s.1 s.2 l.length k 0 true (by omega) (by omega)
  simpa using this
 | succ d ih =>
  intro k i s hi hk; obtain ⟨k, rfl⟩ : ∃ m, k = m + 1 := ⟨k - 1, by omega⟩; simp only [dm.l0]; rw [if_pos (by omega), if_pos (by omega), if_pos (by omega), AP (by omega) (by omega) hl, lL l z27 i (by omega)]; (have e : eG l (i : Int) = l.getD i z27 := by simp [eG]); (have hc : ((i : Int) + 1) = ((i + 1 : Nat) : Int) := by omega); rw [e, hc, List.foldl_cons]; exact ih k (i + 1) (seenStep s (l.getD i z27)) (by omega) (by omega)
theorem Zp (l : List S27) (hl : l.length ≤ 9223372036854775807) : dm.f (2 * l.length + 2) l = some (gF l) := by
 have := UD l hl l.length (2 * l.length + 2) 0 (0, 0) (by omega) (by omega)
 simpa [dm.f, gF, xO] using this
theorem JJ (A0 : Option Addr) (c0 : Nat) (l0 : List S27) (w : World) (hr0 : Kd.C k27 w A0 l0.length l0) (hc0 : l0.length ≤ c0) (hl : l0.length ≤ 9223372036854775807) :
 Calls Try.prog 82 #[.slice A0 l0.length c0] w fun e w' => e = .returned (.tuple #[.int .i64 (gF l0).1, .int .i64 (gF l0).2.1, .bool (gF l0).2.2]) ∧ Below w.heap.size w w' :=
 dm.calls _ A0 c0 l0 _ _ _ w hr0 hc0 (Zp l0 hl)
def nT (a : Int) : Int := (iq.f a).getD 0
theorem YT (a : Int) : iq.f a = some (nT a) := by
 obtain ⟨r, h⟩ : ∃ r, iq.f a = some r := by
  simp only [iq.f, lD.f, kr.f, Option.bind_some]; exact ⟨_, rfl⟩
 rw [nT, h]; rfl
theorem J3 (a : Int) (w : World) : Calls Try.prog 83 #[.int .i64 a] w fun e w' => e = .returned (.int .i64 (nT a)) ∧ dF w w' :=
 iq.calls a _ w (YT a)
def gp (a b : Int) : Int := Go.bits .andNot .i64 a b
theorem DT (a b : Int) (w : World) : Calls Try.prog 65 #[.int .i64 a, .int .i64 b] w fun e w' => e = .returned (.int .i64 (gp a b)) ∧ dF w w' :=
 fD.calls a b _ w rfl
def inP (n lo hi : Int) : Bool := decide (lo ≤ n) && decide (n ≤ hi)
theorem ow {n lo hi : Int} : inP n lo hi = true ↔ lo ≤ n ∧ n ≤ hi := by simp [inP]
theorem JA (n lo hi : Int) : eP.f n lo hi = some (inP n lo hi) := by
 unfold eP.f inP; split
 ·rename_i h; simp [h]
 ·rename_i h; simp [h]
def jc : Option Int → List S86 → Int
 | _, [] => 0
 | p, s :: r => if s.f0 < 65 ∨ s.f0 > 90 then 8 else if inP s.f1 1 1023 = true then (if (∃ q, p = some q ∧ s.f0 ≤ q) then 5 else jc (some s.f0) r) else 1
def lQ (a b : Int) (l : List S86) : Int :=
 if inP a (-3000) 3000 = true ∧ inP b (-3000) 3000 = true then (if a > b then 5 else if l.length = 0 then 7 else if l.length > 8 then 6 else jc none l) else 1
def rq (l : List S86) (i : Nat) : Option Int := if i = 0 then none else some (l.getD (i - 1) z86).f0
theorem JX (l : List S86) : rq l 0 = none := rfl
theorem xY (l : List S86) (i : Nat) : rq l (i + 1) = some (l.getD i z86).f0 := by simp [rq]
theorem Ko (l : List S86) (i : Nat) : ak l (i : Int) = l.getD i z86 := by simp [ak]
theorem N9 (a b : Int) (l : List S86) (hl : l.length ≤ 8) : ∀ (d i : Nat), i + d = l.length → Ev (fun k => aG.l0 k l (l.length : Int) (i : Int) a b l) (jc (rq l i) (l.drop i)) := by
 intro d
 induction d with
 | zero =>
  intro i hi; refine Ev.step (f := fun _ => some 0) (fun k => ?_) ?_
  ·simp only [aG.l0]; rw [if_neg (by omega)]
  ·rw [List.drop_eq_nil_of_le (by omega)]; exact Ev.now 0
 | succ d ih =>
  intro i hi; (have hc : ((i : Int) + 1) = ((i + 1 : Nat) : Int) := by omega); refine Ev.step (f := fun k => aG.j2 k (i : Int) l (l.length : Int) (i : Int) (decide ((l.getD i z86).f0 < 65 ∨ (l.getD i z86).f0 > 90)) a b l (l.getD i z86).f0 (l.getD i z86).f1) (fun k => ?_) ?_
  ·simp only [aG.l0]; rw [if_pos (by omega), if_pos (by omega), if_pos (by omega), Ko]; by_cases h : (l.getD i z86).f0 < 65
   ·rw [if_pos h, decide_eq_true h, decide_eq_true (show (l.getD i z86).f0 < 65 ∨ (l.getD i z86).f0 > 90 from .inl h)]
   ·rw [if_neg h]; simp only [h, false_or]
  rw [lL l z86 i (by omega), jc]; by_cases h1 : (l.getD i z86).f0 < 65 ∨ (l.getD i z86).f0 > 90
  ·rw [if_pos h1]; refine Ev.step (f := fun _ => some 8) (fun k => ?_) (Ev.now 8); simp only [aG.j2, h1, decide_true, if_true]
  rw [if_neg h1]; by_cases h2 : inP (l.getD i z86).f1 1 1023 = true
  ·rw [if_pos h2]; by_cases h3 : i = 0
   ·subst h3; rw [if_neg (by simp [rq])]; refine Ev.step (f := fun k => aG.l0 k l (l.length : Int) ((0 + 1 : Nat) : Int) a b l) (fun k => ?_) ?_
    ·simp only [aG.j2, h1, decide_false, JA, Option.bind_some, h2]; rw [if_neg (by decide), if_pos trivial, if_neg (by decide), show wrap64 (((0 : Nat) : Int) + 1) = ((0 + 1 : Nat) : Int) from by unfold wrap64; omega]
    ·have := ih 1 (by omega)
     rwa [xY] at this
   ·obtain ⟨j, rfl⟩ : ∃ j, i = j + 1 := ⟨i - 1, by omega⟩; rw [xY]; (have hw : wrap64 (((j + 1 : Nat) : Int) - 1) = (j : Int) := by unfold wrap64; omega); (have hw2 : wrap64 (((j + 1 : Nat) : Int) + 1) = ((j + 1 + 1 : Nat) : Int) := by unfold wrap64; omega); by_cases h4 : (l.getD (j + 1) z86).f0 ≤ (l.getD j z86).f0
    ·rw [if_pos ⟨_, rfl, h4⟩]; refine Ev.step (f := fun _ => some 5) (fun k => ?_) (Ev.now 5); simp only [aG.j2, h1, decide_false, JA, Option.bind_some, h2, hw]; rw [if_neg (by decide), if_pos trivial, if_pos (by omega), if_pos (by omega), if_pos (by omega), Ko, if_pos h4]
    ·rw [if_neg (by rintro ⟨q, hq, h⟩; cases hq; exact h4 h)]; refine Ev.step (f := fun k => aG.l0 k l (l.length : Int) ((j + 1 + 1 : Nat) : Int) a b l) (fun k => ?_) ?_
     ·simp only [aG.j2, h1, decide_false, JA, Option.bind_some, h2, hw, hw2]; rw [if_neg (by decide), if_pos trivial, if_pos (by omega), if_pos (by omega), if_pos (by omega), Ko, if_neg h4]
     ·have := ih (j + 1 + 1) (by omega)
      rwa [xY] at this
  ·rw [if_neg h2]; refine Ev.step (f := fun _ => some 1) (fun k => ?_) (Ev.now 1); simp only [aG.j2, h1, decide_false, JA, Option.bind_some, h2]; rw [if_neg (by decide), if_neg (by simp)]
theorem Vi (a b : Int) (l : List S86) : Ev (fun k => aG.f k a b l) (lQ a b l) := by
 have hj : ∀ x, Ev (fun k => aG.j0 k x a b l) (if x = true then 1 else if a > b then 5 else if l.length = 0 then 7 else if l.length > 8 then 6 else jc none l) := by
  intro x; by_cases h1 : x = true
  ·rw [if_pos h1]; refine Ev.step (f := fun _ => some 1) (fun k => ?_) (Ev.now 1); simp only [aG.j0]; rw [if_pos h1]
  rw [if_neg h1]; by_cases h2 : a > b
  ·rw [if_pos h2]; refine Ev.step (f := fun _ => some 5) (fun k => ?_) (Ev.now 5); simp only [aG.j0]; rw [if_neg h1, if_pos h2]
  rw [if_neg h2]; by_cases h3 : l.length = 0
  ·rw [if_pos h3]; refine Ev.step (f := fun _ => some 7) (fun k => ?_) (Ev.now 7); simp only [aG.j0]; rw [if_neg h1, if_neg h2, if_pos (by omega)]
  rw [if_neg h3]; by_cases h4 : l.length > 8
  ·rw [if_pos h4]; refine Ev.step (f := fun _ => some 6) (fun k => ?_) (Ev.now 6); simp only [aG.j0]; rw [if_neg h1, if_neg h2, if_neg (by omega), if_pos (by omega)]
  rw [if_neg h4]; refine Ev.step (f := fun k => aG.l0 k l (l.length : Int) ((0 : Nat) : Int) a b l) (fun k => ?_) ?_
  ·simp only [aG.j0]; rw [if_neg h1, if_neg h2, if_neg (by omega), if_neg (by omega)]; rfl
  ·have := N9 a b l (by omega) l.length 0 (by omega)
   simpa [JX] using this
 refine Ev.congr (f := fun k => aG.j0 k (!(inP a (-3000) 3000 && inP b (-3000) 3000)) a b l) (fun k => ?_) ?_
 ·simp only [aG.f, JA, Option.bind_some]; by_cases h : inP a (-3000) 3000 = true
  ·rw [if_pos h, h, Bool.true_and]
  ·rw [if_neg h]; simp only [Bool.not_eq_true] at h; rw [h, Bool.false_and]
 ·have := hj (!(inP a (-3000) 3000 && inP b (-3000) 3000)); unfold lQ; by_cases h : inP a (-3000) 3000 = true ∧ inP b (-3000) 3000 = true
  ·rw [if_pos h]; rw [h.1, h.2, Bool.and_self, Bool.not_true, if_neg (by decide)] at this; rw [h.1, h.2]; exact this
  ·rw [if_neg h]
   have hx : (inP a (-3000) 3000 && inP b (-3000) 3000) = false := by
    simp only [Bool.and_eq_false_iff]; by_cases h' : inP a (-3000) 3000 = true
    ·exact .inr (by simpa [h'] using h)
    ·exact .inl (by simpa using h')
   rw [hx, Bool.not_false, if_pos rfl] at this; rw [hx]; exact this
def jl : List S66 → Int
 | [] => 0
 | h :: r => if lQ h.f0.f0 h.f0.f1 h.f1 = 0 then jl r else lQ h.f0.f0 h.f0.f1 h.f1
def kH : List S27 → Int
 | [] => 0
 | x :: r => if inP x.f0 0 1023 = true ∧ inP x.f1 0 1023 = true then (if gp x.f1 x.f0 = 0 then kH r else 2) else 1
def jd : List (List S27) → Int
 | [] => 0
 | q :: r => if q.length > 4 then 6 else if kH q = 0 then jd r else kH q
def eT (l0 : List S66) (a1 a2 a3 : Int) (l4 : List (List S27)) : Int :=
 if l0.length = 0 then 7 else if l0.length > 4 then 6 else if jl l0 = 0 then
  (if inP a1 0 10 = true ∧ inP a2 0 10 = true ∧ inP a3 0 40 = true then (if l4.length = 0 then 7 else if l4.length > 8 then 6 else jd l4) else 1)
 else jl l0
theorem Ou (l : List S66) (i : Nat) : ai l (i : Int) = l.getD i z66 := by simp [ai]
theorem aix (l : List S27) (i : Nat) : eG l (i : Int) = l.getD i z27 := by simp [eG]
theorem YM (l : List (List S27)) (i : Nat) : dn l (i : Int) = l.getD i [] := by simp [dn]
theorem za (i n : Nat) (h : i < n) (hn : n ≤ 9223372036854775807) : wrap64 ((i : Int) + 1) = ((i + 1 : Nat) : Int) := by unfold wrap64; omega
theorem Ka (l : List (List S27)) (hl : l.length ≤ 8) : ∀ (d i : Nat), i + d = l.length → Ev (fun k => aJ.l1 k l (l.length : Int) (i : Int)) (jd (l.drop i)) := by
 intro d
 induction d with
 | zero =>
  intro i hi; refine Ev.step (f := fun _ => some 0) (fun k => ?_) ?_
  ·simp only [aJ.l1]; rw [if_neg (by omega)]
  ·rw [List.drop_eq_nil_of_le (by omega)]; exact Ev.now 0
 | succ d ih =>
  intro i hi; rw [lL l [] i (by omega), jd]; obtain ⟨q, hq⟩ : ∃ q, q = l.getD i [] := ⟨_, rfl⟩; rw [← hq]; by_cases h1 : q.length > 4
  ·rw [if_pos h1]; refine Ev.step (f := fun _ => some 6) (fun k => ?_) (Ev.now 6); simp only [aJ.l1]; rw [if_pos (by omega), if_pos (by omega), if_pos (by omega), YM, ← hq, if_pos (by omega)]
  rw [if_neg h1]
  have hin : ∀ (e j : Nat), j + e = q.length → Ev (fun k => aJ.l2 k l (l.length : Int) (i : Int) q (q.length : Int) (j : Int)) (if kH (q.drop j) = 0 then jd (l.drop (i + 1)) else kH (q.drop j)) := by
   intro e
   induction e with
   | zero =>
    intro j hj; refine Ev.step (f := fun k => aJ.l1 k l (l.length : Int) ((i + 1 : Nat) : Int)) (fun k => ?_) ?_
    ·simp only [aJ.l2]; rw [if_neg (by omega), za i 8 (by omega) (by omega)]
    ·rw [List.drop_eq_nil_of_le (show q.length ≤ j by omega), kH, if_pos rfl]; exact ih (i + 1) (by omega)
   | succ e ih2 =>
    intro j hj; rw [lL q z27 j (by omega), kH]; obtain ⟨x, hx⟩ : ∃ x, x = q.getD j z27 := ⟨_, rfl⟩; rw [← hx]; refine Ev.step (f := fun k => aJ.j4 k l (l.length : Int) (i : Int) q (q.length : Int) (j : Int) (!(inP x.f0 0 1023 && inP x.f1 0 1023)) x.f0 x.f1) (fun k => ?_) ?_
    ·simp only [aJ.l2, JA, Option.bind_some]; rw [if_pos (by omega), if_pos (by omega), if_pos (by omega), aix, ← hx]; by_cases h : inP x.f0 0 1023 = true
     ·rw [if_pos h, h, Bool.true_and]
     ·rw [if_neg h]; simp only [Bool.not_eq_true] at h; rw [h, Bool.false_and]
    by_cases h : inP x.f0 0 1023 = true ∧ inP x.f1 0 1023 = true
    ·rw [if_pos h, h.1, h.2, Bool.and_self, Bool.not_true]; by_cases h5 : gp x.f1 x.f0 = 0
     ·rw [if_pos h5]; refine Ev.step (f := fun k => aJ.l2 k l (l.length : Int) (i : Int) q (q.length : Int) ((j + 1 : Nat) : Int)) (fun k => ?_) (ih2 (j + 1) (by omega)); simp only [aJ.j4, fD.f, Option.bind_some]; rw [if_neg (by decide), if_pos (show Go.bits .andNot .i64 x.f1 x.f0 = 0 from h5), za j 8 (by omega) (by omega)]
     ·rw [if_neg h5, if_neg (by decide)]; refine Ev.step (f := fun _ => some 2) (fun k => ?_) (Ev.now 2); simp only [aJ.j4, fD.f, Option.bind_some]; rw [if_neg (by decide), if_neg (show ¬ Go.bits .andNot .i64 x.f1 x.f0 = 0 from h5)]
    ·rw [if_neg h, if_neg (by decide)]
     have hx : (inP x.f0 0 1023 && inP x.f1 0 1023) = false := by
      simp only [Bool.and_eq_false_iff]; by_cases h' : inP x.f0 0 1023 = true
      ·exact .inr (by simpa [h'] using h)
      ·exact .inl (by simpa using h')
     rw [hx, Bool.not_false]; refine Ev.step (f := fun _ => some 1) (fun k => ?_) (Ev.now 1); simp only [aJ.j4]; rw [if_pos trivial]
  refine Ev.step (f := fun k => aJ.l2 k l (l.length : Int) (i : Int) q (q.length : Int) ((0 : Nat) : Int)) (fun k => ?_) ?_
  ·simp only [aJ.l1]; rw [if_pos (by omega), if_pos (by omega), if_pos (by omega), YM, ← hq, if_neg (by omega)]; rfl
  ·have := hin q.length 0 (by omega)
   simpa using this
theorem Iq (l0 : List S66) (a1 a2 a3 : Int) (l4 : List (List S27)) : Ev (fun k => aJ.f k l0 a1 a2 a3 l4) (eT l0 a1 a2 a3 l4) := by
 unfold eT; by_cases h1 : l0.length = 0
 ·rw [if_pos h1]; refine Ev.congr (f := fun _ => some 7) (fun k => ?_) (Ev.now 7); simp only [aJ.f]; rw [if_pos (by omega)]
 rw [if_neg h1]; by_cases h2 : l0.length > 4
 ·rw [if_pos h2]; refine Ev.congr (f := fun _ => some 6) (fun k => ?_) (Ev.now 6); simp only [aJ.f]; rw [if_neg (by omega), if_pos (by omega)]
 rw [if_neg h2]
 have hj : ∀ x, Ev (fun k => aJ.j1 k x l0 a1 a2 a3 l4) (if x = true then 1 else if l4.length = 0 then 7 else if l4.length > 8 then 6 else jd l4) := by
  intro x; by_cases h3 : x = true
  ·rw [if_pos h3]; refine Ev.step (f := fun _ => some 1) (fun k => ?_) (Ev.now 1); simp only [aJ.j1]; rw [if_pos h3]
  rw [if_neg h3]; by_cases h4 : l4.length = 0
  ·rw [if_pos h4]; refine Ev.step (f := fun _ => some 7) (fun k => ?_) (Ev.now 7); simp only [aJ.j1]; rw [if_neg h3, if_pos (by omega)]
  rw [if_neg h4]; by_cases h5 : l4.length > 8
  ·rw [if_pos h5]; refine Ev.step (f := fun _ => some 6) (fun k => ?_) (Ev.now 6); simp only [aJ.j1]; rw [if_neg h3, if_neg (by omega), if_pos (by omega)]
  rw [if_neg h5]; refine Ev.step (f := fun k => aJ.l1 k l4 (l4.length : Int) ((0 : Nat) : Int)) (fun k => ?_) ?_
  ·simp only [aJ.j1]; rw [if_neg h3, if_neg (by omega), if_neg (by omega)]; rfl
  ·have := Ka l4 (by omega) l4.length 0 (by omega)
   simpa using this
 have hl : ∀ (d i : Nat), i + d = l0.length → Ev (fun k => aJ.l0 k l0 (l0.length : Int) (i : Int) l0 a1 a2 a3 l4) (if jl (l0.drop i) = 0 then
  (if inP a1 0 10 = true ∧ inP a2 0 10 = true ∧ inP a3 0 40 = true then (if l4.length = 0 then 7 else if l4.length > 8 then 6 else jd l4) else 1) else jl (l0.drop i)) := by
  intro d
  induction d with
  | zero =>
   intro i hi; rw [List.drop_eq_nil_of_le (by omega), jl, if_pos rfl]; refine Ev.step (f := fun k => aJ.j1 k (!(inP a1 0 10 && (inP a2 0 10 && inP a3 0 40))) l0 a1 a2 a3 l4) (fun k => ?_) ?_
   ·simp only [aJ.l0, JA, Option.bind_some]; rw [if_neg (by omega)]; by_cases h3 : inP a1 0 10 = true
    ·rw [if_pos h3, h3, Bool.true_and]; by_cases h4 : inP a2 0 10 = true
     ·rw [if_pos h4, h4, Bool.true_and]
     ·rw [if_neg h4]; simp only [Bool.not_eq_true] at h4; rw [h4, Bool.false_and]
    ·rw [if_neg h3]; simp only [Bool.not_eq_true] at h3; rw [h3, Bool.false_and]
   ·have := hj (!(inP a1 0 10 && (inP a2 0 10 && inP a3 0 40))); by_cases h : inP a1 0 10 = true ∧ inP a2 0 10 = true ∧ inP a3 0 40 = true
    ·rw [if_pos h]; rw [h.1, h.2.1, h.2.2] at this ⊢; exact this
    ·rw [if_neg h]
     have hx : (inP a1 0 10 && (inP a2 0 10 && inP a3 0 40)) = false := by
      rw [Bool.eq_false_iff]; intro hh; simp only [Bool.and_eq_true] at hh; exact h hh
     rw [hx] at this ⊢; exact this
  | succ d ih =>
   intro i hi; rw [lL l0 z66 i (by omega), jl]; refine Ev.step (f := fun k => (aG.f k (l0.getD i z66).f0.f0 (l0.getD i z66).f0.f1 (l0.getD i z66).f1).bind fun t => if t = 0 then aJ.l0 k l0 (l0.length : Int) ((i + 1 : Nat) : Int) l0 a1 a2 a3 l4 else some t) (fun k => ?_) ?_
   ·simp only [aJ.l0]; rw [if_pos (by omega), if_pos (by omega), if_pos (by omega), Ou, za i 8 (by omega) (by omega)]
   ·refine Ev.bind (Vi _ _ _) ?_; by_cases h3 : lQ (l0.getD i z66).f0.f0 (l0.getD i z66).f0.f1 (l0.getD i z66).f1 = 0
    ·simp only [h3, if_true]; exact ih (i + 1) (by omega)
    ·simp only [h3, if_false]; exact Ev.now _
 have := hl l0.length 0 (by omega); refine Ev.congr (f := fun k => aJ.l0 k l0 (l0.length : Int) ((0 : Nat) : Int) l0 a1 a2 a3 l4) (fun k => ?_) (by simpa using this); simp only [aJ.f]; rw [if_neg (by omega), if_neg (by omega)]; rfl
theorem mo {l0 : List S66} {a1 a2 a3 : Int} {l4 : List (List S27)} (h : eT l0 a1 a2 a3 l4 = 0) : 0 < l0.length ∧ l0.length ≤ 4 ∧ 0 < l4.length ∧ l4.length ≤ 8 ∧ jl l0 = 0 ∧ jd l4 = 0 ∧ inP a1 0 10 = true ∧ inP a2 0 10 = true ∧ inP a3 0 40 = true := by
 unfold eT at h; split at h
 ·exact absurd h (by decide)
 split at h
 ·exact absurd h (by decide)
 split at h
 ·split at h
  ·split at h
   ·exact absurd h (by decide)
   split at h
   ·exact absurd h (by decide)
   ·rename_i h1 h2 h3 h4 h5 h6; exact ⟨by omega, by omega, by omega, by omega, h3, h, h4⟩
  ·exact absurd h (by decide)
 ·rename_i h1 h2 h3; exact absurd h h3
theorem Em {l0 : List S66} (h : jl l0 = 0) : ∀ x ∈ l0, lQ x.f0.f0 x.f0.f1 x.f1 = 0 := by
 induction l0 with
 | nil => intro x hx; cases hx
 | cons y r ih =>
  rw [jl] at h; split at h
  ·rename_i h1; intro x hx; rcases List.mem_cons.1 hx with rfl | hx
   ·exact h1
   ·exact ih h x hx
  ·rename_i h1; exact absurd h h1
theorem AR {a b : Int} {l : List S86} (h : lQ a b l = 0) : inP a (-3000) 3000 = true ∧ inP b (-3000) 3000 = true ∧ a ≤ b ∧ 0 < l.length ∧ l.length ≤ 8 ∧ jc none l = 0 := by
 unfold lQ at h; split at h
 ·rename_i h0; split at h
  ·exact absurd h (by decide)
  split at h
  ·exact absurd h (by decide)
  split at h
  ·exact absurd h (by decide)
  ·rename_i h1 h2 h3; exact ⟨h0.1, h0.2, by omega, by omega, by omega, h⟩
 ·exact absurd h (by decide)
theorem uT {l0 : List S66} (h : jl l0 = 0) : ∀ i : Nat, i < l0.length → (ai l0 (i : Int)).f1.length ≤ 8 := fun i hi => by
 rw [Ou, List.getD_eq_getElem?_getD, List.getElem?_eq_getElem hi]; exact (AR (Em h _ (List.getElem_mem hi))).2.2.2.2.1
theorem Ak (eH : Option Addr) (dU : Nat) (aU : List (S66)) (bg : Int) (bP : Int) (bY : Int) (dW : Option Addr) (dS : Nat) (aX : List (List (S27))) (w : World) (lK : Kd.C k66 w eH aU.length aU) (nu : aU.length ≤ dU) (lH : Kd.C (Kd.slice 27 k27) w dW aX.length aX) (nz : aX.length ≤ dS) :
 Calls Try.prog 40 #[.agg #[.slice eH aU.length dU, .int .i64 bg, .int .i64 bP, .int .i64 bY, .slice dW aX.length dS]] w fun e w' => e = .returned (.int .i64 (eT aU bg bP bY aX)) ∧ Below w.heap.size w w' := by
 obtain ⟨k, hk⟩ := (Iq aU bg bP bY aX).rounds; exact aJ.calls k eH dU aU bg bP bY dW dS aX _ w lK nu lH nz hk
def EvI {α : Type} (g : Nat → Option α) (P : α → Prop) : Prop := ∃ r, Ev g r ∧ P r
theorem EvI.now {α : Type} {P : α → Prop} {r : α} (h : P r) : EvI (fun _ => some r) P := ⟨r, Ev.now r, h⟩
theorem EvI.step {α : Type} {g f : Nat → Option α} {P : α → Prop} (h : ∀ k, g (k + 1) = f k) (k : EvI f P) : EvI g P := by
 obtain ⟨r, hr, hp⟩ := k; exact ⟨r, Ev.step h hr, hp⟩
theorem EvI.bind {α β : Type} {g : Nat → Option α} {f : Nat → α → Option β} {P : α → Prop} {Q : β → Prop} (h : EvI g P) (k : ∀ a, P a → EvI (fun n => f n a) Q) : EvI (fun n => (g n).bind (f n)) Q := by
 obtain ⟨a, ha, hp⟩ := h; obtain ⟨r, hr, hq⟩ := k a hp; exact ⟨r, Ev.bind ha hr, hq⟩
theorem EvI.call {α β : Type} {o : Option α} {f : Nat → α → Option β} {a : α} {Q : β → Prop} (h : o = some a) (k : EvI (fun n => f n a) Q) : EvI (fun n => o.bind (f n)) Q := by
 subst h; exact k
theorem EvI.pos {α : Type} {c : Prop} [Decidable c] {g f : Nat → Option α} {P : α → Prop} (h : c) (k : EvI f P) : EvI (fun n => if c then f n else g n) P := by
 simp only [if_pos h]; exact k
theorem EvI.neg {α : Type} {c : Prop} [Decidable c] {g f : Nat → Option α} {P : α → Prop} (h : ¬ c) (k : EvI g P) : EvI (fun n => if c then f n else g n) P := by
 simp only [if_neg h]; exact k
theorem EvI.ite {α : Type} {c : Prop} [Decidable c] {g f : Nat → Option α} {P : α → Prop} (k1 : c → EvI f P) (k2 : ¬ c → EvI g P) : EvI (fun n => if c then f n else g n) P := by
 by_cases h : c
 ·exact EvI.pos h (k1 h)
 ·exact EvI.neg h (k2 h)
theorem EvI.rounds {α : Type} {g : Nat → Option α} {P : α → Prop} (h : EvI g P) : ∃ r, (∃ k, g k = some r) ∧ P r := by
 obtain ⟨r, hr, hp⟩ := h; exact ⟨r, hr.rounds, hp⟩
theorem eZ {x : Int} (h0 : -9223372036854775808 ≤ x) (h1 : x < 9223372036854775808) : wrap64 x = x := by unfold wrap64; omega
theorem VD (a b : Int) : ∃ r x y, eF.f a b = some (r, x, y) ∧ 0 ≤ r := by
 unfold eF.f; split
 ·exact ⟨_, _, _, rfl, by simp only [IntKind.wrap, IntKind.bits, IntKind.signed, Bool.false_and, Bool.false_eq_true, if_false]; omega⟩
 ·exact ⟨_, _, _, rfl, by simp only [IntKind.wrap, IntKind.bits, IntKind.signed, Bool.false_and, Bool.false_eq_true, if_false]; omega⟩
theorem vo (a b n : Int) (h1 : 1 ≤ n) (h2 : n ≤ 4611686018427387904) : ∃ v x y, bn.f a b n = some (v, x, y) ∧ 0 ≤ v ∧ v < n := by
 unfold bn.f; by_cases h : n < 2
 ·rw [if_pos h]; exact ⟨_, _, _, rfl, by omega, by omega⟩
 ·rw [if_neg h]; obtain ⟨r, x, y, hr, h0⟩ := VD a b; (have hw : IntKind.u64.wrap n = n := by simp only [IntKind.wrap, IntKind.bits, IntKind.signed, Bool.false_and, Bool.false_eq_true, if_false]; omega); rw [hr, Option.bind_some, hw, if_neg (by omega)]; have hm0 : 0 ≤ Int.tmod (r / 2048) n := Int.tmod_nonneg _ (by omega); have hm1 : Int.tmod (r / 2048) n < n := Int.tmod_lt_of_pos _ (by omega); refine ⟨_, _, _, rfl, ?_, ?_⟩
  ·simp only []; rw [eZ (by omega) (by omega)]; exact hm0
  ·simp only []; rw [eZ (by omega) (by omega)]; exact hm1
theorem xP (a b lo hi : Int) (h : lo ≤ hi) (h1 : -1000000 ≤ lo) (h2 : hi ≤ 1000000) : ∃ v x y, cZ.f a b lo hi = some (v, x, y) ∧ lo ≤ v ∧ v ≤ hi := by
 unfold cZ.f; rw [eZ (x := hi - lo) (by omega) (by omega), eZ (x := hi - lo + 1) (by omega) (by omega)]; obtain ⟨v, x, y, hv, h3, h4⟩ := vo a b (hi - lo + 1) (by omega) (by omega); rw [hv, Option.bind_some]; refine ⟨_, _, _, rfl, ?_, ?_⟩ <;> (simp only []; rw [eZ (by omega) (by omega)]; omega)
theorem KI (a b n m : Int) (h1 : 1 ≤ m) (h2 : m ≤ 1000000) : ∃ v x y, dB.f a b n m = some (v, x, y) := by
 unfold dB.f; obtain ⟨v, x, y, hv, h3, h4⟩ := vo a b m h1 (by omega); rw [hv, Option.bind_some]; exact ⟨_, _, _, rfl⟩
theorem EB (a b : Int) (l : List Int) (h1 : l ≠ []) (h2 : l.length ≤ 1000) : ∃ v x y, dR.f a b l = some (v, x, y) ∧ v ∈ l := by
 have hl : 0 < l.length := List.length_pos_iff.2 h1; unfold dR.f; rw [if_neg (by omega)]; obtain ⟨v, x, y, hv, h3, h4⟩ := vo a b (l.length : Int) (by omega) (by omega); rw [hv, Option.bind_some]; simp only []; rw [if_pos h3, if_pos h4]; refine ⟨_, _, _, rfl, ?_⟩; obtain ⟨i, rfl⟩ := Int.eq_ofNat_of_zero_le h3; (have hi : i < l.length := by omega); (have : rd l (i : Int) = l[i] := by simp [rd, List.getD_eq_getElem?_getD, hi]); rw [this]; exact List.getElem_mem _
def Asc (l : List S86) : Prop := (∀ s ∈ l, 65 ≤ s.f0 ∧ s.f0 ≤ 90 ∧ 1 ≤ s.f1 ∧ s.f1 ≤ 31) ∧ l.Pairwise (fun a b => a.f0 < b.f0)
theorem Asc.shapes : ∀ {l : List S86} {p : Option Int}, Asc l → (∀ q, p = some q → ∀ s ∈ l, q < s.f0) → jc p l = 0
 | [], _, _, _ => by simp [jc]
 | s :: r, p, h, hp => by
  obtain ⟨h1, h2⟩ := h; have hs := h1 s List.mem_cons_self; rw [jc, if_neg (by omega), if_pos (ow.2 (by omega)), if_neg]
  ·exact Asc.shapes ⟨fun t ht => h1 t (List.mem_cons_of_mem _ ht), (List.pairwise_cons.1 h2).2⟩ (fun q hq t ht => by cases hq; exact (List.pairwise_cons.1 h2).1 t ht)
  ·rintro ⟨q, hq, hle⟩; have := hp q hq s List.mem_cons_self; omega
def pW (m : Int) (h : S66) : Prop := -600 ≤ h.f0.f0 ∧ h.f0.f0 ≤ h.f0.f1 ∧ h.f0.f1 ≤ 500 ∧ Asc h.f1 ∧ 0 < h.f1.length ∧ (h.f1.length : Int) ≤ m
theorem pW.valid {m : Int} {h : S66} (hg : pW m h) (hm : m ≤ 8) : lQ h.f0.f0 h.f0.f1 h.f1 = 0 := by
 obtain ⟨h1, h2, h3, h4, h5, h6⟩ := hg; rw [lQ, if_pos ⟨ow.2 (by omega), ow.2 (by omega)⟩, if_neg (by omega), if_neg (by omega), if_neg (by omega)]; exact h4.shapes (fun q hq => by cases hq)
theorem Wz : ∀ (d : Nat) (x7 x8 a b lo hi : Int) (l : List S86), 0 ≤ x7 → x7 ≤ 26 → 0 ≤ x8 → x8 = (d : Int) → d ≤ 100 → l.length + d ≤ 200 → Asc l → (∀ s ∈ l, s.f0 < 65 + x7) →
 EvI (fun k => aM.l0 k x7 x8 a b lo hi l) fun r => r.1 = lo ∧ r.2.1 = hi ∧ Asc r.2.2.1 ∧ l.length ≤ r.2.2.1.length ∧ (r.2.2.1.length : Int) ≤ l.length + x8 ∧ (0 < x8 → x7 < 26 → l.length < r.2.2.1.length) := by
 intro d
 induction d with
 | zero =>
  intro x7 x8 a b lo hi l h1 h2 h3 h4 hd hl ha hb; refine EvI.step (f := fun k => aM.j1 k x7 x8 false a b lo hi l) (fun k => by rw [aM.l0, if_neg (by omega)]) ?_; refine EvI.step (f := fun k => some (lo, hi, l, a, b)) (fun k => by rw [aM.j1, if_neg (by simp)]) ?_; refine EvI.now ⟨rfl, rfl, ha, by simp, by simp; omega, fun h => by omega⟩
 | succ d ih =>
  intro x7 x8 a b lo hi l h1 h2 h3 h4 hd hl ha hb; refine EvI.step (f := fun k => aM.j1 k x7 x8 (decide (x7 < 26)) a b lo hi l) (fun k => by rw [aM.l0, if_pos (by omega)]) ?_; by_cases h26 : ¬ x7 < 26
  ·refine EvI.step (f := fun k => some (lo, hi, l, a, b)) (fun k => by rw [aM.j1, if_neg (by simp; omega)]) ?_; refine EvI.now ⟨rfl, rfl, ha, by simp, by simp; omega, fun _ h => by omega⟩
  replace h26 := Decidable.of_not_not h26; obtain ⟨n, x, y, hn, h5, h6⟩ := vo a b (mn 4 (wrap64 (26 - x7))) (by rw [eZ (by omega) (by omega)]; unfold mn; split <;> omega) (by rw [eZ (by omega) (by omega)]; unfold mn; split <;> omega)
  have h7 : n < 26 - x7 := by
   rw [eZ (by omega) (by omega)] at h6; unfold mn at h6; split at h6 <;> omega
  obtain ⟨s, x', y', hs, h8, h9⟩ := xP x y 1 31 (by omega) (by omega) (by omega); have e1 : wrap64 (x7 + n) = x7 + n := eZ (by omega) (by omega); (have e2 : wrap64 (65 + (x7 + n)) % 256 = 65 + x7 + n := by rw [eZ (by omega) (by omega)]; omega); have e3 : wrap64 (x7 + n + 1) = x7 + n + 1 := eZ (by omega) (by omega); have e4 : wrap64 (x8 - 1) = (d : Int) := by rw [eZ (by omega) (by omega)]; omega
  refine EvI.step (f := fun k => aM.l0 k (x7 + n + 1) (d : Int) x' y' lo hi (l ++ [⟨65 + x7 + n, s⟩])) (fun k => by
   rw [aM.j1, if_pos (decide_eq_true h26), hn, Option.bind_some]; simp only []; rw [hs, Option.bind_some]; simp only []
   rw [if_pos (by omega), e1, e2, e3, e4]) ?_
  obtain ⟨r, hr, r1, r2, r3, r4, r5, r6⟩ := ih (x7 + n + 1) (d : Int) x' y' lo hi (l ++ [⟨65 + x7 + n, s⟩]) (by omega) (by omega) (by omega) rfl (by omega) (by simp; omega) (by
   refine ⟨fun t ht => ?_, ?_⟩
   ·rcases List.mem_append.1 ht with ht | ht
    ·exact ha.1 t ht
    ·rw [List.mem_singleton] at ht; subst ht; exact ⟨by simp only []; omega, by simp only []; omega, h8, h9⟩
   ·refine List.pairwise_append.2 ⟨ha.2, by simp, fun t ht u hu => ?_⟩; rw [List.mem_singleton] at hu; subst hu; have := hb t ht; simp only []
    omega) (fun t ht => by
    rcases List.mem_append.1 ht with ht | ht
    ·have := hb t ht; omega
    ·rw [List.mem_singleton] at ht; subst ht; simp only []
     omega)
  simp only [List.length_append, List.length_cons, List.length_nil] at r4 r5; refine ⟨r, hr, r1, r2, r3, by omega, by push_cast at r5; omega, fun _ _ => by omega⟩
theorem Ik (a b m : Int) (h1 : 1 ≤ m) (h2 : m ≤ 100) : EvI (fun k => aM.f k a b m) fun r => pW m ⟨⟨r.1, r.2.1⟩, r.2.2.1⟩ := by
 obtain ⟨lo, x, y, hlo, h3, h4⟩ := xP a b (-600) 300 (by omega) (by omega) (by omega); obtain ⟨u, x', y', hu, h5, h6⟩ := vo x y 200 (by omega) (by omega); obtain ⟨n, x2, y2, hn, h7, h8⟩ := xP x' y' 1 m h1 (by omega) (by omega); have e : wrap64 (lo + u) = lo + u := eZ (by omega) (by omega); obtain ⟨d, rfl⟩ := Int.eq_ofNat_of_zero_le (show 0 ≤ n by omega); obtain ⟨r, hr, r1, r2, r3, r4, r5, r6⟩ := Wz d 0 (d : Int) x2 y2 lo (lo + u) [] (by omega) (by omega) (by omega) rfl (by omega) (by simp; omega) ⟨fun s hs => absurd hs List.not_mem_nil, List.Pairwise.nil⟩ (fun s hs => absurd hs List.not_mem_nil); have r7 := r6 (by omega) (by omega); simp only [List.length_nil] at r5 r7; simp only [aM.f]; refine EvI.call hlo (EvI.call hu (EvI.call hn ?_)); simp only [e]; refine ⟨r, hr, ?_⟩; refine ⟨by simp only []; omega, by simp only []; omega, by simp only []; omega, r3, r7, by simp only []; omega⟩
abbrev Ap := (List S66) × Int × Int × Int × (List (List S27)) × Int × ByteArray × List Int × Int × Int
def qF (x : S27) : Prop := inP x.f0 0 1023 = true ∧ inP x.f1 0 1023 = true ∧ gp x.f1 x.f0 = 0
def qd (a1 a2 a3 : Int) (r : Ap) : Prop :=
 (0 < r.1.length ∧ (r.1.length : Int) ≤ a1 ∧ ∀ h ∈ r.1, pW a2 h) ∧ (0 ≤ r.2.1 ∧ r.2.1 ≤ 2) ∧ (0 ≤ r.2.2.1 ∧ r.2.2.1 ≤ 2) ∧ (0 ≤ r.2.2.2.1 ∧ r.2.2.2.1 ≤ 40) ∧
  0 < r.2.2.2.2.1.length ∧ (r.2.2.2.2.1.length : Int) ≤ a3 ∧ ∀ q ∈ r.2.2.2.2.1, q.length ≤ 4 ∧ ∀ x ∈ q, qF x
theorem wrap_small {n : Nat} (h : n ≤ 1023) : IntKind.i64.wrap (n : Int) = (n : Int) := by
 have e : wrap64 (n : Int) = IntKind.i64.wrap (n : Int) := by
  simp only [IntKind.wrap, IntKind.bits, IntKind.signed, wrap64]; simp; split <;> omega
 rw [← e, eZ (by omega) (by omega)]
theorem Ea (x : BitVec 64) : BitVec.ofInt IntKind.i64.bits ((x.toNat : Nat) : Int) = x := by
 show BitVec.ofInt 64 ((x.toNat : Nat) : Int) = x; rw [BitVec.ofInt_natCast, BitVec.ofNat_toNat, BitVec.setWidth_eq]
theorem EL (v s : Int) (h0 : 0 ≤ s) (h1 : s ≤ 31) : qF ⟨s, Go.bits .and .i64 v s⟩ := by
 obtain ⟨n, rfl⟩ := Int.eq_ofNat_of_zero_le h0
 have hn : (BitVec.ofInt 64 ((n : Nat) : Int)).toNat = n := by
  rw [BitVec.ofInt_natCast, BitVec.toNat_ofNat]; exact Nat.mod_eq_of_lt (by omega)
 have hle : (BitVec.ofInt 64 v &&& BitVec.ofInt 64 ((n : Nat) : Int)).toNat ≤ 31 := by
  rw [BitVec.toNat_and, hn]; have := @Nat.and_le_right (BitVec.ofInt 64 v).toNat n; omega
 have hb : Go.bits .and .i64 v ((n : Nat) : Int) = ((BitVec.ofInt 64 v &&& BitVec.ofInt 64 ((n : Nat) : Int)).toNat : Int) := wrap_small (n := (BitVec.ofInt 64 v &&& BitVec.ofInt 64 ((n : Nat) : Int)).toNat) (by omega)
 have hz : (BitVec.ofInt 64 v &&& BitVec.ofInt 64 ((n : Nat) : Int)) &&& ~~~(BitVec.ofInt 64 ((n : Nat) : Int)) = (0 : BitVec 64) := by
  rw [BitVec.and_assoc]; simp
 refine ⟨ow.2 ⟨by simp only []; omega, by simp only []; omega⟩, ow.2 ⟨?_, ?_⟩, ?_⟩
 ·simp only []; rw [hb]; omega
 ·simp only []; rw [hb]; omega
 ·simp only []; rw [hb]; unfold gp Go.bits; rw [Ea]; exact congrArg (fun x : BitVec 64 => IntKind.i64.wrap (x.toNat : Int)) hz
theorem TL (P : Ap → Prop) (x13 : List S86) (x14 x15 x17 : Int) (hs : List S66) (w c t : Int) (sq : List (List S27)) (cut : Int) (txt : ByteArray) (vis : List Int) (y0 y1 : Int)
 (ht : txt.size ≤ 100000) (hv : vis.length ≤ 100000) (hq : sq.length ≤ 100000)
 (K : ∀ (q : List S27) (a b : Int), q.length ≤ 4 → (∀ x ∈ q, qF x) → EvI (fun k => ah.l1 k x13 x14 (wrap64 (x15 - 1)) a b hs w c t (sq ++ [q]) cut (txt ++ strOfNums [y0]) (vis ++ [x17])) P) :
 ∀ (d : Nat) (q : List S27) (a b : Int), q.length + d ≤ 4 → (∀ x ∈ q, qF x) → EvI (fun k => ah.l3 k x13 x14 x15 x17 q (d : Int) a b hs w c t sq cut txt vis y0 y1) P := by
 intro d
 induction d with
 | zero =>
  intro q a b hl hx; refine EvI.step (f := fun k => ah.l1 k x13 x14 (wrap64 (x15 - 1)) a b hs w c t (sq ++ [q]) cut (txt ++ strOfNums [y0]) (vis ++ [x17])) (fun k => ?_) (K q a b (by omega) hx); rw [ah.l3, if_neg (by omega)]; simp only [Option.bind_some]; have e : (strOfNums [y0]).size = 1 := rfl; rw [if_pos (by omega), if_pos (by simp; omega), if_pos (by simp; omega)]
 | succ d ih =>
  intro q a b hl hx; obtain ⟨u, x, y, hu, h3, h4⟩ := vo a b 32 (by omega) (by omega); obtain ⟨s, x', y', hs', hm⟩ := EB x y [31, 15, u] (by simp) (by simp)
  have hs0 : 0 ≤ s ∧ s ≤ 31 := by
   simp only [List.mem_cons, List.not_mem_nil, or_false] at hm; omega
  (have e1 : wrap64 (((d + 1 : Nat) : Int) - 1) = (d : Int) := by rw [eZ (by omega) (by omega)]; omega); refine EvI.step (f := fun k => ah.l3 k x13 x14 x15 x17 (q ++ [⟨s, Go.bits .and .i64 x17 s⟩]) (d : Int) x' y' hs w c t sq cut txt vis y0 y1) (fun k => ?_) (ih _ _ _ (by simp; omega) ?_)
  ·rw [ah.l3, if_pos (by omega), hu, Option.bind_some]; simp only []; rw [hs', Option.bind_some]; simp only [Option.bind_some]; rw [if_pos (by simp; omega), e1]
  ·intro z hz; rcases List.mem_append.1 hz with hz | hz
   ·exact hx z hz
   ·rw [List.mem_singleton] at hz; subst hz; exact EL _ _ hs0.1 hs0.2
theorem Vt (P : Ap → Prop) (x13 : List S86) (x15 : Int) (hs : List S66) (w c t : Int) (sq : List (List S27)) (cut : Int) (txt : ByteArray) (vis : List Int) (y0 y1 : Int) (m0 : Int) (h0 : 0 ≤ m0) (h1 : m0 ≤ 1000000)
 (K : ∀ (m v a b : Int) (n : Nat), 0 ≤ m → m ≤ m0 + 10 → n ≤ 4 → EvI (fun k => ah.l3 k x13 m x15 v [] (n : Int) a b hs w c t sq cut txt vis y0 y1) P) :
 ∀ (d : Nat) (i m v f g a b : Int), i + d = 5 → 0 ≤ i → 0 ≤ m → m ≤ m0 + 2 * i → EvI (fun k => ah.l2 k x13 m x15 v f g i a b hs w c t sq cut txt vis y0 y1) P := by
 intro d
 induction d with
 | zero =>
  intro i m v f g a b hi hi0 hm hm1; obtain ⟨n, x, y, hn, hmem⟩ := EB a b [0, 1, 1, 2, 3] (by simp) (by simp)
  have hn0 : 0 ≤ n ∧ n ≤ 3 := by
   simp only [List.mem_cons, List.not_mem_nil, or_false] at hmem; omega
  obtain ⟨j, rfl⟩ := Int.eq_ofNat_of_zero_le hn0.1; refine EvI.step (f := fun k => ah.l3 k x13 m x15 v [] (j : Int) x y hs w c t sq cut txt vis y0 y1) (fun k => ?_) (K m v x y j hm (by omega) (by omega)); rw [ah.l2, if_neg (by omega), hn, Option.bind_some]
 | succ d ih =>
  intro i m v f g a b hi hi0 hm hm1
  have J : ∀ (h o : Bool) (a b : Int), EvI (fun k => ah.j3 k x13 m x15 v f g i h o a b hs w c t sq cut txt vis y0 y1) P := by
   intro h o a b; have e1 : wrap64 (i + 1) = i + 1 := eZ (by omega) (by omega); have e2 : wrap64 (m + 1) = m + 1 := eZ (by omega) (by omega); have e3 : wrap64 (m + 1 + 1) = m + 1 + 1 := eZ (by omega) (by omega); obtain ⟨p, x, y, hp⟩ := KI a b 1 3 (by omega) (by omega); (have I0 : ∀ (v f g a b : Int), EvI (fun k => ah.l2 k x13 m x15 v f g (i + 1) a b hs w c t sq cut txt vis y0 y1) P := fun v f g a b => ih (i + 1) m v f g a b (by omega) (by omega) hm (by omega)); (have I1 : ∀ (v f g a b : Int), EvI (fun k => ah.l2 k x13 (m + 1) x15 v f g (i + 1) a b hs w c t sq cut txt vis y0 y1) P := fun v f g a b => ih (i + 1) (m + 1) v f g a b (by omega) (by omega) (by omega) (by omega)); (have I2 : ∀ (v f g a b : Int), EvI (fun k => ah.l2 k x13 (m + 1 + 1) x15 v f g (i + 1) a b hs w c t sq cut txt vis y0 y1) P := fun v f g a b => ih (i + 1) (m + 1 + 1) v f g a b (by omega) (by omega) (by omega) (by omega)); refine EvI.step (fun k => by rw [ah.j3, e1, e2, e3]) ?_; refine EvI.ite (fun _ => EvI.pos hi0 (EvI.ite (fun _ => I1 ..) (fun _ => EvI.ite (fun _ => EvI.call hp (EvI.ite (fun _ => I2 ..) (fun _ => I1 ..))) (fun _ => I1 ..)))) (fun _ => EvI.ite (fun _ => I0 ..) (fun _ => EvI.ite (fun _ => EvI.call hp (EvI.ite (fun _ => EvI.pos hi0 (I1 ..)) (fun _ => I0 ..))) (fun _ => I0 ..)))
  obtain ⟨p, x, y, hp⟩ := KI a b 1 3 (by omega) (by omega); refine EvI.step (fun k => by rw [ah.l2, if_pos (by omega), if_pos hi0]) ?_; exact EvI.ite (fun _ => EvI.ite (fun _ => EvI.call hp (J ..)) (fun _ => J ..)) (fun _ => J ..)
theorem Xc (a1 a2 a3 : Int) (x13 : List S86) (hx : 0 < x13.length) (hx' : x13.length ≤ 1000) (hs : List S66) (w c t : Int) (hh : 0 < hs.length ∧ (hs.length : Int) ≤ a1 ∧ ∀ h ∈ hs, pW a2 h) (hw : 0 ≤ w ∧ w ≤ 2) (hc : 0 ≤ c ∧ c ≤ 2) (cut : Int) :
 ∀ (d : Nat) (m a b : Int) (sq : List (List S27)) (txt : ByteArray) (vis : List Int), d ≤ 1000 → 0 ≤ m → m + 10 * d ≤ 100000 → ((sq.length : Int) + d ≤ a3) → (0 < sq.length + d) → txt.size + d ≤ 100000 → vis.length + d ≤ 100000 → sq.length + d ≤ 100000 → (∀ q ∈ sq, q.length ≤ 4 ∧ ∀ x ∈ q, qF x) →
  EvI (fun k => ah.l1 k x13 m (d : Int) a b hs w c t sq cut txt vis) (qd a1 a2 a3) := by
 intro d
 induction d with
 | zero =>
  intro m a b sq txt vis hd hm hm1 h3 h4 h5 h6 h7 hq; obtain ⟨n, x, y, hn, hmem⟩ := EB a b [0, 0, 1, 2] (by simp) (by simp)
  have hn0 : 0 ≤ n ∧ n ≤ 2 := by
   simp only [List.mem_cons, List.not_mem_nil, or_false] at hmem; omega
  refine EvI.step (f := fun k => some (hs, w, c, mn 40 (wrap64 (m + n)), sq, cut, txt, vis, x, y)) (fun k => ?_) (EvI.now ⟨hh, hw, hc, ?_, by simpa using h4, by simp only []; omega, hq⟩)
  ·rw [ah.l1, if_neg (by omega), hn, Option.bind_some]
  ·simp only []; rw [eZ (by omega) (by omega)]; unfold mn; split <;> omega
 | succ d ih =>
  intro m a b sq txt vis hd hm hm1 h3 h4 h5 h6 h7 hq; obtain ⟨u, x, y, hu, h8, h9⟩ := vo a b (x13.length : Int) (by omega) (by omega); have ew : wrap64 (w + 1) = w + 1 := eZ (by omega) (by omega); have ec : wrap64 (c + 1) = c + 1 := eZ (by omega) (by omega); obtain ⟨f, x1, y1, hf, _, _⟩ := vo x y (w + 1) (by omega) (by omega); obtain ⟨g, x2, y2, hg, _, _⟩ := vo x1 y1 (c + 1) (by omega) (by omega); refine EvI.step (f := fun k => ah.l2 k x13 m ((d + 1 : Nat) : Int) ((ak x13 u).f1) f g 0 x2 y2 hs w c t sq cut txt vis ((ak x13 u).f0) ((ak x13 u).f1)) (fun k => ?_) ?_
  ·rw [ah.l1, if_pos (by omega), hu, Option.bind_some]; simp only []; rw [if_pos h8, if_pos h9, ew, hf, Option.bind_some]; simp only []; rw [ec, hg, Option.bind_some]
  refine Vt _ x13 _ hs w c t sq cut txt vis _ _ m hm (by omega) (fun m' v a b n hm0 hm1 hn => ?_) 5 0 m _ f g x2 y2 (by omega) (by omega) hm (by omega); refine TL _ x13 m' _ v hs w c t sq cut txt vis _ _ (by omega) (by omega) (by omega) (fun q a b hq1 hq2 => ?_) n [] a b (by simpa using hn) (fun x hx => absurd hx List.not_mem_nil); (have e1 : wrap64 (((d + 1 : Nat) : Int) - 1) = (d : Int) := by rw [eZ (by omega) (by omega)]; omega); rw [e1]; refine ih m' a b (sq ++ [q]) _ _ (by omega) hm0 (by omega) (by simp; omega) (by simp; omega) ?_ (by simp; omega) (by simp; omega) ?_
  ·have : (strOfNums [(ak x13 u).f0]).size = 1 := rfl; rw [ByteArray.size_append]; omega
  ·intro z hz; rcases List.mem_append.1 hz with hz | hz
   ·exact hq z hz
   ·rw [List.mem_singleton] at hz; subst hz; exact ⟨hq1, hq2⟩
theorem Ud (a1 a2 a3 : Int) (h2 : 1 ≤ a2) (h2' : a2 ≤ 100) (h3 : 1 ≤ a3) (h3' : a3 ≤ 100) (w c : Int) (hw : 0 ≤ w ∧ w ≤ 2) (hc : 0 ≤ c ∧ c ≤ 2) :
 ∀ (d : Nat) (a b : Int) (hs : List S66), 0 < hs.length + d → (hs.length : Int) + d ≤ a1 → hs.length + d ≤ 1000 → (∀ h ∈ hs, pW a2 h) → EvI (fun k => ah.l0 k a2 a3 (d : Int) a b hs w c 0) (qd a1 a2 a3) := by
 intro d
 induction d with
 | zero =>
  intro a b hs h4 h5 h6 hh; obtain ⟨u, x, y, hu, h8, h9⟩ := vo a b (hs.length : Int) (by omega) (by omega); obtain ⟨n, x1, y1, hn, h10, h11⟩ := xP x y 1 a3 h3 (by omega) (by omega); obtain ⟨j, rfl⟩ := Int.eq_ofNat_of_zero_le (show 0 ≤ n by omega)
  have hg := hh (ai hs u) (by
   obtain ⟨i, rfl⟩ := Int.eq_ofNat_of_zero_le h8; rw [Ou, List.getD_eq_getElem?_getD, List.getElem?_eq_getElem (by omega)]
   exact List.getElem_mem _)
  refine EvI.step (f := fun k => ah.l1 k ((ai hs u).f1) 0 (j : Int) x1 y1 hs w c 0 [] u ⟨#[]⟩ []) (fun k => ?_) ?_
  ·rw [ah.l0, if_neg (by omega), hu, Option.bind_some]; simp only []; rw [if_pos h8, if_pos h9, hn, Option.bind_some]
  ·refine Xc a1 a2 a3 _ hg.2.2.2.2.1 (by have := hg.2.2.2.2.2; omega) hs w c 0 ⟨by omega, by omega, hh⟩ hw hc u j 0 x1 y1 [] _ [] (by omega) (by omega) (by omega) (by simp; omega) (by simp; omega) ?_ (by simp; omega) (by simp; omega) (fun q hq => absurd hq List.not_mem_nil); have : (ByteArray.mk #[]).size = 0 := rfl; omega
 | succ d ih =>
  intro a b hs h4 h5 h6 hh; (have e1 : wrap64 (((d + 1 : Nat) : Int) - 1) = (d : Int) := by rw [eZ (by omega) (by omega)]; omega); refine EvI.step (fun k => by rw [ah.l0, if_pos (by omega), e1]) ?_; refine EvI.bind (Ik a b a2 h2 h2') (fun r hr => ?_); refine EvI.call rfl (EvI.pos ?_ ?_)
  ·simp; omega
  ·refine ih _ _ _ (by simp; omega) (by simp; omega) (by simp; omega) (fun h hm => ?_); rcases List.mem_append.1 hm with hm | hm
   ·exact hh h hm
   ·rw [List.mem_singleton] at hm; subst hm; exact hr
theorem Uj (a b a1 a2 a3 : Int) (h1 : 1 ≤ a1) (h1' : a1 ≤ 100) (h2 : 1 ≤ a2) (h2' : a2 ≤ 100) (h3 : 1 ≤ a3) (h3' : a3 ≤ 100) : EvI (fun k => ah.f k a b a1 a2 a3) (qd a1 a2 a3) := by
 obtain ⟨w, x, y, hw, h4, h5⟩ := vo a b 3 (by omega) (by omega); obtain ⟨c, x1, y1, hc, h6, h7⟩ := vo x y 3 (by omega) (by omega); obtain ⟨n, x2, y2, hn, h8, h9⟩ := xP x1 y1 1 a1 h1 (by omega) (by omega); obtain ⟨j, rfl⟩ := Int.eq_ofNat_of_zero_le (show 0 ≤ n by omega); simp only [ah.f]; refine EvI.call hw (EvI.call hc (EvI.call hn ?_)); exact Ud a1 a2 a3 h2 h2' h3 h3' w c (by omega) (by omega) j x2 y2 [] (by simp; omega) (by simp; omega) (by simp; omega) (fun h hm => absurd hm List.not_mem_nil)
theorem Du {m : Int} (hm : m ≤ 8) : ∀ {l : List S66}, (∀ h ∈ l, pW m h) → jl l = 0
 | [], _ => rfl
 | h :: r, hh => by
  rw [jl, if_pos ((hh h List.mem_cons_self).valid hm)]; exact Du hm fun x hx => hh x (List.mem_cons_of_mem _ hx)
theorem Af : ∀ {l : List S27}, (∀ x ∈ l, qF x) → kH l = 0
 | [], _ => rfl
 | x :: r, hh => by
  have h := hh x List.mem_cons_self; rw [kH, if_pos ⟨h.1, h.2.1⟩, if_pos h.2.2]; exact Af fun x hx => hh x (List.mem_cons_of_mem _ hx)
theorem zi : ∀ {l : List (List S27)}, (∀ q ∈ l, q.length ≤ 4 ∧ ∀ x ∈ q, qF x) → jd l = 0
 | [], _ => rfl
 | q :: r, hh => by
  have h := hh q List.mem_cons_self; rw [jd, if_neg (by omega), if_pos (Af h.2)]; exact zi fun x hx => hh x (List.mem_cons_of_mem _ hx)
theorem qd.check {a1 a2 a3 : Int} {r : Ap} (h : qd a1 a2 a3 r) (h1 : a1 ≤ 4) (h2 : a2 ≤ 8) (h3 : a3 ≤ 8) {t : Int} (h4 : 0 ≤ t) (h5 : t ≤ 40) {sq : List (List S27)} (h6 : sq.length = r.2.2.2.2.1.length) (h7 : ∀ q ∈ sq, q.length ≤ 4 ∧ ∀ x ∈ q, qF x) : eT r.1 r.2.1 r.2.2.1 t sq = 0 := by
 obtain ⟨⟨g1, g2, g3⟩, g4, g5, g6, g7, g8, g9⟩ := h; rw [eT, if_neg (by omega), if_neg (by omega), if_pos (Du h2 g3), if_pos ⟨ow.2 (by omega), ow.2 (by omega), ow.2 (by omega)⟩, if_neg (by omega), if_neg (by omega)]; exact zi h7
set_option maxRecDepth 100000
theorem R5 : ∀ a b : Fin 32, Go.bits .and .i64 (a.1 : Int) (b.1 : Int) = ((a.1 &&& b.1 : Nat) : Int) := by decide +kernel
theorem abM : ∀ a b : Fin 32, Go.bits .or .i64 (a.1 : Int) (b.1 : Int) = ((a.1 ||| b.1 : Nat) : Int) := by decide +kernel
theorem XY : ∀ a b : Fin 32, gp (a.1 : Int) (b.1 : Int) = ((a.1 &&& (31 ^^^ b.1) : Nat) : Int) := by decide +kernel
def pop (a : Nat) : Nat := (a.testBit 0).toNat + (a.testBit 1).toNat + (a.testBit 2).toNat + (a.testBit 3).toNat + (a.testBit 4).toNat
theorem RD : ∀ a : Fin 32, nT (a.1 : Int) = (pop a.1 : Int) := by decide +kernel
def lost (s v : Nat) : Nat := pop (s &&& (31 ^^^ v))
def made (s v : Nat) : Nat := pop (v &&& (31 ^^^ s))
theorem aa8 : ∀ s v h : Fin 32, pop ((s.1 &&& h.1) &&& (31 ^^^ (v.1 &&& h.1))) ≤ lost s.1 v.1 ∧ pop ((v.1 &&& h.1) &&& (31 ^^^ s.1)) ≤ made s.1 v.1 := by decide +kernel
theorem UR : ∀ (s : Fin 32) (i : Fin 5), Go.bits .and .i64 (shr .i64 (s.1 : Int) (i.1 : Int)) 1 = (if s.1.testBit i.1 then 1 else 0) := by decide +kernel
theorem Um : ∀ (i : Fin 5), shl .i64 1 (i.1 : Int) = ((2 ^ i.1 : Nat) : Int) := by decide +kernel
def Agree (s v i : Nat) : Bool := (s ^^^ v) / 2 ^ i == 0
theorem NP : ∀ (s v : Fin 32) (i : Fin 5), Agree s.1 v.1 i.1 = true → s.1.testBit i.1 = true → 2 ^ i.1 ≤ v.1 ∧ Agree s.1 (v.1 - 2 ^ i.1) (i.1 + 1) = true ∧ lost s.1 (v.1 - 2 ^ i.1) = lost s.1 v.1 + 1 ∧ made s.1 (v.1 - 2 ^ i.1) = made s.1 v.1 := by decide +kernel
theorem Nt : ∀ (s v : Fin 32) (i : Fin 5), Agree s.1 v.1 i.1 = true → s.1.testBit i.1 = false → v.1 + 2 ^ i.1 < 32 ∧ Agree s.1 (v.1 + 2 ^ i.1) (i.1 + 1) = true ∧ lost s.1 (v.1 + 2 ^ i.1) = lost s.1 v.1 ∧ made s.1 (v.1 + 2 ^ i.1) = made s.1 v.1 + 1 := by decide +kernel
theorem Ov : ∀ (s v : Fin 32) (i : Fin 5), Agree s.1 v.1 i.1 = true → Agree s.1 v.1 (i.1 + 1) = true := by decide +kernel
theorem JZ : ∀ s : Fin 32, Agree s.1 s.1 0 = true ∧ lost s.1 s.1 = 0 ∧ made s.1 s.1 = 0 := by decide +kernel
theorem Yv : ∀ a b : Fin 32, a.1 ||| b.1 < 32 := by decide +kernel
theorem air : ∀ a b c : Fin 32, a.1 &&& b.1 = a.1 → a.1 &&& (b.1 ||| c.1) = a.1 := by decide +kernel
theorem aeY : ∀ a b : Fin 32, a.1 &&& (b.1 ||| a.1) = a.1 := by decide +kernel
theorem aik : ∀ v a b : Fin 32, (v.1 &&& a.1) ||| (v.1 &&& b.1) = v.1 &&& (a.1 ||| b.1) := by decide +kernel
theorem agV : ∀ v h x : Fin 32, x.1 &&& h.1 = x.1 → (v.1 &&& h.1) &&& x.1 = v.1 &&& x.1 := by decide +kernel
theorem Qn : ∀ a : Fin 32, pop a.1 ≤ 5 := by decide +kernel
def DU (v : Nat) (x : S27) : Prop := ∃ a : Nat, a < 32 ∧ x = ⟨(a : Int), ((v &&& a : Nat) : Int)⟩
theorem DU.ok {v : Nat} (hv : v < 32) {x : S27} (h : DU v x) : qF x := by
 obtain ⟨a, ha, rfl⟩ := h; have := EL (v : Int) (a : Int) (by omega) (by omega); rw [R5 ⟨v, hv⟩ ⟨a, ha⟩] at this; exact this
def fG (sh : List S86) (k : Nat) : Nat := (sh.getD k z86).f1.toNat
def PY (W S : Int) (sh : List S86) (q : List S27) (m c : Int) : Prop :=
 ∃ k v : Nat, k < sh.length ∧ v < 32 ∧ (∀ x ∈ q, DU v x) ∧ (lost (fG sh k) v : Int) ≤ W ∧ (made (fG sh k) v : Int) ≤ S ∧ ((lost (fG sh k) v : Int) + (made (fG sh k) v : Int)) ≤ m ∧ (sh.getD k z86).f0 = c
def yx (W S : Int) (sh : List S86) (sq : List (List S27)) (ms cs : List Int) : Prop := ms.length = sq.length ∧ cs.length = sq.length ∧ ∀ i (h : i < sq.length), PY W S sh sq[i] (ms.getD i 0) (cs.getD i 0)
theorem yx.snoc {W S : Int} {sh : List S86} {sq : List (List S27)} {ms cs : List Int} (h : yx W S sh sq ms cs) {q : List S27} {m c : Int} (hq : PY W S sh q m c) : yx W S sh (sq ++ [q]) (ms ++ [m]) (cs ++ [c]) := by
 obtain ⟨h1, h0, h2⟩ := h; refine ⟨by simp [h1], by simp [h0], fun i hi => ?_⟩; by_cases hi' : i < sq.length
 ·have e1 : (sq ++ [q])[i] = sq[i] := List.getElem_append_left hi'; (have e2 : (ms ++ [m]).getD i 0 = ms.getD i 0 := by simp [List.getD_eq_getElem?_getD, List.getElem?_append_left (show i < ms.length by omega)]); (have e3 : (cs ++ [c]).getD i 0 = cs.getD i 0 := by simp [List.getD_eq_getElem?_getD, List.getElem?_append_left (show i < cs.length by omega)]); rw [e1, e2, e3]; exact h2 i hi'
 ·(have e : i = sq.length := by simp at hi; omega); subst e; (have e1 : (sq ++ [q])[sq.length] = q := by simp); (have e2 : (ms ++ [m]).getD sq.length 0 = m := by rw [← h1]; simp [List.getD_eq_getElem?_getD]); (have e3 : (cs ++ [c]).getD sq.length 0 = c := by rw [← h0]; simp [List.getD_eq_getElem?_getD]); rw [e1, e2, e3]; exact hq
def I5 (sq : List (List S27)) (vis : List Int) : Prop := vis.length = sq.length ∧ ∀ i (h : i < sq.length), ∃ v : Nat, v < 32 ∧ vis.getD i 0 = (v : Int) ∧ ∀ x ∈ sq[i], DU v x
theorem I5.snoc {sq : List (List S27)} {vis : List Int} (h : I5 sq vis) {q : List S27} {v : Nat} (hv : v < 32) (hq : ∀ x ∈ q, DU v x) : I5 (sq ++ [q]) (vis ++ [(v : Int)]) := by
 obtain ⟨h1, h2⟩ := h; refine ⟨by simp [h1], fun i hi => ?_⟩; by_cases hi' : i < sq.length
 ·have e1 : (sq ++ [q])[i] = sq[i] := List.getElem_append_left hi'; (have e2 : (vis ++ [(v : Int)]).getD i 0 = vis.getD i 0 := by simp [List.getD_eq_getElem?_getD, List.getElem?_append_left (show i < vis.length by omega)]); rw [e1, e2]; exact h2 i hi'
 ·(have e : i = sq.length := by simp at hi; omega); subst e; (have e1 : (sq ++ [q])[sq.length] = q := by simp); (have e2 : (vis ++ [(v : Int)]).getD sq.length 0 = v := by rw [← h1]; simp [List.getD_eq_getElem?_getD]); rw [e1]; exact ⟨v, hv, e2, hq⟩
def LZ (r : Ap) : Prop := 0 ≤ r.2.2.2.2.2.1 ∧ r.2.2.2.2.2.1 < (r.1.length : Int) ∧ ∃ ms cs : List Int, yx r.2.1 r.2.2.1 (ai r.1 r.2.2.2.2.2.1).f1 r.2.2.2.2.1 ms cs ∧ ms.sum ≤ r.2.2.2.1 ∧ r.2.2.2.2.2.2.1 = strOfNums cs ∧ I5 r.2.2.2.2.1 r.2.2.2.2.2.2.2.1
theorem Df (l : List Int) (y : Int) : strOfNums (l ++ [y]) = strOfNums l ++ strOfNums [y] := ByteArray.ext (by rw [ByteArray.data_append]; simp [strOfNums])
theorem U8 (P : Ap → Prop) (x13 : List S86) (x14 x15 : Int) (v : Nat) (hv32 : v < 32) (hs : List S66) (w c t : Int) (sq : List (List S27)) (cut : Int) (txt : ByteArray) (vis : List Int) (y0 y1 : Int)
 (ht : txt.size ≤ 100000) (hv : vis.length ≤ 100000) (hq : sq.length ≤ 100000)
 (K : ∀ (q : List S27) (a b : Int), q.length ≤ 4 → (∀ x ∈ q, DU v x) → EvI (fun k => ah.l1 k x13 x14 (wrap64 (x15 - 1)) a b hs w c t (sq ++ [q]) cut (txt ++ strOfNums [y0]) (vis ++ [(v : Int)])) P) :
 ∀ (d : Nat) (q : List S27) (a b : Int), q.length + d ≤ 4 → (∀ x ∈ q, DU v x) → EvI (fun k => ah.l3 k x13 x14 x15 (v : Int) q (d : Int) a b hs w c t sq cut txt vis y0 y1) P := by
 intro d
 induction d with
 | zero =>
  intro q a b hl hx; refine EvI.step (f := fun k => ah.l1 k x13 x14 (wrap64 (x15 - 1)) a b hs w c t (sq ++ [q]) cut (txt ++ strOfNums [y0]) (vis ++ [(v : Int)])) (fun k => ?_) (K q a b (by omega) hx); rw [ah.l3, if_neg (by omega)]; simp only [Option.bind_some]; have e : (strOfNums [y0]).size = 1 := rfl; rw [if_pos (by omega), if_pos (by simp; omega), if_pos (by simp; omega)]
 | succ d ih =>
  intro q a b hl hx; obtain ⟨u, x, y, hu, h3, h4⟩ := vo a b 32 (by omega) (by omega); obtain ⟨s, x', y', hs', hm⟩ := EB x y [31, 15, u] (by simp) (by simp)
  have hs0 : 0 ≤ s ∧ s ≤ 31 := by
   simp only [List.mem_cons, List.not_mem_nil, or_false] at hm; omega
  obtain ⟨n, rfl⟩ := Int.eq_ofNat_of_zero_le hs0.1; (have e1 : wrap64 (((d + 1 : Nat) : Int) - 1) = (d : Int) := by rw [eZ (by omega) (by omega)]; omega); refine EvI.step (f := fun k => ah.l3 k x13 x14 x15 (v : Int) (q ++ [⟨(n : Int), Go.bits .and .i64 (v : Int) (n : Int)⟩]) (d : Int) x' y' hs w c t sq cut txt vis y0 y1) (fun k => ?_) (ih _ _ _ (by simp; omega) ?_)
  ·rw [ah.l3, if_pos (by omega), hu, Option.bind_some]; simp only []; rw [hs', Option.bind_some]; simp only [Option.bind_some]; rw [if_pos (by simp; omega), e1]
  ·intro z hz; rcases List.mem_append.1 hz with hz | hz
   ·exact hx z hz
   ·rw [List.mem_singleton] at hz; subst hz; exact ⟨n, by omega, by rw [R5 ⟨v, hv32⟩ ⟨n, by omega⟩]⟩
theorem Tq (P : Ap → Prop) (x13 : List S86) (x15 : Int) (hs : List S66) (w c t : Int) (sq : List (List S27)) (cut : Int) (txt : ByteArray) (vis : List Int) (y0 : Int) (s : Nat) (hs32 : s < 32) (m0 w0 c0 : Int) (h0 : 0 ≤ m0) (h1 : m0 ≤ 1000000) (hw0 : w0 ≤ 100) (hc0 : c0 ≤ 100)
 (K : ∀ (v : Nat) (a b : Int) (n : Nat), v < 32 → (lost s v : Int) ≤ w0 → (made s v : Int) ≤ c0 → n ≤ 4 → EvI (fun k => ah.l3 k x13 (m0 + (lost s v : Int) + (made s v : Int)) x15 (v : Int) [] (n : Int) a b hs w c t sq cut txt vis y0 (s : Int)) P) :
 ∀ (d i v : Nat) (a b : Int), i + d = 5 → v < 32 → Agree s v i = true → (lost s v : Int) ≤ w0 → (made s v : Int) ≤ c0 →
  EvI (fun k => ah.l2 k x13 (m0 + (lost s v : Int) + (made s v : Int)) x15 (v : Int) (w0 - (lost s v : Int)) (c0 - (made s v : Int)) (i : Int) a b hs w c t sq cut txt vis y0 (s : Int)) P := by
 intro d
 induction d with
 | zero =>
  intro i v a b hi hv ha hl hm; obtain ⟨n, x, y, hn, hmem⟩ := EB a b [0, 1, 1, 2, 3] (by simp) (by simp)
  have hn0 : 0 ≤ n ∧ n ≤ 3 := by
   simp only [List.mem_cons, List.not_mem_nil, or_false] at hmem; omega
  obtain ⟨j, rfl⟩ := Int.eq_ofNat_of_zero_le hn0.1; refine EvI.step (f := fun k => ah.l3 k x13 (m0 + (lost s v : Int) + (made s v : Int)) x15 (v : Int) [] (j : Int) x y hs w c t sq cut txt vis y0 (s : Int)) (fun k => ?_) (K v x y j hv hl hm (by omega)); rw [ah.l2, if_neg (by omega), hn, Option.bind_some]
 | succ d ih =>
  intro i v a b hi hv ha hl hm; (have hi5 : i < 5 := by omega); (have e1 : wrap64 ((i : Int) + 1) = ((i + 1 : Nat) : Int) := by rw [eZ (by omega) (by omega)]; omega); have esh := Um ⟨i, hi5⟩; have ehas := UR ⟨s, hs32⟩ ⟨i, hi5⟩; simp only [] at esh ehas; have same := Ov ⟨s, hs32⟩ ⟨v, hv⟩ ⟨i, hi5⟩ ha; obtain ⟨p, x, y, hp⟩ := KI a b 1 3 (by omega) (by omega); have I0 : ∀ (a b : Int), EvI (fun k => ah.l2 k x13 (m0 + (lost s v : Int) + (made s v : Int)) x15 (v : Int) (w0 - (lost s v : Int)) (c0 - (made s v : Int)) ((i + 1 : Nat) : Int) a b hs w c t sq cut txt vis y0 (s : Int)) P := fun a b => ih (i + 1) v a b (by omega) hv same hl hm
  cases hb : s.testBit i with
  | true =>
   rw [hb, if_pos rfl] at ehas; obtain ⟨g1, g2, g3, g4⟩ := NP ⟨s, hs32⟩ ⟨v, hv⟩ ⟨i, hi5⟩ ha hb; simp only [] at g1 g2 g3 g4; generalize hz : 2 ^ i = z at g1 g2 g3 g4 esh; have hz1 : 1 ≤ z := by rw [← hz]; exact Nat.one_le_two_pow
   have JF : ∀ (a b : Int), EvI (fun k => ah.j3 k x13 (m0 + (lost s v : Int) + (made s v : Int)) x15 (v : Int) (w0 - (lost s v : Int)) (c0 - (made s v : Int)) (i : Int) true false a b hs w c t sq cut txt vis y0 (s : Int)) P := fun a b => by
    refine EvI.step (fun k => ?_) (I0 a b); rw [ah.j3, if_neg (by simp), if_pos rfl, e1]
   have JT : (lost s v : Int) < w0 → ∀ (a b : Int), EvI (fun k => ah.j3 k x13 (m0 + (lost s v : Int) + (made s v : Int)) x15 (v : Int) (w0 - (lost s v : Int)) (c0 - (made s v : Int)) (i : Int) true true a b hs w c t sq cut txt vis y0 (s : Int)) P := fun hlt a b => by
    have q := ih (i + 1) (v - z) a b (by omega) (by omega) g2 (by rw [g3]; push_cast; omega) (by rw [g4]; exact hm); (have e2 : wrap64 (m0 + (lost s v : Int) + (made s v : Int) + 1) = m0 + (lost s (v - z) : Int) + (made s (v - z) : Int) := by rw [eZ (by omega) (by omega), g3, g4]; push_cast; omega); (have e3 : wrap64 ((v : Int) - (z : Int)) = ((v - z : Nat) : Int) := by rw [eZ (by omega) (by omega)]; omega); (have e4 : wrap64 (w0 - (lost s v : Int) - 1) = w0 - (lost s (v - z) : Int) := by rw [eZ (by omega) (by omega), g3]; push_cast; omega); refine EvI.step (fun k => ?_) q; rw [ah.j3, if_pos rfl, if_pos (by omega), if_pos rfl, e1, e2, esh, e3, e4, g4]
   by_cases hf : w0 - (lost s v : Int) > 0
   ·cases p with
    | false =>
     refine EvI.step (fun k => ?_) (JF x y); rw [ah.l2, if_pos (by omega), if_pos (by omega), if_pos ehas, if_pos hf, hp, Option.bind_some, ehas]; rfl
    | true =>
     refine EvI.step (fun k => ?_) (JT (by omega) x y); rw [ah.l2, if_pos (by omega), if_pos (by omega), if_pos ehas, if_pos hf, hp, Option.bind_some, ehas]; rfl
   ·refine EvI.step (fun k => ?_) (JF a b); rw [ah.l2, if_pos (by omega), if_pos (by omega), if_pos ehas, if_neg hf, ehas]; rfl
  | false =>
   rw [hb, if_neg (by simp)] at ehas; obtain ⟨g1, g2, g3, g4⟩ := Nt ⟨s, hs32⟩ ⟨v, hv⟩ ⟨i, hi5⟩ ha hb; simp only [] at g1 g2 g3 g4; generalize hz : 2 ^ i = z at g1 g2 g3 g4 esh; have hz1 : 1 ≤ z := by rw [← hz]; exact Nat.one_le_two_pow
   have J : EvI (fun k => ah.j3 k x13 (m0 + (lost s v : Int) + (made s v : Int)) x15 (v : Int) (w0 - (lost s v : Int)) (c0 - (made s v : Int)) (i : Int) false false a b hs w c t sq cut txt vis y0 (s : Int)) P := by
    by_cases hg : c0 - (made s v : Int) > 0
    ·cases p with
     | false =>
      refine EvI.step (fun k => ?_) (I0 x y); rw [ah.j3, if_neg (by simp), if_neg (by simp), if_pos hg, hp, Option.bind_some, if_neg (by simp), e1]
     | true =>
      have q := ih (i + 1) (v + z) x y (by omega) g1 g2 (by rw [g3]; exact hl) (by rw [g4]; push_cast; omega); (have e2 : wrap64 (m0 + (lost s v : Int) + (made s v : Int) + 1) = m0 + (lost s (v + z) : Int) + (made s (v + z) : Int) := by rw [eZ (by omega) (by omega), g3, g4]; push_cast; omega); (have e3 : wrap64 ((v : Int) + (z : Int)) = ((v + z : Nat) : Int) := by rw [eZ (by omega) (by omega)]; omega); (have e4 : wrap64 (c0 - (made s v : Int) - 1) = c0 - (made s (v + z) : Int) := by rw [eZ (by omega) (by omega), g4]; push_cast; omega); refine EvI.step (fun k => ?_) q; rw [ah.j3, if_neg (by simp), if_neg (by simp), if_pos hg, hp, Option.bind_some, if_pos rfl, if_pos (by omega), e1, e2, esh, e3, e4, g3]
    ·refine EvI.step (fun k => ?_) (I0 a b); rw [ah.j3, if_neg (by simp), if_neg (by simp), if_neg hg, e1]
   refine EvI.step (fun k => ?_) J; rw [ah.l2, if_pos (by omega), if_pos (by omega), if_neg (by rw [ehas]; decide), ehas]; rfl
theorem Ph (ms : List Int) (m : Int) : (ms ++ [m]).sum = ms.sum + m := by simp [List.sum_append]
theorem UA (a1 a2 a3 : Int) (sh : List S86) (hx : 0 < sh.length) (hx' : sh.length ≤ 1000) (hasc : Asc sh) (hs : List S66) (w c t : Int) (hh : 0 < hs.length ∧ (hs.length : Int) ≤ a1 ∧ ∀ h ∈ hs, pW a2 h) (hw : 0 ≤ w ∧ w ≤ 2) (hc : 0 ≤ c ∧ c ≤ 2) (cut : Int) (hcut0 : 0 ≤ cut) (hcut1 : cut < (hs.length : Int)) (hsh : (ai hs cut).f1 = sh) (h8 : a3 ≤ 8) :
 ∀ (d : Nat) (m a b : Int) (sq : List (List S27)) (txt : ByteArray) (vis : List Int) (ms cs : List Int), 0 ≤ m → ms.sum ≤ m → m ≤ 4 * sq.length → ((sq.length : Int) + d ≤ a3) → (0 < sq.length + d) → txt.size + d ≤ 1000 → vis.length + d ≤ 1000 → (∀ q ∈ sq, q.length ≤ 4 ∧ ∀ x ∈ q, qF x) → yx w c sh sq ms cs → txt = strOfNums cs → I5 sq vis →
  EvI (fun k => ah.l1 k sh m (d : Int) a b hs w c t sq cut txt vis) (fun r => qd a1 a2 a3 r ∧ LZ r) := by
 intro d
 induction d with
 | zero =>
  intro m a b sq txt vis ms cs hm hms hm1 h3 h4 h5 h6 hq hT htx hvs; obtain ⟨n, x, y, hn, hmem⟩ := EB a b [0, 0, 1, 2] (by simp) (by simp)
  have hn0 : 0 ≤ n ∧ n ≤ 2 := by
   simp only [List.mem_cons, List.not_mem_nil, or_false] at hmem; omega
  (have et : mn 40 (wrap64 (m + n)) = mn 40 (m + n) := by rw [eZ (by omega) (by omega)]); refine EvI.step (f := fun k => some (hs, w, c, mn 40 (m + n), sq, cut, txt, vis, x, y)) (fun k => ?_) (EvI.now ⟨⟨hh, hw, hc, ?_, by simpa using h4, by simp only []; omega, hq⟩, hcut0, hcut1, ms, cs, ?_, ?_, htx, hvs⟩)
  ·rw [ah.l1, if_neg (by omega), hn, Option.bind_some, et]
  ·simp only []; unfold mn; split <;> omega
  ·simp only []; rw [hsh]; exact hT
  ·simp only []; unfold mn; split <;> omega
 | succ d ih =>
  intro m a b sq txt vis ms cs hm hms hm1 h3 h4 h5 h6 hq hT htx hvs; obtain ⟨u, x, y, hu, h9, h10⟩ := vo a b (sh.length : Int) (by omega) (by omega); have ew : wrap64 (w + 1) = w + 1 := eZ (by omega) (by omega); have ec : wrap64 (c + 1) = c + 1 := eZ (by omega) (by omega); obtain ⟨f, x1, y1, hf, hf0, hf1⟩ := vo x y (w + 1) (by omega) (by omega); obtain ⟨g, x2, y2, hg, hg0, hg1⟩ := vo x1 y1 (c + 1) (by omega) (by omega); obtain ⟨i, rfl⟩ := Int.eq_ofNat_of_zero_le h9; have hi : i < sh.length := by omega
  have hmem : sh.getD i z86 ∈ sh := by
   rw [List.getD_eq_getElem?_getD, List.getElem?_eq_getElem hi]; exact List.getElem_mem _
  have hst := hasc.1 _ hmem; (have hs32 : fG sh i < 32 := by unfold fG; omega); (have es : (sh.getD i z86).f1 = (fG sh i : Int) := by unfold fG; omega); have hself := JZ ⟨fG sh i, hs32⟩; simp only [] at hself; refine EvI.step (f := fun k => ah.l2 k sh (m + (lost (fG sh i) (fG sh i) : Int) + (made (fG sh i) (fG sh i) : Int)) ((d + 1 : Nat) : Int) (fG sh i : Int) (f - (lost (fG sh i) (fG sh i) : Int)) (g - (made (fG sh i) (fG sh i) : Int)) ((0 : Nat) : Int) x2 y2 hs w c t sq cut txt vis ((sh.getD i z86).f0) (fG sh i : Int)) (fun k => ?_) ?_
  ·rw [ah.l1, if_pos (by omega), hu, Option.bind_some]; simp only []; rw [if_pos h9, if_pos h10, ew, hf, Option.bind_some]; simp only []; rw [ec, hg, Option.bind_some, Ko, es, hself.2.1, hself.2.2]; simp
  refine Tq _ sh _ hs w c t sq cut txt vis _ (fG sh i) hs32 m f g hm (by omega) (by omega) (by omega) (fun v a b n hv hl hm' hn => ?_) 5 0 (fG sh i) x2 y2 (by omega) hs32 hself.1 (by rw [hself.2.1]; exact hf0) (by rw [hself.2.2]; exact hg0); refine U8 _ sh _ _ v hv hs w c t sq cut txt vis _ _ (by omega) (by omega) (by omega) (fun q a b hq1 hq2 => ?_) n [] a b (by simpa using hn) (fun x hx => absurd hx List.not_mem_nil); (have e1 : wrap64 (((d + 1 : Nat) : Int) - 1) = (d : Int) := by rw [eZ (by omega) (by omega)]; omega); rw [e1]; refine ih _ a b (sq ++ [q]) _ _ (ms ++ [(lost (fG sh i) v : Int) + (made (fG sh i) v : Int)]) (cs ++ [(sh.getD i z86).f0]) (by omega) (by rw [Ph]; omega) (by simp; omega) (by simp; omega) (by simp; omega) ?_ (by simp; omega) ?_ (hT.snoc ⟨i, v, hi, hv, hq2, by omega, by omega, Int.le_refl _, rfl⟩) (by rw [htx, Df]) (hvs.snoc hv hq2)
  ·have : (strOfNums [(sh.getD i z86).f0]).size = 1 := rfl; rw [ByteArray.size_append]; omega
  ·intro z hz; rcases List.mem_append.1 hz with hz | hz
   ·exact hq z hz
   ·rw [List.mem_singleton] at hz; subst hz; exact ⟨hq1, fun x hx => (hq2 x hx).ok hv⟩
theorem WJ (a1 a2 a3 : Int) (h2 : 1 ≤ a2) (h2' : a2 ≤ 100) (h3 : 1 ≤ a3) (h3' : a3 ≤ 8) (w c : Int) (hw : 0 ≤ w ∧ w ≤ 2) (hc : 0 ≤ c ∧ c ≤ 2) :
 ∀ (d : Nat) (a b : Int) (hs : List S66), 0 < hs.length + d → (hs.length : Int) + d ≤ a1 → hs.length + d ≤ 1000 → (∀ h ∈ hs, pW a2 h) → EvI (fun k => ah.l0 k a2 a3 (d : Int) a b hs w c 0) (fun r => qd a1 a2 a3 r ∧ LZ r) := by
 intro d
 induction d with
 | zero =>
  intro a b hs h4 h5 h6 hh; obtain ⟨u, x, y, hu, h8, h9⟩ := vo a b (hs.length : Int) (by omega) (by omega); obtain ⟨n, x1, y1, hn, h10, h11⟩ := xP x y 1 a3 h3 (by omega) (by omega); obtain ⟨j, rfl⟩ := Int.eq_ofNat_of_zero_le (show 0 ≤ n by omega)
  have hg := hh (ai hs u) (by
   obtain ⟨i, rfl⟩ := Int.eq_ofNat_of_zero_le h8; rw [Ou, List.getD_eq_getElem?_getD, List.getElem?_eq_getElem (by omega)]
   exact List.getElem_mem _)
  refine EvI.step (f := fun k => ah.l1 k ((ai hs u).f1) 0 (j : Int) x1 y1 hs w c 0 [] u ⟨#[]⟩ []) (fun k => ?_) ?_
  ·rw [ah.l0, if_neg (by omega), hu, Option.bind_some]; simp only []; rw [if_pos h8, if_pos h9, hn, Option.bind_some]
  ·refine UA a1 a2 a3 _ hg.2.2.2.2.1 (by have := hg.2.2.2.2.2; omega) hg.2.2.2.1 hs w c 0 ⟨by omega, by omega, hh⟩ hw hc u h8 h9 rfl h3' j 0 x1 y1 [] _ [] [] [] (by omega) (by simp) (by simp) (by simp; omega) (by simp; omega) ?_ (by simp; omega) (fun q hq => absurd hq List.not_mem_nil) ⟨rfl, rfl, fun i hi => absurd hi (by simp)⟩ rfl ⟨rfl, fun i hi => absurd hi (by simp)⟩; have : (ByteArray.mk #[]).size = 0 := rfl; omega
 | succ d ih =>
  intro a b hs h4 h5 h6 hh; (have e1 : wrap64 (((d + 1 : Nat) : Int) - 1) = (d : Int) := by rw [eZ (by omega) (by omega)]; omega); refine EvI.step (fun k => by rw [ah.l0, if_pos (by omega), e1]) ?_; refine EvI.bind (Ik a b a2 h2 h2') (fun r hr => ?_); refine EvI.call rfl (EvI.pos ?_ ?_)
  ·simp; omega
  ·refine ih _ _ _ (by simp; omega) (by simp; omega) (by simp; omega) (fun h hm => ?_); rcases List.mem_append.1 hm with hm | hm
   ·exact hh h hm
   ·rw [List.mem_singleton] at hm; subst hm; exact hr
theorem afh (a b a1 a2 a3 : Int) (h1 : 1 ≤ a1) (h1' : a1 ≤ 100) (h2 : 1 ≤ a2) (h2' : a2 ≤ 100) (h3 : 1 ≤ a3) (h3' : a3 ≤ 8) : EvI (fun k => ah.f k a b a1 a2 a3) (fun r => qd a1 a2 a3 r ∧ LZ r) := by
 obtain ⟨w, x, y, hw, h4, h5⟩ := vo a b 3 (by omega) (by omega); obtain ⟨c, x1, y1, hc, h6, h7⟩ := vo x y 3 (by omega) (by omega); obtain ⟨n, x2, y2, hn, h8, h9⟩ := xP x1 y1 1 a1 h1 (by omega) (by omega); obtain ⟨j, rfl⟩ := Int.eq_ofNat_of_zero_le (show 0 ≤ n by omega); simp only [ah.f]; refine EvI.call hw (EvI.call hc (EvI.call hn ?_)); exact WJ a1 a2 a3 h2 h2' h3 h3' w c (by omega) (by omega) j x2 y2 [] (by simp; omega) (by simp; omega) (by simp; omega) (fun h hm => absurd hm List.not_mem_nil)
end Go.Proofs.Ytihedeofkhapiaa.Pr
end
section
namespace Go.Proofs.Ytihedeofkhapiaa.Pr
open Go.RowKit Go.Proofs.YtihedeofkhapiaaW.PrintWords Go.Proofs.YtihedeofkhapiaaW.PrintLast Go.Proofs.YtihedeofkhapiaaW.PrintMore
attribute [local go_sem] nC nA pO oV nP nM pY qa
def bM.l0 : Nat → Int → List Int → Int → Int → Option (Int)
 | 0, _, _, _, _ => none
 | k + 1, x0, x7, x8, x9 => if x9 < x8 then (if 0 ≤ x9 then (if x9 < (x7.length : Int) then (bM.l0 k (mn x0 (rd x7 x9)) x7 x8 (wrap64 (x9 + 1))) else (none)) else (none)) else (some x0)
def bM.f (k : Nat) (a0 : Int) (l1 : List Int) : Option (Int) := bM.l0 k a0 l1 (l1.length : Int) 0
theorem bM.gq : ∀ k, (∀ y0 y1 y2 y3, LeO (bM.l0 k y0 y1 y2 y3) (bM.l0 (k + 1) y0 y1 y2 y3))
 | 0 => fun _ _ _ _ r h => by simp [bM.l0] at h
 | k + 1 => by
  have ih0 := bM.gq k
  ·intro y0 y1 y2 y3; unfold bM.l0
   repeat' first | (with_reducible exact ih0 _ _ _ _) | (with_reducible exact LeO.refl _) | (with_reducible refine LeO.ite ?_ ?_)
theorem bM.mono : ∀ a0 a1 k, LeO (bM.f k a0 a1) (bM.f (k + 1) a0 a1) := by
 intro a0 a1 k; have ih0 := bM.gq k; unfold bM.f
 repeat' (with_reducible exact ih0 _ _ _ _)
set_option maxHeartbeats 8000000 in
set_option maxRecDepth 100000 in
theorem bM.calls (k : Nat) (a0 : Int) (A1 : Option Addr) (c1 : Nat) (l1 : List Int) (r : Int) (w : World) (hr1 : Kd.C (Kd.int .i64) w A1 l1.length l1) (hc1 : l1.length ≤ c1) (h : bM.f k a0 l1 = some r) :
 Calls Try.prog 56 #[.int .i64 a0, .slice A1 l1.length c1] w fun e w' => e = .returned (.int .i64 r) ∧ Below w.heap.size w w' := by
 have HR1 := aa.mk hr1; have HC1 := aa.mk hc1; clear hr1 hc1; have HB := aa.mk (Below.refl w.heap.size w); have H : (bM.l0 k a0 l1 (l1.length : Int) 0) = some r := h; clear h; have H' := aa.mk H; clear H; go_enter Try.func56, Try.ntmps56; go_wp2; (go_loopg [0, 9] k (fun kq v0 v9 w' => ∃ (M8 : Int) (vI : Int), v0 = .int .i64 M8 ∧ v9 = .int .i64 vI ∧ aa (bM.l0 kq M8 l1 (l1.length : Int) vI = some r) ∧ aa (kq ≤ k) ∧ aa (Below w.heap.size w w'))); case atStart => exact ⟨(a0), (0), (by rfl), (by rfl), H', ⟨Nat.le_refl _⟩, ⟨by exact HB.out⟩⟩
 case round =>
  clear H'; obtain ⟨M8, vI, rfl, rfl, HA, HK1, HB⟩ := hrel
  cases gk with
  | zero => exact absurd HA.out (by simp [bM.l0])
  | succ k1 =>
   have H := HA.out; clear HA; simp only [bM.l0] at H; by_cases c3 : vI < (l1.length : Int)
   ·rw [if_pos c3] at H; have uP : decide (vI < (l1.length : Int)) = true := decide_eq_true c3; clear c3; by_cases c4 : 0 ≤ vI
    ·rw [if_pos c4] at H; have yu : decide (0 ≤ vI) = true := decide_eq_true c4; clear c4; by_cases c5 : vI < (l1.length : Int)
     ·rw [if_pos c5] at H; have Bd : decide (vI < (l1.length : Int)) = true := decide_eq_true c5; clear c5; obtain ⟨ji6, acd⟩ : ∃ j_ : Int, (mn M8 (rd l1 vI)) = j_ := ⟨_, rfl⟩; (replace H : (bM.l0 k1 ji6 l1 (l1.length : Int) (wrap64 (vI + 1))) = some r := by (rw [acd] at H; exact H)); have akQ : (if (rd l1 vI) < M8 then (rd l1 vI) else M8) = ji6 := acd; have H' := aa.mk H; clear H; have aaq : 0 ≤ (vI : Int) := of_decide_eq_true (by with_reducible assumption); have aaz : vI < (l1.length : Int) := of_decide_eq_true (by with_reducible assumption); obtain ⟨akO, e124, Fs⟩ := Kd.sM HR1.out vI aaq aaz; cases e124; replace Fs := (HB.out.cell (World.block_lt_of_cell? w _ Fs)).trans Fs; replace aaq := eq_true aaq; replace aaz := eq_true aaz; go_wp2; go_roundg k1; (case measure => have := HK1.out; omega); case rel => exact ⟨(ji6), (wrap64 (vI + 1)), (by rfl), (by rfl), H', ⟨by have := HK1.out; omega⟩, ⟨by exact HB.out⟩⟩
     ·rw [if_neg c5] at H; exact absurd H (by simp)
    ·rw [if_neg c4] at H; exact absurd H (by simp)
   ·rw [if_neg c3] at H; have uP : decide (vI < (l1.length : Int)) = false := decide_eq_false c3; clear c3; obtain rfl := Option.some.inj H; go_wp2
    go_ret
    exact ⟨by rfl, by exact HB.out⟩
def oz.f (gu : Int) (bg : Int) (a1 : Int) (JI : Int) (RO : Int) : Option (Bool) := if gu = a1 then (some (JI == bg)) else (some true)
set_option maxHeartbeats 8000000 in
set_option maxRecDepth 100000 in
theorem oz.calls (gu : Int) (bg : Int) (a1 : Int) (JI : Int) (RO : Int) (r : Bool) (w : World) (h : oz.f gu bg a1 JI RO = some r) :
 Calls Try.prog 75 #[.agg #[.int .i64 gu, .int .u8 bg], .int .i64 a1, .agg #[.int .u8 JI, .int .i64 RO]] w fun e w' => e = .returned (.bool r) ∧ Below w.heap.size w w' := by
 have hu100 := Try.underlying100; have hu86 := Try.underlying86; have HB := aa.mk (Below.refl w.heap.size w); have H : (if gu = a1 then (some (JI == bg)) else (some true)) = some r := h; clear h; by_cases c4 : gu = a1
 ·rw [if_pos c4] at H; have yu : (gu == a1) = true := beq_iff_eq.mpr c4; have Uz : (gu != a1) = false := bne_eq_false_iff_eq.mpr c4; clear c4; obtain rfl := Option.some.inj H; go_enter Try.func75, Try.ntmps75; go_wp2_with (first | ((with_reducible refine df (N := 3) rfl ?_); refine dA ?hg (N := 3) ?hd (cs := #[.int .i64 gu, .int .u8 bg]) (t := 100) ?hr ?_; (case hd => rfl); (case hg => rfl); (case hr => (go_simp; done)); intro uw hg w5 hbox hb; have wB := aa.mk (hbox); have adq := aa.mk ((by rw [hg]; exact (ay (by exact HB.out)) : w.heap.size ≤ uw)); have aeu := aa.mk ((by rw [hg]; exact (ay (by exact HB.out)) : w.heap.size ≤ uw)); replace HB := aa.mk (av (by exact HB.out) hb); clear hb hbox hg) | ((with_reducible refine df (N := 5) rfl ?_); refine dA ?hg (N := 5) ?hd (cs := #[.int .u8 JI, .int .i64 RO]) (t := 86) ?hr ?_; (case hd => rfl); (case hg => rfl); (case hr => (go_simp; done)); intro zw hg w6 hbox hb; have XF := aa.mk (hbox); have ac7 := aa.mk ((by rw [hg]; exact (ay (by exact HB.out)) : w.heap.size ≤ zw)); have abC := aa.mk ((by rw [hg]; exact (ay (by exact HB.out)) : w.heap.size ≤ zw)); replace HB := aa.mk (av (by exact HB.out) hb); have zT := aa.mk ((by rw [hg]; exact Nat.ne_of_lt (bW (g := uw) (o := .cells #[.int .i64 gu, .int .u8 bg] 100 (0, 0)) (bU wB.out)) : uw ≠ zw)); have zS := aa.mk ((by rw [hg]; exact Nat.ne_of_gt (bW (g := uw) (o := .cells #[.int .i64 gu, .int .u8 bg] 100 (0, 0)) (bU wB.out)) : zw ≠ uw)); replace wB := aa.mk (aj (bU wB.out) hb); clear hb hbox hg; have alp := zT.out; have alr := zS.out; obtain ⟨KF, KU, Jb, J2⟩ := gP wB.out; obtain ⟨Rt, QE, Rc, Pb⟩ := gP XF.out))
  go_ret
  exact ⟨by rfl, by exact HB.out⟩
 ·rw [if_neg c4] at H; have yu : (gu == a1) = false := beq_eq_false_iff_ne.mpr c4; have Uz : (gu != a1) = true := bne_iff_ne.mpr c4; obtain rfl := Option.some.inj H; go_enter Try.func75, Try.ntmps75; go_wp2_with (first | ((with_reducible refine df (N := 3) rfl ?_); refine dA ?hg (N := 3) ?hd (cs := #[.int .i64 gu, .int .u8 bg]) (t := 100) ?hr ?_; (case hd => rfl); (case hg => rfl); (case hr => (go_simp; done)); intro uw hg w10 hbox hb; have wB := aa.mk (hbox); have adq := aa.mk ((by rw [hg]; exact (ay (by exact HB.out)) : w.heap.size ≤ uw)); have aeu := aa.mk ((by rw [hg]; exact (ay (by exact HB.out)) : w.heap.size ≤ uw)); replace HB := aa.mk (av (by exact HB.out) hb); clear hb hbox hg) | ((with_reducible refine df (N := 5) rfl ?_); refine dA ?hg (N := 5) ?hd (cs := #[.int .u8 JI, .int .i64 RO]) (t := 86) ?hr ?_; (case hd => rfl); (case hg => rfl); (case hr => (go_simp; done)); intro zw hg w11 hbox hb; have XF := aa.mk (hbox); have ac7 := aa.mk ((by rw [hg]; exact (ay (by exact HB.out)) : w.heap.size ≤ zw)); have abC := aa.mk ((by rw [hg]; exact (ay (by exact HB.out)) : w.heap.size ≤ zw)); replace HB := aa.mk (av (by exact HB.out) hb); have zT := aa.mk ((by rw [hg]; exact Nat.ne_of_lt (bW (g := uw) (o := .cells #[.int .i64 gu, .int .u8 bg] 100 (0, 0)) (bU wB.out)) : uw ≠ zw)); have zS := aa.mk ((by rw [hg]; exact Nat.ne_of_gt (bW (g := uw) (o := .cells #[.int .i64 gu, .int .u8 bg] 100 (0, 0)) (bU wB.out)) : zw ≠ uw)); replace wB := aa.mk (aj (bU wB.out) hb); clear hb hbox hg; have adr := zT.out; have ab0 := zS.out; obtain ⟨VT, WI, WG, Xg⟩ := gP wB.out))
  go_ret
  exact ⟨by rfl, by exact HB.out⟩
theorem aco (d : Nat) (w : World) (x0 y0 : Int) (x1 y1 : Int) :
 (Op.equalIn (d + 2) 27 (.agg #[.int .i64 x0, .int .i64 x1]) (.agg #[.int .i64 y0, .int .i64 y1])).run Try.prog w = .ok (x0 == y0 && (x1 == y1)) w := by
 refine JK Try.underlying27 (by kernel_rfl) ?_; refine Ce (by rfl) (by go_simp; rfl) (by go_simp; rfl) (by go_simp) ?_; exact Cr (by rfl) (by go_simp; rfl) (by go_simp; rfl) (by go_simp)
theorem Yo (d : Nat) (w : World) (x0 y0 : Int) (x1 y1 : Int) :
 (Op.equalIn (d + 2) 63 (.agg #[.int .i64 x0, .int .i64 x1]) (.agg #[.int .i64 y0, .int .i64 y1])).run Try.prog w = .ok (x0 == y0 && (x1 == y1)) w := by
 refine JK Try.underlying63 (by kernel_rfl) ?_; refine Ce (by rfl) (by go_simp; rfl) (by go_simp; rfl) (by go_simp) ?_; exact Cr (by rfl) (by go_simp; rfl) (by go_simp; rfl) (by go_simp)
theorem aeg (d : Nat) (w : World) (x0 y0 : Int) (x1 y1 : Int) :
 (Op.equalIn (d + 2) 86 (.agg #[.int .u8 x0, .int .i64 x1]) (.agg #[.int .u8 y0, .int .i64 y1])).run Try.prog w = .ok (x0 == y0 && (x1 == y1)) w := by
 refine JK Try.underlying86 (by kernel_rfl) ?_; refine Ce (by rfl) (by go_simp; rfl) (by go_simp; rfl) (by go_simp) ?_; exact Cr (by rfl) (by go_simp; rfl) (by go_simp; rfl) (by go_simp)
def bE.l0 : Nat → List Int → List Int → Bool → Int → Option (Bool)
 | 0, _, _, _, _ => none
 | k + 1, x0, x1, x5, x6 => if x5 = true then (if x6 < (x0.length : Int) then (if 0 ≤ x6 then (if x6 < (x1.length : Int) then (bE.l0 k x0 x1 ((rd x0 x6) == (rd x1 x6)) (wrap64 (x6 + 1))) else (none)) else (none)) else (some x5)) else (some x5)
def bE.f (k : Nat) (l0 : List Int) (l1 : List Int) : Option (Bool) := bE.l0 k l0 l1 ((l0.length : Int) == (l1.length : Int)) 0
theorem bE.gq : ∀ k, (∀ y0 y1 y2 y3, LeO (bE.l0 k y0 y1 y2 y3) (bE.l0 (k + 1) y0 y1 y2 y3))
 | 0 => fun _ _ _ _ r h => by simp [bE.l0] at h
 | k + 1 => by
  have ih0 := bE.gq k
  ·intro y0 y1 y2 y3; unfold bE.l0
   repeat' first
   | (with_reducible exact ih0 _ _ _ _)
   | (with_reducible exact LeO.refl _)
   | (with_reducible exact LeO.none _)
   | (with_reducible refine LeO.ite ?_ ?_)
   | (with_reducible refine LeO.bind ?_ (fun _ => ?_))
   | exact ih0 _ _ _ _
   | exact LeO.none _
   | refine LeO.ite ?_ ?_
   | refine LeO.bind ?_ (fun _ => ?_)
theorem bE.mono : ∀ a0 a1 k, LeO (bE.f k a0 a1) (bE.f (k + 1) a0 a1) := by
 intro a0 a1 k; have ih0 := bE.gq k; unfold bE.f
 repeat' first
  | (with_reducible exact ih0 _ _ _ _)
  | (with_reducible exact LeO.refl _)
  | (with_reducible exact LeO.none _)
  | (with_reducible refine LeO.ite ?_ ?_)
  | (with_reducible refine LeO.bind ?_ (fun _ => ?_))
  | exact ih0 _ _ _ _
  | exact LeO.none _
  | refine LeO.ite ?_ ?_
  | refine LeO.bind ?_ (fun _ => ?_)
set_option maxHeartbeats 8000000 in
set_option maxRecDepth 100000 in
theorem bE.calls (k : Nat) (A0 : Option Addr) (c0 : Nat) (l0 : List Int) (A1 : Option Addr) (c1 : Nat) (l1 : List Int) (r : Bool) (w : World) (hr0 : Kd.C (Kd.int .i64) w A0 l0.length l0) (hc0 : l0.length ≤ c0) (hr1 : Kd.C (Kd.int .i64) w A1 l1.length l1) (hc1 : l1.length ≤ c1) (h : bE.f k l0 l1 = some r) :
 Calls Try.prog 28 #[.slice A0 l0.length c0, .slice A1 l1.length c1] w fun e w' => e = .returned (.bool r) ∧ dF w w' := by
 have HR0 := aa.mk hr0; have HC0 := aa.mk hc0; clear hr0 hc0; have HR1 := aa.mk hr1; have HC1 := aa.mk hc1; clear hr1 hc1; have H : (bE.l0 k l0 l1 ((l0.length : Int) == (l1.length : Int)) 0) = some r := h; clear h; have H' := aa.mk H; clear H; go_enter Try.func28, Try.ntmps28; go_wp2; (repeat (go_quiet (fail); try go_wp2)); (go_loopg [5, 6] k (fun kq v5 v6 w' => ∃ (fT : Bool) (gM : Int), v5 = .bool fT ∧ v6 = .int .i64 gM ∧ aa (bE.l0 kq l0 l1 fT gM = some r) ∧ aa (kq ≤ k) ∧ dF w w')); case atStart => exact ⟨(((l0.length : Int) == (l1.length : Int))), (0), (by first | rfl | (simp; done) | (simp [*]; done)), (by first | rfl | (simp; done) | (simp [*]; done)), H', ⟨Nat.le_refl _⟩, by repeat (first | exact dF.refl _ | apply dF.step)⟩
 case round =>
  clear H'; (try clear c1); (try clear c2); (try clear p2); obtain ⟨fT, gM, rfl, rfl, HA, HK1, ⟨m1, rfl⟩⟩ := hrel
  cases gk with
  | zero => exact absurd HA.out (by simp [bE.l0])
  | succ k1 =>
   have H := HA.out; clear HA; simp only [bE.l0] at H; by_cases c3 : fT = true
   ·subst c3; (have H1 : (if gM < (l0.length : Int) then (if 0 ≤ gM then (if gM < (l1.length : Int) then (bE.l0 k1 l0 l1 ((rd l0 gM) == (rd l1 gM)) (wrap64 (gM + 1))) else (none)) else (none)) else (some true)) = some r := by rw [if_pos rfl] at H; exact H); clear H; have H := H1; clear H1; by_cases c4 : gM < (l0.length : Int)
    ·rw [if_pos c4] at H; have yu : decide (gM < (l0.length : Int)) = true := decide_eq_true c4; clear c4; by_cases c5 : 0 ≤ gM
     ·rw [if_pos c5] at H; have Bd : decide (0 ≤ gM) = true := decide_eq_true c5; clear c5; by_cases c6 : gM < (l1.length : Int)
      ·rw [if_pos c6] at H; have UL : decide (gM < (l1.length : Int)) = true := decide_eq_true c6; clear c6; have H' := aa.mk H; clear H; have YR : 0 ≤ (gM : Int) := of_decide_eq_true (by first | (with_reducible assumption) | assumption); have aaL : gM < (l0.length : Int) := of_decide_eq_true (by first | (with_reducible assumption) | assumption); obtain ⟨akC, e616, afs⟩ := Kd.sM HR0.out gM YR aaL; cases e616; replace YR := eq_true YR; replace aaL := eq_true aaL; have ZB : 0 ≤ (gM : Int) := of_decide_eq_true (by first | (with_reducible assumption) | assumption); have Y7 : gM < (l1.length : Int) := of_decide_eq_true (by first | (with_reducible assumption) | assumption); obtain ⟨ajI, e617, ahi⟩ := Kd.sM HR1.out gM ZB Y7; cases e617; replace ZB := eq_true ZB; replace Y7 := eq_true Y7; go_wp2; (repeat (go_quiet (fail); try go_wp2)); go_roundg k1; (case measure => have := HK1.out; omega); case rel => exact ⟨(((rd l0 gM) == (rd l1 gM))), (wrap64 (gM + 1)), (by first | rfl | (simp; done) | (simp [*]; done)), (by first | rfl | (simp; done) | (simp [*]; done)), H', ⟨by have := HK1.out; omega⟩, by repeat (first | exact dF.refl _ | apply dF.step)⟩
      ·rw [if_neg c6] at H; exact absurd H (by simp)
     ·rw [if_neg c5] at H; exact absurd H (by simp)
    ·rw [if_neg c4] at H; have yu : decide (gM < (l0.length : Int)) = false := decide_eq_false c4; clear c4; obtain rfl := Option.some.inj H; go_wp2; repeat (go_quiet (fail); try go_wp2)
     go_ret
     exact ⟨by first | rfl | (simp; done) | (simp [*]; done), by repeat (first | exact dF.refl _ | apply dF.step)⟩
   ·replace c3 := Bool.eq_false_iff.mpr c3; subst c3; (have H1 : (some false) = some r := by rw [if_neg (show ¬ (false = true) by decide)] at H; exact H); clear H; have H := H1; clear H1; obtain rfl := Option.some.inj H; go_wp2; repeat (go_quiet (fail); try go_wp2)
    go_ret
    exact ⟨by first | rfl | (simp; done) | (simp [*]; done), by repeat (first | exact dF.refl _ | apply dF.step)⟩
def bf.l0 : Nat → List ByteArray → List ByteArray → Bool → Int → Option (Bool)
 | 0, _, _, _, _ => none
 | k + 1, x0, x1, x5, x6 => if x5 = true then (if x6 < (x0.length : Int) then (if 0 ≤ x6 then (if x6 < (x1.length : Int) then (bf.l0 k x0 x1 ((je ByteArray.empty x0 x6).toList == (je ByteArray.empty x1 x6).toList) (wrap64 (x6 + 1))) else (none)) else (none)) else (some x5)) else (some x5)
def bf.f (k : Nat) (l0 : List ByteArray) (l1 : List ByteArray) : Option (Bool) := bf.l0 k l0 l1 ((l0.length : Int) == (l1.length : Int)) 0
theorem bf.gq : ∀ k, (∀ y0 y1 y2 y3, LeO (bf.l0 k y0 y1 y2 y3) (bf.l0 (k + 1) y0 y1 y2 y3))
 | 0 => fun _ _ _ _ r h => by simp [bf.l0] at h
 | k + 1 => by
  have ih0 := bf.gq k
  ·intro y0 y1 y2 y3; unfold bf.l0
   repeat' first | (with_reducible exact ih0 _ _ _ _) | (with_reducible exact LeO.refl _) | (with_reducible refine LeO.ite ?_ ?_)
theorem bf.mono : ∀ a0 a1 k, LeO (bf.f k a0 a1) (bf.f (k + 1) a0 a1) := by
 intro a0 a1 k; have ih0 := bf.gq k; unfold bf.f
 repeat' (with_reducible exact ih0 _ _ _ _)
set_option maxHeartbeats 8000000 in
set_option maxRecDepth 100000 in
theorem bf.calls (k : Nat) (A0 : Option Addr) (c0 : Nat) (l0 : List ByteArray) (A1 : Option Addr) (c1 : Nat) (l1 : List ByteArray) (r : Bool) (w : World) (hr0 : Kd.C Kd.string w A0 l0.length l0) (hc0 : l0.length ≤ c0) (hr1 : Kd.C Kd.string w A1 l1.length l1) (hc1 : l1.length ≤ c1) (h : bf.f k l0 l1 = some r) :
 Calls Try.prog 42 #[.slice A0 l0.length c0, .slice A1 l1.length c1] w fun e w' => e = .returned (.bool r) ∧ dF w w' := by
 have HR0 := aa.mk hr0; have HC0 := aa.mk hc0; clear hr0 hc0; have HR1 := aa.mk hr1; have HC1 := aa.mk hc1; clear hr1 hc1; have H : (bf.l0 k l0 l1 ((l0.length : Int) == (l1.length : Int)) 0) = some r := h; clear h; have H' := aa.mk H; clear H; go_enter Try.func42, Try.ntmps42; go_wp2; (go_loopg [5, 6] k (fun kq v5 v6 w' => ∃ (fT : Bool) (gM : Int), v5 = .bool fT ∧ v6 = .int .i64 gM ∧ aa (bf.l0 kq l0 l1 fT gM = some r) ∧ aa (kq ≤ k) ∧ dF w w')); case atStart => exact ⟨(((l0.length : Int) == (l1.length : Int))), (0), (by rfl), (by rfl), H', ⟨Nat.le_refl _⟩, by exact dF.refl _⟩
 case round =>
  clear H'; obtain ⟨fT, gM, rfl, rfl, HA, HK1, ⟨m1, rfl⟩⟩ := hrel
  cases gk with
  | zero => exact absurd HA.out (by simp [bf.l0])
  | succ k1 =>
   have H := HA.out; clear HA; simp only [bf.l0] at H; by_cases c3 : fT = true
   ·subst c3; rw [if_pos rfl] at H; by_cases c4 : gM < (l0.length : Int)
    ·rw [if_pos c4] at H; have yu : decide (gM < (l0.length : Int)) = true := decide_eq_true c4; clear c4; by_cases c5 : 0 ≤ gM
     ·rw [if_pos c5] at H; have Bd : decide (0 ≤ gM) = true := decide_eq_true c5; clear c5; by_cases c6 : gM < (l1.length : Int)
      ·rw [if_pos c6] at H; have UL : decide (gM < (l1.length : Int)) = true := decide_eq_true c6; clear c6; have H' := aa.mk H; clear H; have YL : 0 ≤ (gM : Int) := of_decide_eq_true (by with_reducible assumption); have aaW : gM < (l0.length : Int) := of_decide_eq_true (by with_reducible assumption); obtain ⟨aky, e264, ahq⟩ := Kd.zX HR0.out gM YL aaW; cases e264; replace YL := eq_true YL; replace aaW := eq_true aaW; have aaO : 0 ≤ (gM : Int) := of_decide_eq_true (by with_reducible assumption); have aab : gM < (l1.length : Int) := of_decide_eq_true (by with_reducible assumption); obtain ⟨akT, e265, ahc⟩ := Kd.zX HR1.out gM aaO aab; cases e265; replace aaO := eq_true aaO; replace aab := eq_true aab; go_wp2; (repeat (go_quiet (fail); go_wp2)); go_roundg k1; (case measure => have := HK1.out; omega); case rel => exact ⟨(((je ByteArray.empty l0 gM).toList == (je ByteArray.empty l1 gM).toList)), (wrap64 (gM + 1)), (by rfl), (by rfl), H', ⟨by have := HK1.out; omega⟩, by repeat (first | exact dF.refl _ | apply dF.step)⟩
      ·rw [if_neg c6] at H; exact absurd H (by simp)
     ·rw [if_neg c5] at H; exact absurd H (by simp)
    ·rw [if_neg c4] at H; have yu : decide (gM < (l0.length : Int)) = false := decide_eq_false c4; clear c4; obtain rfl := Option.some.inj H; go_wp2
     go_ret
     exact ⟨by rfl, by repeat (first | exact dF.refl _ | apply dF.step)⟩
   ·replace c3 := Bool.eq_false_iff.mpr c3; subst c3; rw [if_neg (show ¬ (false = true) by decide)] at H; obtain rfl := Option.some.inj H; go_wp2
    go_ret
    exact ⟨by rfl, by repeat (first | exact dF.refl _ | apply dF.step)⟩
def jy.f (a0 : Int) (a1 : Int) : Option (Int) := if a1 < 2 then (some 0) else (if a1 = 0 then (none) else (some (Int.tmod (wrap64 ((Int.tmod a0 a1) + a1)) a1)))
set_option maxHeartbeats 8000000 in
set_option maxRecDepth 100000 in
theorem jy.calls (a0 : Int) (a1 : Int) (r : Int) (w : World) (h : jy.f a0 a1 = some r) :
 Calls Try.prog 18 #[.int .i64 a0, .int .i64 a1] w fun e w' => e = .returned (.int .i64 r) ∧ dF w w' := by
 have H : (if a1 < 2 then (some 0) else (if a1 = 0 then (none) else (some (Int.tmod (wrap64 ((Int.tmod a0 a1) + a1)) a1)))) = some r := h; clear h; by_cases c3 : a1 < 2
 ·rw [if_pos c3] at H; have uP : decide (a1 < 2) = true := decide_eq_true c3; clear c3; obtain rfl := Option.some.inj H; go_enter Try.func18, Try.ntmps18; go_wp2
  go_ret
  exact ⟨by first | rfl | (simp; done) | (simp [*]; done), by repeat (first | exact dF.refl _ | apply dF.step)⟩
 ·rw [if_neg c3] at H; have uP : decide (a1 < 2) = false := decide_eq_false c3; clear c3; by_cases c4 : a1 = 0
  ·rw [if_pos c4] at H; exact absurd H (by simp)
  ·rw [if_neg c4] at H; have yu : (a1 == 0) = false := beq_eq_false_iff_ne.mpr c4; have Uz : (a1 != 0) = true := bne_iff_ne.mpr c4; obtain rfl := Option.some.inj H; go_enter Try.func18, Try.ntmps18; go_wp2
   go_ret
   exact ⟨by first | rfl | (simp; done) | (simp [*]; done), by repeat (first | exact dF.refl _ | apply dF.step)⟩
end Go.Proofs.Ytihedeofkhapiaa.Pr
end
