/- Part 21 of 36 of the proof of: SightLooks: for every line and slice of numbers, the law returns true: the program tells which letter would be best to be known, and how many letters may still fit then, as the reference does, with the same error, and changes nothing; no condition beyond the statement's own. -/
import Derived.Test.YtihedeofkhapiaaProg
import Derived.Below
import Derived.Deep.Draws
import Derived.Deep.AppendLies
import Derived.Maps.AppendAt
import Derived.OwnWalk
import Derived.Laws.BytesArg
import Derived.Laws.MakeOwn
import Derived.Laws.OwnMore
import Derived.Deep.OwnRows
import Derived.Tactics
import Derived.Lib.ConvBytes
import Derived.Laws.Slices
import Derived.WalkKit
import Derived.KernelRfl
import Derived.RowKit3
import Derived.Deep.LoopGhost
import Derived.Deep.QuietTactic
import Derived.BigQuiet
import Derived.WideLaws
import Derived.Deep.DeepCutAuto
import Derived.Deep.CutBlock
import Derived.Deep.RegionHeld3
import Derived.Laws.Rows
import Derived.Lib.AppendStr
import Derived.ArgAppend
import Derived.Laws.IdiomCopy
import Derived.OrdersHeld
import Derived.Laws.BitsLemmas
import Derived.RowKit
import Derived.Test.YtihedeofkhapiaaSO4
import Derived.Test.YtihedeofkhapiaaSO18
import Derived.Test.YtihedeofkhapiaaSO19
import Derived.Test.YtihedeofkhapiaaSO20
set_option linter.unusedVariables false
set_option linter.unusedSimpArgs false
section
namespace Go.Proofs.Ytihedeofkhapiaa.Pr
open Go.RowKit Go.Proofs.YtihedeofkhapiaaW.PrintWords Go.Proofs.YtihedeofkhapiaaW.PrintLast Go.Proofs.YtihedeofkhapiaaW.PrintMore
attribute [local go_sem] nM nP ql qj ow oM qp qx
def aaP : Option Int → Value
 | none => .nilIface
 | some c => .iface 0 (.int .i64 c)
theorem NH : aaP none = .nilIface := rfl
theorem Nw (c : Int) : aaP (some c) = .iface 0 (.int .i64 c) := rfl
theorem info3 : (Try.prog.info? 3).map (fun i => (i.zero, i.size, i.bytes)) = some (some (.int .i64 0), 1, 8) := by kernel_rfl
theorem info5 : (Try.prog.info? 5).map (fun i => (i.zero, i.size, i.bytes)) = some (some (.int .u8 0), 1, 1) := by kernel_rfl
theorem abo : (Try.prog.info? 9).map (fun i => (i.zero, i.size, i.bytes)) = some (some (.string ⟨#[]⟩), 1, 16) := by kernel_rfl
theorem Sq : (Try.prog.info? 27).map (fun i => (i.zero, i.size, i.bytes)) = some (some (.agg #[(.int .i64 0), (.int .i64 0)]), 2, 16) := by kernel_rfl
theorem P9 : (Try.prog.info? 39).map (fun i => (i.zero, i.size, i.bytes)) = some (some (.slice none 0 0), 1, 24) := by kernel_rfl
theorem PP : (Try.prog.info? 66).map (fun i => (i.zero, i.size, i.bytes)) = some (some (.agg #[(.int .i64 0), (.int .i64 0), (.slice none 0 0)]), 3, 40) := by kernel_rfl
theorem QN : (Try.prog.info? 86).map (fun i => (i.zero, i.size, i.bytes)) = some (some (.agg #[(.int .u8 0), (.int .i64 0)]), 2, 16) := by kernel_rfl
theorem Bi : (Try.prog.info? 126).map (fun i => (i.zero, i.size, i.bytes)) = some (some (.agg #[(.int .i64 0), (.int .u8 0)]), 2, 16) := by kernel_rfl
structure S63 where
 f0 : Int
 f1 : Int
def z63 : S63 := ⟨(0 : Int), (0 : Int)⟩
def k63 : Kd S63 := Kd.iso (Kd.pair (Kd.int .i64) (Kd.int .i64)) (fun x : S63 => (x.f0, x.f1))
theorem Jc {w : World} {x : S63} {cs : List Value} (h : k63.K w x cs) : cs = [.int .i64 x.f0, .int .i64 x.f1] := by
 obtain ⟨_, _, rfl, rfl, rfl⟩ := h; exact rfl
theorem M8 {w : World} {base : Nat} {ok : Nat → Prop} {x : S63} {cs : List Value} (h : k63.M w base ok x cs) : cs = [.int .i64 x.f0, .int .i64 x.f1] := by
 obtain ⟨_, _, rfl, rfl, rfl⟩ := h; exact rfl
theorem Oj (w : World) (x : S63)  : k63.K w x [.int .i64 x.f0, .int .i64 x.f1] := ⟨[.int .i64 x.f0], [.int .i64 x.f1], rfl, rfl, rfl⟩
theorem Ub (w : World) (base : Nat) (ok : Nat → Prop) (x : S63)  : k63.M w base ok x [.int .i64 x.f0, .int .i64 x.f1] := ⟨[.int .i64 x.f0], [.int .i64 x.f1], rfl, rfl, rfl⟩
theorem ae4 (W : World) (ok : Nat → Prop) (x : S63) : Kd.FK k63 W ok x [.int .i64 x.f0, .int .i64 x.f1] := fun W2 _ => Oj W2 x
def Oe (xs : List S63) (i : Int) : S63 := xs.getD i.toNat z63
theorem aho {w : World} {A : Option Addr} {n : Nat} {xs : List S63} (h : Kd.C k63 w A n xs) (i : Int) (h0 : 0 ≤ i) (h1 : i < n) : ∃ ad , A = some ad ∧ w.cell? (ad.add (i.toNat * 2)) = some (.int .i64 (Oe xs i).f0) ∧ w.cell? ⟨(ad.add (i.toNat * 2)).block, (ad.add (i.toNat * 2)).off + 1, none⟩ = some (.int .i64 (Oe xs i).f1) := by
 obtain ⟨ad, c, e, _, hK, hc0⟩ := Kd.vE h z63 i h0 h1; have hc : ∀ j u, c[j]? = some u → w.cell? (ad.add (i.toNat * 2 + j)) = some u := hc0; obtain rfl := Jc hK; exact ⟨ad, e, hc 0 _ rfl, by rw [← qa _ _ 1 (by omega)]; exact hc 1 _ rfl⟩
structure S86 where
 f0 : Int
 f1 : Int
def z86 : S86 := ⟨(0 : Int), (0 : Int)⟩
def k86 : Kd S86 := Kd.iso (Kd.pair (Kd.int .u8) (Kd.int .i64)) (fun x : S86 => (x.f0, x.f1))
theorem RL {w : World} {x : S86} {cs : List Value} (h : k86.K w x cs) : cs = [.int .u8 x.f0, .int .i64 x.f1] := by
 obtain ⟨_, _, rfl, rfl, rfl⟩ := h; exact rfl
theorem ZL {w : World} {base : Nat} {ok : Nat → Prop} {x : S86} {cs : List Value} (h : k86.M w base ok x cs) : cs = [.int .u8 x.f0, .int .i64 x.f1] := by
 obtain ⟨_, _, rfl, rfl, rfl⟩ := h; exact rfl
theorem Rz (w : World) (x : S86)  : k86.K w x [.int .u8 x.f0, .int .i64 x.f1] := ⟨[.int .u8 x.f0], [.int .i64 x.f1], rfl, rfl, rfl⟩
theorem uO (w : World) (base : Nat) (ok : Nat → Prop) (x : S86)  : k86.M w base ok x [.int .u8 x.f0, .int .i64 x.f1] := ⟨[.int .u8 x.f0], [.int .i64 x.f1], rfl, rfl, rfl⟩
theorem ad7 (W : World) (ok : Nat → Prop) (x : S86) : Kd.FK k86 W ok x [.int .u8 x.f0, .int .i64 x.f1] := fun W2 _ => Rz W2 x
def ai (xs : List S86) (i : Int) : S86 := xs.getD i.toNat z86
theorem mP {w : World} {A : Option Addr} {n : Nat} {xs : List S86} (h : Kd.C k86 w A n xs) (i : Int) (h0 : 0 ≤ i) (h1 : i < n) : ∃ ad , A = some ad ∧ w.cell? (ad.add (i.toNat * 2)) = some (.int .u8 (ai xs i).f0) ∧ w.cell? ⟨(ad.add (i.toNat * 2)).block, (ad.add (i.toNat * 2)).off + 1, none⟩ = some (.int .i64 (ai xs i).f1) := by
 obtain ⟨ad, c, e, _, hK, hc0⟩ := Kd.vE h z86 i h0 h1; have hc : ∀ j u, c[j]? = some u → w.cell? (ad.add (i.toNat * 2 + j)) = some u := hc0; obtain rfl := RL hK; exact ⟨ad, e, hc 0 _ rfl, by rw [← qa _ _ 1 (by omega)]; exact hc 1 _ rfl⟩
def Mi (xs : List (List S86)) (i : Int) : (List S86) := xs.getD i.toNat ([] : List S86)
theorem aib {w : World} {A : Option Addr} {n : Nat} {xs : List (List S86)} (h : Kd.C (Kd.slice 86 k86) w A n xs) (i : Int) (h0 : 0 ≤ i) (h1 : i < n) : ∃ ad A0 c0, A = some ad ∧ w.cell? (ad.add i.toNat) = some (.slice A0 (Mi xs i).length c0) ∧ (Mi xs i).length ≤ c0 ∧ k86.C w A0 (Mi xs i).length (Mi xs i) := by
 obtain ⟨ad, c, e, _, hK, hc0⟩ := Kd.vE h ([] : List S86) i h0 h1; have hc : ∀ j u, c[j]? = some u → w.cell? (ad.add (i.toNat * 1 + j)) = some u := hc0; obtain ⟨A0, c0, rfl, l0, g0⟩ := hK; exact ⟨ad, A0, c0, e, by have hq := hc 0 _ rfl; rwa [Nat.mul_one, Nat.add_zero] at hq, l0, g0⟩
structure S66 where
 f0 : S63
 f1 : (List S86)
def z66 : S66 := ⟨z63, ([] : List S86)⟩
def k66 : Kd S66 := Kd.iso (Kd.pair k63 (Kd.slice 86 k86)) (fun x : S66 => (x.f0, x.f1))
theorem Dr {w : World} {x : S66} {cs : List Value} (h : k66.K w x cs) : ∃ A2 c2, cs = [.int .i64 x.f0.f0, .int .i64 x.f0.f1, .slice A2 x.f1.length c2] ∧ x.f1.length ≤ c2 ∧ k86.C w A2 x.f1.length x.f1 := by
 obtain ⟨_, _, rfl, s0, ⟨A2, c2, rfl, l2, g2⟩⟩ := h; obtain rfl := Jc s0; exact ⟨A2, c2, rfl, l2, g2⟩
theorem ZO {w : World} {base : Nat} {ok : Nat → Prop} {x : S66} {cs : List Value} (h : k66.M w base ok x cs) : ∃ v2, cs = [.int .i64 x.f0.f0, .int .i64 x.f0.f1, v2] ∧ k86.R 86 w base ok v2 x.f1 := by
 obtain ⟨_, _, rfl, s0, ⟨v2, rfl, g2⟩⟩ := h; obtain rfl := M8 s0; exact ⟨v2, rfl, g2⟩
theorem Rc (w : World) (x : S66) {A2 : Option Addr} {c2 : Nat} (l2 : x.f1.length ≤ c2) (g2 : k86.C w A2 x.f1.length x.f1) : k66.K w x [.int .i64 x.f0.f0, .int .i64 x.f0.f1, .slice A2 x.f1.length c2] := ⟨[.int .i64 x.f0.f0, .int .i64 x.f0.f1], [.slice A2 x.f1.length c2], rfl, (Oj w x.f0 ), ⟨A2, c2, rfl, l2, g2⟩⟩
theorem Tu (w : World) (base : Nat) (ok : Nat → Prop) (x : S66) {v2 : Value} (g2 : k86.R 86 w base ok v2 x.f1) : k66.M w base ok x [.int .i64 x.f0.f0, .int .i64 x.f0.f1, v2] := ⟨[.int .i64 x.f0.f0, .int .i64 x.f0.f1], [v2], rfl, (Ub w base ok x.f0 ), ⟨v2, rfl, g2⟩⟩
theorem NA {W : World} {ok : Nat → Prop} {x : S66} {cs : List Value} (h : Kd.FK k66 W ok x cs) : ∃ A2 c2, cs = [.int .i64 x.f0.f0, .int .i64 x.f0.f1, .slice A2 x.f1.length c2] ∧ x.f1.length ≤ c2 ∧ Kd.F k86 W ok A2 x.f1.length x.f1 := by
 obtain ⟨A2, c2, rfl, l2, _⟩ := Dr (Kd.pV h); exact ⟨A2, c2, rfl, l2, (fun W' hW => by obtain ⟨A2_, c2_, he, l2_, g2_⟩ := Dr (h W' hW); injection (Option.some.inj (show some (Value.slice A2 x.f1.length c2) = some (Value.slice A2_ x.f1.length c2_) from congrArg (fun l => l[2]?) he)) with ha_ _ _; rw [ha_]; exact g2_)⟩
theorem FQ (W : World) (ok : Nat → Prop) (x : S66) {A2 : Option Addr} {c2 : Nat} (l2 : x.f1.length ≤ c2) (g2 : Kd.F k86 W ok A2 x.f1.length x.f1) : Kd.FK k66 W ok x [.int .i64 x.f0.f0, .int .i64 x.f0.f1, .slice A2 x.f1.length c2] := fun W2 hW => Rc W2 x l2 (g2 W2 hW)
def ah (xs : List S66) (i : Int) : S66 := xs.getD i.toNat z66
theorem qf {w : World} {A : Option Addr} {n : Nat} {xs : List S66} (h : Kd.C k66 w A n xs) (i : Int) (h0 : 0 ≤ i) (h1 : i < n) : ∃ ad A2 c2, A = some ad ∧ w.cell? (ad.add (i.toNat * 3)) = some (.int .i64 (ah xs i).f0.f0) ∧ w.cell? ⟨(ad.add (i.toNat * 3)).block, (ad.add (i.toNat * 3)).off + 1, none⟩ = some (.int .i64 (ah xs i).f0.f1) ∧ w.cell? ⟨(ad.add (i.toNat * 3)).block, (ad.add (i.toNat * 3)).off + 2, none⟩ = some (.slice A2 (ah xs i).f1.length c2) ∧ (ah xs i).f1.length ≤ c2 ∧ k86.C w A2 (ah xs i).f1.length (ah xs i).f1 := by
 obtain ⟨ad, c, e, _, hK, hc0⟩ := Kd.vE h z66 i h0 h1; have hc : ∀ j u, c[j]? = some u → w.cell? (ad.add (i.toNat * 3 + j)) = some u := hc0; obtain ⟨A2, c2, rfl, l2, g2⟩ := Dr hK; exact ⟨ad, A2, c2, e, hc 0 _ rfl, by rw [← qa _ _ 1 (by omega)]; exact hc 1 _ rfl, by rw [← qa _ _ 2 (by omega)]; exact hc 2 _ rfl, l2, g2⟩
structure S27 where
 f0 : Int
 f1 : Int
def z27 : S27 := ⟨(0 : Int), (0 : Int)⟩
def k27 : Kd S27 := Kd.iso (Kd.pair (Kd.int .i64) (Kd.int .i64)) (fun x : S27 => (x.f0, x.f1))
theorem N7 {w : World} {x : S27} {cs : List Value} (h : k27.K w x cs) : cs = [.int .i64 x.f0, .int .i64 x.f1] := by
 obtain ⟨_, _, rfl, rfl, rfl⟩ := h; exact rfl
theorem ZK {w : World} {base : Nat} {ok : Nat → Prop} {x : S27} {cs : List Value} (h : k27.M w base ok x cs) : cs = [.int .i64 x.f0, .int .i64 x.f1] := by
 obtain ⟨_, _, rfl, rfl, rfl⟩ := h; exact rfl
theorem O9 (w : World) (x : S27)  : k27.K w x [.int .i64 x.f0, .int .i64 x.f1] := ⟨[.int .i64 x.f0], [.int .i64 x.f1], rfl, rfl, rfl⟩
theorem xR (w : World) (base : Nat) (ok : Nat → Prop) (x : S27)  : k27.M w base ok x [.int .i64 x.f0, .int .i64 x.f1] := ⟨[.int .i64 x.f0], [.int .i64 x.f1], rfl, rfl, rfl⟩
theorem afK (W : World) (ok : Nat → Prop) (x : S27) : Kd.FK k27 W ok x [.int .i64 x.f0, .int .i64 x.f1] := fun W2 _ => O9 W2 x
def eu (xs : List S27) (i : Int) : S27 := xs.getD i.toNat z27
theorem vv {w : World} {A : Option Addr} {n : Nat} {xs : List S27} (h : Kd.C k27 w A n xs) (i : Int) (h0 : 0 ≤ i) (h1 : i < n) : ∃ ad , A = some ad ∧ w.cell? (ad.add (i.toNat * 2)) = some (.int .i64 (eu xs i).f0) ∧ w.cell? ⟨(ad.add (i.toNat * 2)).block, (ad.add (i.toNat * 2)).off + 1, none⟩ = some (.int .i64 (eu xs i).f1) := by
 obtain ⟨ad, c, e, _, hK, hc0⟩ := Kd.vE h z27 i h0 h1; have hc : ∀ j u, c[j]? = some u → w.cell? (ad.add (i.toNat * 2 + j)) = some u := hc0; obtain rfl := N7 hK; exact ⟨ad, e, hc 0 _ rfl, by rw [← qa _ _ 1 (by omega)]; exact hc 1 _ rfl⟩
def cu (xs : List (List S27)) (i : Int) : (List S27) := xs.getD i.toNat ([] : List S27)
theorem xA {w : World} {A : Option Addr} {n : Nat} {xs : List (List S27)} (h : Kd.C (Kd.slice 27 k27) w A n xs) (i : Int) (h0 : 0 ≤ i) (h1 : i < n) : ∃ ad A0 c0, A = some ad ∧ w.cell? (ad.add i.toNat) = some (.slice A0 (cu xs i).length c0) ∧ (cu xs i).length ≤ c0 ∧ k27.C w A0 (cu xs i).length (cu xs i) := by
 obtain ⟨ad, c, e, _, hK, hc0⟩ := Kd.vE h ([] : List S27) i h0 h1; have hc : ∀ j u, c[j]? = some u → w.cell? (ad.add (i.toNat * 1 + j)) = some u := hc0; obtain ⟨A0, c0, rfl, l0, g0⟩ := hK; exact ⟨ad, A0, c0, e, by have hq := hc 0 _ rfl; rwa [Nat.mul_one, Nat.add_zero] at hq, l0, g0⟩
def iX (xs : List (List Int)) (i : Int) : (List Int) := xs.getD i.toNat ([] : List Int)
theorem L6 {w : World} {A : Option Addr} {n : Nat} {xs : List (List Int)} (h : Kd.C (Kd.slice 5 (Kd.int .u8)) w A n xs) (i : Int) (h0 : 0 ≤ i) (h1 : i < n) : ∃ ad A0 c0, A = some ad ∧ w.cell? (ad.add i.toNat) = some (.slice A0 (iX xs i).length c0) ∧ (iX xs i).length ≤ c0 ∧ (Kd.int .u8).C w A0 (iX xs i).length (iX xs i) := by
 obtain ⟨ad, c, e, _, hK, hc0⟩ := Kd.vE h ([] : List Int) i h0 h1; have hc : ∀ j u, c[j]? = some u → w.cell? (ad.add (i.toNat * 1 + j)) = some u := hc0; obtain ⟨A0, c0, rfl, l0, g0⟩ := hK; exact ⟨ad, A0, c0, e, by have hq := hc 0 _ rfl; rwa [Nat.mul_one, Nat.add_zero] at hq, l0, g0⟩
structure kL where
 f0 : Int
 f1 : Int
def QK : kL := ⟨(0 : Int), (0 : Int)⟩
def qI : Kd kL := Kd.iso (Kd.pair (Kd.int .i64) (Kd.int .u8)) (fun x : kL => (x.f0, x.f1))
theorem MM {w : World} {x : kL} {cs : List Value} (h : qI.K w x cs) : cs = [.int .i64 x.f0, .int .u8 x.f1] := by
 obtain ⟨_, _, rfl, rfl, rfl⟩ := h; exact rfl
theorem Ym {w : World} {base : Nat} {ok : Nat → Prop} {x : kL} {cs : List Value} (h : qI.M w base ok x cs) : cs = [.int .i64 x.f0, .int .u8 x.f1] := by
 obtain ⟨_, _, rfl, rfl, rfl⟩ := h; exact rfl
theorem VR (w : World) (x : kL)  : qI.K w x [.int .i64 x.f0, .int .u8 x.f1] := ⟨[.int .i64 x.f0], [.int .u8 x.f1], rfl, rfl, rfl⟩
theorem yg (w : World) (base : Nat) (ok : Nat → Prop) (x : kL)  : qI.M w base ok x [.int .i64 x.f0, .int .u8 x.f1] := ⟨[.int .i64 x.f0], [.int .u8 x.f1], rfl, rfl, rfl⟩
theorem abM (W : World) (ok : Nat → Prop) (x : kL) : Kd.FK qI W ok x [.int .i64 x.f0, .int .u8 x.f1] := fun W2 _ => VR W2 x
def wH (xs : List kL) (i : Int) : kL := xs.getD i.toNat QK
theorem UD {w : World} {A : Option Addr} {n : Nat} {xs : List kL} (h : Kd.C qI w A n xs) (i : Int) (h0 : 0 ≤ i) (h1 : i < n) : ∃ ad , A = some ad ∧ w.cell? (ad.add (i.toNat * 2)) = some (.int .i64 (wH xs i).f0) ∧ w.cell? ⟨(ad.add (i.toNat * 2)).block, (ad.add (i.toNat * 2)).off + 1, none⟩ = some (.int .u8 (wH xs i).f1) := by
 obtain ⟨ad, c, e, _, hK, hc0⟩ := Kd.vE h QK i h0 h1; have hc : ∀ j u, c[j]? = some u → w.cell? (ad.add (i.toNat * 2 + j)) = some u := hc0; obtain rfl := MM hK; exact ⟨ad, e, hc 0 _ rfl, by rw [← qa _ _ 1 (by omega)]; exact hc 1 _ rfl⟩
end Go.Proofs.Ytihedeofkhapiaa.Pr
end
section
namespace Go.Proofs.Ytihedeofkhapiaa.Pr
open Go.RowKit Go.Proofs.YtihedeofkhapiaaW.PrintWords Go.Proofs.YtihedeofkhapiaaW.PrintLast Go.Proofs.YtihedeofkhapiaaW.PrintMore
def ba (n k : Nat) : Array Bool := ((List.range n).map k.testBit).toArray
variable {P : Program} {ops : Array Oper} {Q : Exit → Act → World → Prop} {md : Region.Mode} {S : World → Prop} {ds : List Nat} {T : Bool × List (List Nat × List Nat)} {B : List Nat} {oi oj : Oper} {v : Value} {fuel : Nat} {l : Array Bool} {a a' : Act} {w : World}
theorem fU (i : Nat) (N : Tmp) (l' : Array Bool) (hT : mr md ops = T) (h : bP P md ops Q S ds fuel l' a' w)
 (hi : ops[i]? = some oi := by exact rfl) (hN : oi.dst = some N := by exact rfl) (hc : ZJ T l.toList l'.toList i = true := by kernel_rfl)
 (hQ : ∀ c a w, Q (.panic c) (a.put oi.dst v) w → Q (.panic c) a w := by exact fun _ _ _ h => h) (hw : Region.wanted oi (yielded ops a.tmps) = true := by rfl)
 (hv : ∀ w, (execOp a.eval oi).run P w = .ok (.value v) w := by intro w'; go_simp; with_reducible rfl)
 (ha : a.put (some N) v = a' := by simp only [Act.put, List.setIfInBounds_toArray, List.set_cons_zero, List.set_cons_succ, pR, uk]; rfl) : bP P md ops Q S ds (fuel + 1) l a w :=
 Ik l' hi hN (ZI hT hc) hQ (Or.inl ⟨hw, hv⟩) ha h
theorem tV (i : Nat) (N : Tmp) (l' : Array Bool) (hT : mr md ops = T) (hB : lL T.2 B = true) (hS : S w) (h : bP P md ops Q S ds fuel l' a' w)
 (hi : ops[i]? = some oi := by exact rfl) (hN : oi.dst = some N := by exact rfl) (hc : Q8 T B ds l.toList l'.toList i = true := by kernel_rfl)
 (hQ : ∀ c a w, Q (.panic c) (a.put oi.dst v) w → Q (.panic c) a w := by exact fun _ _ _ h => h) (hw : Region.wanted oi (yielded ops a.tmps) = true := by rfl)
 (hv : ∀ w, S w → (execOp a.eval oi).run P w = .ok (.value v) w := by intro w'; try simp only [and_imp]; intros; go_simp; with_reducible rfl)
 (ha : a.put (some N) v = a' := by simp only [Act.put, List.setIfInBounds_toArray, List.set_cons_zero, List.set_cons_succ, pR, uk]; rfl) : bP P md ops Q S ds (fuel + 1) l a w :=
 Ck l' hi hN (RU hT hB hc) hQ (Or.inl ⟨hw, hv⟩) hS ha h
theorem on_ (i : Nat) (N : Option Tmp) (l' : Array Bool) (hT : mr md ops = T)
 (h : ∀ K : Act → World → Prop, Shut (∀ a' w', S w' → (S w' → bP P md ops Q S ds fuel l' a' w') → K a' w') → if Region.wanted oi (yielded ops a.tmps) = true then Oper.wp P oi a w K Q else K (a.put N undef) w)
 (hi : ops[i]? = some oi := by exact rfl) (hN : oi.dst = N := by exact rfl) (hc : (tL T.2 l.toList == [i] && l.toList.set i true == l'.toList) = true := by kernel_rfl) (hd : i ∉ ds := by decide) : bP P md ops Q S ds (fuel + 1) l a w :=
 Yq l' hi hN (Ql hT hc) hd h
theorem JB (i : Nat) (N : Option Tmp) (l' : Array Bool) (hT : mr md ops = T)
 (h : ∀ K : Act → World → Prop, Shut (∀ a' w', bP P md ops Q S ds fuel l' a' w' → K a' w') → if Region.wanted oi (yielded ops a.tmps) = true then Oper.wp P oi a w K Q else K (a.put N undef) w)
 (hi : ops[i]? = some oi := by exact rfl) (hN : oi.dst = N := by exact rfl) (hc : (tL T.2 l.toList == [i] && l.toList.set i true == l'.toList) = true := by kernel_rfl) (hd : i ∈ ds := by decide) : bP P md ops Q S ds (fuel + 1) l a w :=
 aca l' hi hN (Ql hT hc) hd h
theorem Cz (i j : Nat) (Ni Nj : Tmp) (li lj : Array Bool) (hT : mr md ops = T)
 (h1 : ∀ K : Act → World → Prop, Shut (∀ a' w', S w' → (S w' → bP P md ops Q S ds fuel li a' w') → K a' w') → if Region.wanted oi (yielded ops a.tmps) = true then Oper.wp P oi a w K Q else K (a.put (some Ni) undef) w)
 (h2 : ∀ K : Act → World → Prop, Shut (∀ a' w', S w' → (S w' → bP P md ops Q S ds fuel lj a' w') → K a' w') → if Region.wanted oj (yielded ops a.tmps) = true then Oper.wp P oj a w K Q else K (a.put (some Nj) undef) w)
 (hi : ops[i]? = some oi := by exact rfl) (hj : ops[j]? = some oj := by exact rfl) (hNi : oi.dst = some Ni := by exact rfl) (hNj : oj.dst = some Nj := by exact rfl)
 (hc : (tL T.2 l.toList == [i, j] && l.toList.set i true == li.toList && l.toList.set j true == lj.toList) = true := by kernel_rfl) (hdi : i ∉ ds := by decide) (hdj : j ∉ ds := by decide) : bP P md ops Q S ds (fuel + 1) l a w :=
 agH li lj hi hj hNi hNj (YM hT hc) hdi hdj h1 h2
theorem mD (h : bP P md ops Q S ds fuel l a' w) (ha : a = a' := by show Act.put _ (some _) _ = _; simp only [Act.put, List.setIfInBounds_toArray, List.set_cons_zero, List.set_cons_succ, pR, uk]; rfl) : bP P md ops Q S ds fuel l a w := Lx ha h
theorem ajF (h : bP P md ops Q S ds fuel l a' w) (ha : a = a' := by simp only [Act.put, List.setIfInBounds_toArray, List.set_cons_zero, List.set_cons_succ, pR, uk]; rfl) : bP P md ops Q S ds fuel l a w := Lx ha h
theorem Eh (h : bP P md ops Q S ds fuel l a' w) (ha : a = a' := by simp only [D6, Act.put, List.setIfInBounds_toArray, List.set_cons_zero, List.set_cons_succ, pR, uk]; rfl) : bP P md ops Q S ds fuel l a w := Lx ha h
theorem AV (h : bP P md ops Q S ds fuel l a' w) (ha : a = a' := by simp only [D6, Act.put, List.setIfInBounds_toArray, List.set_cons_zero, List.set_cons_succ]; done) : bP P md ops Q S ds fuel l a w := Lx ha h
theorem D9 {n : Nat} (hT : mr md ops = T) (h : Q .normal a w) (hc : (tL T.2 l.toList == []) = true := by kernel_rfl) : bP P md ops Q S ds n l a w := R3 (VM hT hc) h
theorem nb_ {w : World} {g gb : Nat} {o : Obj} (hg : gb = w.heap.size) (h : w.heap[g]? = some o) : g ≠ gb := by rw [hg]; exact Nat.ne_of_lt (bW h)
theorem mE {w : World} {g : Nat} {t : TypeId} {a0 a1 : Value} (h : w.heap[g]? = some (.cells #[a0, a1] t (0, 0))) : w.cell? ⟨g, 0, none⟩ = some a0 ∧ w.cell? ⟨g, 1, none⟩ = some a1 ∧ w.frozen? ⟨g, 0, none⟩ = false ∧ w.frozen? ⟨g, 1, none⟩ = false := ⟨(af h 0).trans rfl, (af h 1).trans rfl, aN h 0, aN h 1⟩
theorem cells3 {w : World} {g : Nat} {t : TypeId} {a0 a1 a2 : Value} (h : w.heap[g]? = some (.cells #[a0, a1, a2] t (0, 0))) : w.cell? ⟨g, 0, none⟩ = some a0 ∧ w.cell? ⟨g, 1, none⟩ = some a1 ∧ w.cell? ⟨g, 2, none⟩ = some a2 ∧ w.frozen? ⟨g, 0, none⟩ = false ∧ w.frozen? ⟨g, 1, none⟩ = false ∧ w.frozen? ⟨g, 2, none⟩ = false := ⟨(af h 0).trans rfl, (af h 1).trans rfl, (af h 2).trans rfl, aN h 0, aN h 1, aN h 2⟩
theorem ahn {w : World} {g : Nat} {t : TypeId} {a0 a1 a2 a3 : Value} (h : w.heap[g]? = some (.cells #[a0, a1, a2, a3] t (0, 0))) : w.cell? ⟨g, 0, none⟩ = some a0 ∧ w.cell? ⟨g, 1, none⟩ = some a1 ∧ w.cell? ⟨g, 2, none⟩ = some a2 ∧ w.cell? ⟨g, 3, none⟩ = some a3 ∧ w.frozen? ⟨g, 0, none⟩ = false ∧ w.frozen? ⟨g, 1, none⟩ = false ∧ w.frozen? ⟨g, 2, none⟩ = false ∧ w.frozen? ⟨g, 3, none⟩ = false := ⟨(af h 0).trans rfl, (af h 1).trans rfl, (af h 2).trans rfl, (af h 3).trans rfl, aN h 0, aN h 1, aN h 2, aN h 3⟩
theorem cells5 {w : World} {g : Nat} {t : TypeId} {a0 a1 a2 a3 a4 : Value} (h : w.heap[g]? = some (.cells #[a0, a1, a2, a3, a4] t (0, 0))) : w.cell? ⟨g, 0, none⟩ = some a0 ∧ w.cell? ⟨g, 1, none⟩ = some a1 ∧ w.cell? ⟨g, 2, none⟩ = some a2 ∧ w.cell? ⟨g, 3, none⟩ = some a3 ∧ w.cell? ⟨g, 4, none⟩ = some a4 ∧ w.frozen? ⟨g, 0, none⟩ = false ∧ w.frozen? ⟨g, 1, none⟩ = false ∧ w.frozen? ⟨g, 2, none⟩ = false ∧ w.frozen? ⟨g, 3, none⟩ = false ∧ w.frozen? ⟨g, 4, none⟩ = false := ⟨(af h 0).trans rfl, (af h 1).trans rfl, (af h 2).trans rfl, (af h 3).trans rfl, (af h 4).trans rfl, aN h 0, aN h 1, aN h 2, aN h 3, aN h 4⟩
theorem ahi {w : World} {g : Nat} {t : TypeId} {a0 a1 a2 a3 a4 a5 : Value} (h : w.heap[g]? = some (.cells #[a0, a1, a2, a3, a4, a5] t (0, 0))) : w.cell? ⟨g, 0, none⟩ = some a0 ∧ w.cell? ⟨g, 1, none⟩ = some a1 ∧ w.cell? ⟨g, 2, none⟩ = some a2 ∧ w.cell? ⟨g, 3, none⟩ = some a3 ∧ w.cell? ⟨g, 4, none⟩ = some a4 ∧ w.cell? ⟨g, 5, none⟩ = some a5 ∧ w.frozen? ⟨g, 0, none⟩ = false ∧ w.frozen? ⟨g, 1, none⟩ = false ∧ w.frozen? ⟨g, 2, none⟩ = false ∧ w.frozen? ⟨g, 3, none⟩ = false ∧ w.frozen? ⟨g, 4, none⟩ = false ∧ w.frozen? ⟨g, 5, none⟩ = false := ⟨(af h 0).trans rfl, (af h 1).trans rfl, (af h 2).trans rfl, (af h 3).trans rfl, (af h 4).trans rfl, (af h 5).trans rfl, aN h 0, aN h 1, aN h 2, aN h 3, aN h 4, aN h 5⟩
end Go.Proofs.Ytihedeofkhapiaa.Pr
end
section
namespace Go.Proofs.Ytihedeofkhapiaa.Pr
open Go.RowKit Go.Proofs.YtihedeofkhapiaaW.PrintWords Go.Proofs.YtihedeofkhapiaaW.PrintLast Go.Proofs.YtihedeofkhapiaaW.PrintMore
attribute [local go_sem] nM nP ql qj ow oM qp qx
def aQ (w0 W : World) (g : Nat) (f0 : Int) (f1 : Int) : Prop := W.heap[g]? = some (.cells #[.int .u64 f0, .int .u64 f1] 91 (0, 0)) ∧ w0.heap.size ≤ g
theorem aQ.grown {w0 W : World} {g : Nat} {f0 : Int} {f1 : Int} {W1 : World} {row : Option Nat} (h : aQ w0 W g f0 f1) (hw : W.grownBy W1 row) (hne : some g ≠ row) : aQ w0 W1 g f0 f1 := by
 obtain ⟨hb, hg⟩ := h; exact ⟨bQ hb hw hne, hg⟩
theorem aQ.Mc {w0 W : World} {g : Nat} {f0 : Int} {f1 : Int} {α : Type} {d : Kd α} {e : Nat} {base : Nat} {ok : Nat → Prop} {v : Value} {xs : List α} (h : aQ w0 W g f0 f1) (ho : Kd.N d e W base ok v xs) (ht : e ≠ 91) : some g ≠ v.ownBlock := by
 obtain ⟨hb, hg⟩ := h; exact Kd.Ci ho hb ht
theorem aQ.fresh {w0 W : World} {g : Nat} {f0 : Int} {f1 : Int} (h : aQ w0 W g f0 f1) : ∀ k, W.heap.size ≤ k → k ≠ g := by
 obtain ⟨hb, hg⟩ := h; exact Kd.kw hb
theorem aQ.below {w0 W : World} {g : Nat} {f0 : Int} {f1 : Int} {W1 : World} (h : aQ w0 W g f0 f1) (hw : Below W.heap.size W W1) : aQ w0 W1 g f0 f1 := h.grown (jq hw none) (by simp)
theorem aQ.alloc {w0 W : World} {g : Nat} {f0 : Int} {f1 : Int} (h : aQ w0 W g f0 f1) (o : Obj) : aQ w0 (W.alloc o) g f0 f1 := h.below (aH (Below.refl _ _) o)
theorem aQ.drewN {w0 W : World} {g : Nat} {f0 : Int} {f1 : Int} (h : aQ w0 W g f0 f1) (m : Nat) : aQ w0 (W.drewN m) g f0 f1 := h
theorem aQ.drew {w0 W : World} {g : Nat} {f0 : Int} {f1 : Int} (h : aQ w0 W g f0 f1) : aQ w0 W.drew g f0 f1 := h
theorem aQ.at_ {w0 W : World} {g : Nat} {f0 : Int} {f1 : Int} {w' : World} {m : Nat} (hq : W.drewN m = w') (h : aQ w0 W g f0 f1) : aQ w0 w' g f0 f1 := by subst hq; exact aQ.drewN h m
theorem aQ.apart {w0 W : World} {g : Nat} {f0 : Int} {f1 : Int} {α : Type} {d : Kd α} {e : Nat} {base : Nat} {ok : Nat → Prop} {v : Value} {xs : List α} (h : aQ w0 W g f0 f1) (ho : d.R e W base ok v xs) (ht : ∀ q, q ∈ e :: d.E → q ≠ 91) : d.R e W base (fun k => ok k ∧ k ≠ g) v xs := by
 obtain ⟨hb, hg⟩ := h; exact Kd.dX ho hb ht
theorem aQ.own_ne {w0 W : World} {g : Nat} {f0 : Int} {f1 : Int} {α : Type} {d : Kd α} {e : Nat} {base : Nat} {ok : Nat → Prop} {v : Value} {xs : List α} (h : aQ w0 W g f0 f1) (ho : d.R e W base ok v xs) (ht : e ≠ 91) : some g ≠ v.ownBlock := by
 obtain ⟨hb, hg⟩ := h; exact Kd.mO ho hb ht
theorem aQ.ahe {w0 W : World} {g : Nat} {f0 : Int} {f1 : Int} {α : Type} {d : Kd α} {e : Nat} {base : Nat} {ok : Nat → Prop} {v : Value} {xs : List α} (h : aQ w0 W g f0 f1) (ho : d.S e W base ok v xs) (ht : ∀ q, q ∈ e :: d.E → q ≠ 91) : d.S e W base (fun k => ok k ∧ k ≠ g) v xs := by
 obtain ⟨hb, hg⟩ := h; exact Kd.wE ho hb ht
theorem aQ.afp {w0 W : World} {g : Nat} {f0 : Int} {f1 : Int} {α : Type} {d : Kd α} {e : Nat} {base : Nat} {ok : Nat → Prop} {v : Value} {xs : List α} (h : aQ w0 W g f0 f1) (ho : d.S e W base ok v xs) (ht : e ≠ 91) : some g ≠ v.ownBlock := by
 obtain ⟨hb, hg⟩ := h; exact Kd.RH ho hb ht
theorem aQ.lt {w0 W : World} {g : Nat} {f0 : Int} {f1 : Int} (h : aQ w0 W g f0 f1) : g < W.heap.size := by
 obtain ⟨hb, hg⟩ := h; exact bW hb
theorem aQ.ge {w0 W : World} {g : Nat} {f0 : Int} {f1 : Int} (h : aQ w0 W g f0 f1) : w0.heap.size ≤ g := by
 obtain ⟨hb, hg⟩ := h; exact hg
theorem aQ.ahf {w0 W : World} {g : Nat} {f0 : Int} {f1 : Int} {a : Nat} {cs : Array Value} {t : TypeId} {fr : Nat × Nat} (h : aQ w0 W g f0 f1) (hb2 : W.heap[a]? = some (.cells cs t fr)) (ht : t ≠ 91) : g ≠ a := by
 obtain ⟨hb, hg⟩ := h; rintro rfl; rw [hb] at hb2; injection hb2 with hb2; injection hb2 with _ ht2; exact ht ht2.symm
theorem aQ.far {w0 W : World} {g : Nat} {f0 : Int} {f1 : Int} {p : Addr} (h : aQ w0 W g f0 f1) (hne : g ≠ p.block) (u : Value) : aQ w0 (W.setCell p u) g f0 f1 := by
 obtain ⟨hb, hg⟩ := h; exact ⟨bA hb hne u, hg⟩
theorem zH {W : World} {g : Nat} {f0 : Int} {f1 : Int} (h : W.heap[g]? = some (.cells #[.int .u64 f0, .int .u64 f1] 91 (0, 0))) : W.cell? ⟨g, 0, none⟩ = some (.int .u64 f0) := (af h 0).trans rfl
theorem aQ.abd {w0 W : World} {g : Nat} {f0 : Int} {f1 : Int} (h : aQ w0 W g f0 f1) (x : Int) : aQ w0 (W.setCell ⟨g, 0, none⟩ (.int .u64 x)) g x f1 := by
 obtain ⟨hb, hg⟩ := h; exact ⟨by simpa using Bp hb 0 (.int .u64 x), hg⟩
theorem zz {W : World} {g : Nat} {f0 : Int} {f1 : Int} (h : W.heap[g]? = some (.cells #[.int .u64 f0, .int .u64 f1] 91 (0, 0))) : W.cell? ⟨g, 1, none⟩ = some (.int .u64 f1) := (af h 1).trans rfl
theorem aQ.PU {w0 W : World} {g : Nat} {f0 : Int} {f1 : Int} (h : aQ w0 W g f0 f1) (x : Int) : aQ w0 (W.setCell ⟨g, 1, none⟩ (.int .u64 x)) g f0 x := by
 obtain ⟨hb, hg⟩ := h; exact ⟨by simpa using Bp hb 1 (.int .u64 x), hg⟩
theorem aQ.new (w0 W : World) (f0 : Int) (f1 : Int) (hB : Below w0.heap.size w0 W) : aQ w0 (W.alloc (.cells #[.int .u64 f0, .int .u64 f1] 91)) W.heap.size f0 f1 := ⟨by simpa using heap_alloc_new W _, hB.size⟩
end Go.Proofs.Ytihedeofkhapiaa.Pr
end
section
namespace Go.Proofs.Ytihedeofkhapiaa.Pr
open Go.RowKit Go.Proofs.YtihedeofkhapiaaW.PrintWords Go.Proofs.YtihedeofkhapiaaW.PrintLast Go.Proofs.YtihedeofkhapiaaW.PrintMore
class inductive UpC : World → World → Prop
 | refl (w : World) : UpC w w
 | alloc {w w' : World} (o : Obj) (h : UpC w w') : UpC w (w'.alloc o)
 | drewN {w w' : World} (n : Nat) (h : UpC w w') : UpC w (w'.drewN n)
 | drew {w w' : World} (h : UpC w w') : UpC w w'.drew
instance UpC.iA {w w' : World} {o : Obj} [h : UpC w w'] : UpC w (w'.alloc o) := .alloc o h
instance UpC.iN {w w' : World} {n : Nat} [h : UpC w w'] : UpC w (w'.drewN n) := .drewN n h
instance UpC.iD {w w' : World} [h : UpC w w'] : UpC w w'.drew := .drew h
instance (priority := high) UpC.iR {w : World} : UpC w w := .refl w
theorem bU {w w' : World} {g : Nat} {o : Obj} (hb : w.heap[g]? = some o) [h : UpC w w'] : w'.heap[g]? = some o := by
 induction h with
 | refl => exact hb
 | alloc o _ ih => exact cz ih _
 | drewN n _ ih => exact fB ih _
 | drew _ ih => exact dO ih
theorem rU {α : Type} {d : Kd α} {e : Nat} {w w' : World} {base : Nat} {ok : Nat → Prop} {v : Value} {xs : List α} (hb : Kd.R d e w base ok v xs) [h : UpC w w'] : Kd.R d e w' base ok v xs := by
 induction h with
 | refl => exact hb
 | alloc o _ ih => exact Kd.SN ih _
 | drewN n _ ih => exact Kd.U1 ih _
 | drew _ ih => exact Kd.uQ ih
theorem nU {α : Type} {d : Kd α} {e : Nat} {w w' : World} {base : Nat} {ok : Nat → Prop} {v : Value} {xs : List α} (hb : Kd.N d e w base ok v xs) [h : UpC w w'] : Kd.N d e w' base ok v xs := by
 induction h with
 | refl => exact hb
 | alloc o _ ih => exact Kd.VG ih _
 | drewN n _ ih => exact Kd.Un ih _
 | drew _ ih => exact Kd.vS ih
theorem vU {α : Type} {d : Kd α} {e : Nat} {w w' : World} {base : Nat} {ok : Nat → Prop} {v : Value} {xs : List α} (hb : Kd.V d e w base ok v xs) [h : UpC w w'] : Kd.V d e w' base ok v xs := by
 induction h with
 | refl => exact hb
 | alloc o _ ih => exact Kd.TF ih _
 | drewN n _ ih => exact Kd.Tm ih _
 | drew _ ih => exact Kd.Gv ih
theorem iU {w0 w w' : World} {g : Nat} {x y : Int} (hb : aQ w0 w g x y) [h : UpC w w'] : aQ w0 w' g x y := by
 induction h with
 | refl => exact hb
 | alloc o _ ih => exact aQ.alloc ih _
 | drewN n _ ih => exact aQ.drewN ih _
 | drew _ ih => exact aQ.drew ih
theorem kU {w0 w w' : World} {g : Nat} (hb : aj w0 w g none) [h : UpC w w'] : aj w0 w' g none := by
 induction h with
 | refl => exact hb
 | alloc o _ ih => exact Ko ih _
 | drewN n _ ih => exact uC ih _
 | drew _ ih => exact ry ih
theorem lU {w0 w w' : World} (hb : Below w0.heap.size w0 w) [h : UpC w w'] : Below w0.heap.size w0 w' := by
 induction h with
 | refl => exact hb
 | alloc o _ ih => exact aH ih _
 | drewN n _ ih => exact dn ih _
 | drew _ ih => exact gN ih
def EB (s0_0 s0_1 : Int) : Int := Go.bits .xor .u64 (Go.bits .xor .u64 (Go.bits .xor .u64 (Go.bits .xor .u64 s0_0 (IntKind.u64.wrap (s0_0 * 8388608))) s0_1) ((Go.bits .xor .u64 s0_0 (IntKind.u64.wrap (s0_0 * 8388608))) / 131072)) (s0_1 / 67108864)
def dY.f (s0_0 : Int) (s0_1 : Int) : Option (Int × Int × Int) := if Go.bits .or .u64 s0_1 (EB s0_0 s0_1) = 0 then some (IntKind.u64.wrap (1 + s0_1), s0_1, 1) else some (IntKind.u64.wrap (EB s0_0 s0_1 + s0_1), s0_1, EB s0_0 s0_1)
def Da (s0_0 s0_1 : Int) : Int × Int := (s0_1, if Go.bits .or .u64 s0_1 (EB s0_0 s0_1) = 0 then 1 else EB s0_0 s0_1)
theorem QC (a b : Int) : ∃ r, dY.f a b = some (r, (Da a b).1, (Da a b).2) := by
 unfold dY.f Da; split
 ·exact ⟨_, rfl⟩
 ·exact ⟨_, rfl⟩
theorem Jo {P : Program} {c : Code} {Q : Exit → Act → World → Prop} {a : Act} {w0 w W : World} {g : Nat} {x y : Int} (hI : aQ w0 W g x y) (hB : Below w0.heap.size w0 W) (hK : aj w W g none)
 (k : ∀ W', aQ w0 W' g x y → Below w0.heap.size w0 W' → aj w W' g none → Code.wp P c Q a W') : Code.wp P c Q a W := k W hI hB hK
set_option maxHeartbeats 8000000 in
set_option maxRecDepth 100000 in
theorem dY.calls (g : Nat) (s0_0 : Int) (s0_1 : Int) (r1 : Int) (r2 : Int) (r3 : Int) (w0 w : World) (hI : aQ w0 w g s0_0 s0_1) (hB : Below w0.heap.size w0 w) (h : dY.f s0_0 s0_1 = some (r1, r2, r3)) :
 Calls Try.prog 53 #[.pointer (some ⟨g, 0, none⟩)] w fun e w' => e = .returned (.int .u64 r1) ∧ aQ w0 w' g r2 r3 ∧ Below w0.heap.size w0 w' ∧ aj w w' g none := by
 have HI0 := aa.mk hI; have HK := aa.mk (aj.refl w g none); have HB := aa.mk hB; obtain ⟨HGz3, hgz3⟩ := hI; have Qx := zH HGz3; have Qh := zz HGz3; have P5 := aN HGz3 0; have Ol := aN HGz3 1; clear HGz3 hgz3 hB; simp only [dY.f] at h; have Hh := aa.mk h; clear h; go_enter Try.func53, Try.ntmps53; go_wp2; go_quiet (fail); go_wp2; obtain ⟨X, hX⟩ : ∃ X, X = EB s0_0 s0_1 := ⟨_, rfl⟩; rw [show (Go.bits .xor .u64 (Go.bits .xor .u64 (Go.bits .xor .u64 (Go.bits .xor .u64 s0_0 (IntKind.u64.wrap (s0_0 * 8388608))) s0_1) ((Go.bits .xor .u64 s0_0 (IntKind.u64.wrap (s0_0 * 8388608))) / 131072)) (s0_1 / 67108864)) = X from hX.symm]; rw [← hX] at Hh; clear hX; refine Jo (x := s0_1) (y := X) (w0 := w0) (w := w) (g := g) ?_ ?_ ?_ ?_
 ·exact aQ.PU (aQ.abd (aQ.drewN HI0.out _) _) _
 ·exact df (df (dn HB.out _) (aQ.ge HI0.out)) (aQ.ge HI0.out)
 ·exact aj.Wm (aj.Wm (uC HK.out _) _ _) _ _
 intro W hI2 hB2 hK2; clear Qx Qh P5 Ol HI0 HB HK; have HI := aa.mk hI2; have HB := aa.mk hB2; have HK := aa.mk hK2; obtain ⟨HGz3, hgz3⟩ := hI2; have Qx := zH HGz3; have Qh := zz HGz3; have P5 := aN HGz3 0; have Ol := aN HGz3 1; clear HGz3 hgz3 hB2 hK2; by_cases c2 : Go.bits .or .u64 s0_1 X = 0
 ·have h := Hh.out; rw [if_pos c2] at h; have JK : (Go.bits .or .u64 s0_1 X == 0) = true := beq_iff_eq.mpr c2; clear c2 Hh; simp only [Option.some.injEq, Prod.mk.injEq] at h; obtain ⟨rfl, rfl, rfl⟩ := h; go_quiet (fail); go_wp2
  go_ret
  exact ⟨rfl, aQ.PU (aQ.drewN HI.out _) _, df (dn HB.out _) (aQ.ge HI.out), aj.Wm (uC HK.out _) _ _⟩
 ·have h := Hh.out; rw [if_neg c2] at h; have JK : (Go.bits .or .u64 s0_1 X == 0) = false := beq_eq_false_iff_ne.mpr c2; clear c2 Hh; simp only [Option.some.injEq, Prod.mk.injEq] at h; obtain ⟨rfl, rfl, rfl⟩ := h; go_quiet (fail); go_wp2
  go_ret
  exact ⟨rfl, aQ.drewN HI.out _, dn HB.out _, uC HK.out _⟩
end Go.Proofs.Ytihedeofkhapiaa.Pr
end
section
namespace Go.Proofs.Ytihedeofkhapiaa.Pr
open Go.RowKit Go.Proofs.YtihedeofkhapiaaW.PrintWords Go.Proofs.YtihedeofkhapiaaW.PrintLast Go.Proofs.YtihedeofkhapiaaW.PrintMore
attribute [local go_sem] nM nP ql qj ow oM qp qx
def aZ.f (s0_0 : Int) (s0_1 : Int) (a1 : Int) : Option (Int × Int × Int) := if a1 < 2 then (some (0, s0_0, s0_1)) else ((dY.f s0_0 s0_1).bind fun Cr => (if (IntKind.u64.wrap (a1)) = 0 then (none) else (some (wrap64 (Int.tmod (Cr.1 / 2048) (IntKind.u64.wrap (a1))), Cr.2.1, Cr.2.2))))
set_option maxHeartbeats 8000000 in
set_option maxRecDepth 100000 in
theorem aZ.calls (g : Nat) (s0_0 : Int) (s0_1 : Int) (a1 : Int) (r1 : Int) (r2 : Int) (r3 : Int) (w0 w : World) (hI : aQ w0 w g s0_0 s0_1) (hB : Below w0.heap.size w0 w) (h : aZ.f s0_0 s0_1 a1 = some (r1, r2, r3)) :
 Calls Try.prog 33 #[.pointer (some ⟨g, 0, none⟩), .int .i64 a1] w fun e w' => e = .returned (.int .i64 r1) ∧ aQ w0 w' g r2 r3 ∧ Below w0.heap.size w0 w' ∧ aj w w' g none := by
 have HI0 := aa.mk hI; have HK := aa.mk (aj.refl w g none); have HL := aa.mk hB.size; clear hI; have HW0 := aa.mk hB.size; have HB := aa.mk hB; clear hB; have H : (if a1 < 2 then (some (0, s0_0, s0_1)) else ((dY.f s0_0 s0_1).bind fun Cr => (if (IntKind.u64.wrap (a1)) = 0 then (none) else (some (wrap64 (Int.tmod (Cr.1 / 2048) (IntKind.u64.wrap (a1))), Cr.2.1, Cr.2.2))))) = some (r1, r2, r3) := h; clear h; by_cases c3 : a1 < 2
 ·rw [if_pos c3] at H; have xM : decide (a1 < 2) = true := decide_eq_true c3; clear c3; simp only [Option.some.injEq, Prod.mk.injEq] at H; obtain ⟨rfl, rfl, rfl⟩ := H; go_enter Try.func33, Try.ntmps33; go_wp2
  go_ret
  exact ⟨by rfl, by exact HI0.out, by exact HB.out, by exact HK.out⟩
 ·rw [if_neg c3] at H; have xM : decide (a1 < 2) = false := decide_eq_false c3; clear c3; replace H := Option.bind_eq_some_iff.mp H; obtain ⟨⟨agt, ag7, af3⟩, A40, H⟩ := H; dsimp only at H; have A4 := aa.mk A40; clear A40; by_cases c5 : (IntKind.u64.wrap (a1)) = 0
  ·rw [if_pos c5] at H; exact absurd H (by simp)
  ·rw [if_neg c5] at H; have KU : ((IntKind.u64.wrap (a1)) == 0) = false := beq_eq_false_iff_ne.mpr c5; have Yc : ((IntKind.u64.wrap (a1)) != 0) = true := bne_iff_ne.mpr c5; simp only [Option.some.injEq, Prod.mk.injEq] at H; obtain ⟨rfl, rfl, rfl⟩ := H; go_enter Try.func33, Try.ntmps33; go_wp2_with (((with_reducible refine bH (f := 53) rfl ?_); refine eU (some 8) rfl rfl Try.func53 (by kernel_rfl) rfl #[.pointer (some ⟨g, 0, none⟩)] rfl (by (simp only [List.map_toArray, List.map_cons, List.map_nil]); rfl) ?_; (with_reducible refine (dY.calls g s0_0 s0_1 agt ag7 af3 w0 _ ?side1 ?side2 A4.out).mono ?_); (case side1 => exact HI0.out); (case side2 => exact HB.out); rintro e w6 ⟨rfl, hi, hb, hk⟩; refine ⟨_, rfl, ?_⟩; replace HK := aa.mk (aj.trans (by exact HK.out) hk (.inl rfl)); replace HB := aa.mk (hb); replace HI0 := aa.mk (hi); clear hb; clear hk; (clear hi)))
   go_ret
   exact ⟨by rfl, by exact HI0.out, by exact HB.out, by exact HK.out⟩
def dA.f (s0_0 : Int) (s0_1 : Int) (a1 : Int) (a2 : Int) : Option (Bool × Int × Int) := (aZ.f s0_0 s0_1 a2).bind fun DY => (some (decide (DY.1 < a1), DY.2.1, DY.2.2))
set_option maxHeartbeats 8000000 in
set_option maxRecDepth 100000 in
theorem dA.calls (g : Nat) (s0_0 : Int) (s0_1 : Int) (a1 : Int) (a2 : Int) (r1 : Bool) (r2 : Int) (r3 : Int) (w0 w : World) (hI : aQ w0 w g s0_0 s0_1) (hB : Below w0.heap.size w0 w) (h : dA.f s0_0 s0_1 a1 a2 = some (r1, r2, r3)) :
 Calls Try.prog 32 #[.pointer (some ⟨g, 0, none⟩), .int .i64 a1, .int .i64 a2] w fun e w' => e = .returned (.bool r1) ∧ aQ w0 w' g r2 r3 ∧ Below w0.heap.size w0 w' ∧ aj w w' g none := by
 have HI0 := aa.mk hI; have HK := aa.mk (aj.refl w g none); have HL := aa.mk hB.size; clear hI; have HW0 := aa.mk hB.size; have HB := aa.mk hB; clear hB; have H : ((aZ.f s0_0 s0_1 a2).bind fun DY => (some (decide (DY.1 < a1), DY.2.1, DY.2.2))) = some (r1, r2, r3) := h; clear h; replace H := Option.bind_eq_some_iff.mp H; obtain ⟨⟨agK, agF, agE⟩, A40, H⟩ := H; dsimp only at H; have A4 := aa.mk A40; clear A40; simp only [Option.some.injEq, Prod.mk.injEq] at H; obtain ⟨rfl, rfl, rfl⟩ := H; go_enter Try.func32, Try.ntmps32; go_wp2_with (((with_reducible refine bH (f := 33) rfl ?_); refine eU (some 9) rfl rfl Try.func33 (by kernel_rfl) rfl #[.pointer (some ⟨g, 0, none⟩), .int .i64 a2] rfl (by (simp only [List.map_toArray, List.map_cons, List.map_nil]); rfl) ?_; (with_reducible refine (aZ.calls g s0_0 s0_1 a2 agK agF agE w0 _ ?side1 ?side2 A4.out).mono ?_); (case side1 => exact HI0.out); (case side2 => exact HB.out); rintro e w5 ⟨rfl, hi, hb, hk⟩; refine ⟨_, rfl, ?_⟩; replace HK := aa.mk (aj.trans (by exact HK.out) hk (.inl rfl)); replace HB := aa.mk (hb); replace HI0 := aa.mk (hi); clear hb; clear hk; (clear hi)))
 go_ret
 exact ⟨by rfl, by exact HI0.out, by exact HB.out, by exact HK.out⟩
def bZ.f (s0_0 : Int) (s0_1 : Int) (a1 : Int) (a2 : Int) : Option (Int × Int × Int) := (aZ.f s0_0 s0_1 (wrap64 ((wrap64 (a2 - a1)) + 1))).bind fun D5 => (some (wrap64 (a1 + D5.1), D5.2.1, D5.2.2))
set_option maxHeartbeats 8000000 in
set_option maxRecDepth 100000 in
theorem bZ.calls (g : Nat) (s0_0 : Int) (s0_1 : Int) (a1 : Int) (a2 : Int) (r1 : Int) (r2 : Int) (r3 : Int) (w0 w : World) (hI : aQ w0 w g s0_0 s0_1) (hB : Below w0.heap.size w0 w) (h : bZ.f s0_0 s0_1 a1 a2 = some (r1, r2, r3)) :
 Calls Try.prog 50 #[.pointer (some ⟨g, 0, none⟩), .int .i64 a1, .int .i64 a2] w fun e w' => e = .returned (.int .i64 r1) ∧ aQ w0 w' g r2 r3 ∧ Below w0.heap.size w0 w' ∧ aj w w' g none := by
 have HI0 := aa.mk hI; have HK := aa.mk (aj.refl w g none); have HL := aa.mk hB.size; clear hI; have HW0 := aa.mk hB.size; have HB := aa.mk hB; clear hB; have H : ((aZ.f s0_0 s0_1 (wrap64 ((wrap64 (a2 - a1)) + 1))).bind fun D5 => (some (wrap64 (a1 + D5.1), D5.2.1, D5.2.2))) = some (r1, r2, r3) := h; clear h; replace H := Option.bind_eq_some_iff.mp H; obtain ⟨⟨ag1, agY, ahJ⟩, A40, H⟩ := H; dsimp only at H; have A4 := aa.mk A40; clear A40; simp only [Option.some.injEq, Prod.mk.injEq] at H; obtain ⟨rfl, rfl, rfl⟩ := H; go_enter Try.func50, Try.ntmps50; go_wp2_with (((with_reducible refine bH (f := 33) rfl ?_); refine eU (some 13) rfl rfl Try.func33 (by kernel_rfl) rfl #[.pointer (some ⟨g, 0, none⟩), .int .i64 (wrap64 ((wrap64 (a2 - a1)) + 1))] rfl (by (simp only [List.map_toArray, List.map_cons, List.map_nil]); rfl) ?_; (with_reducible refine (aZ.calls g s0_0 s0_1 (wrap64 ((wrap64 (a2 - a1)) + 1)) ag1 agY ahJ w0 _ ?side1 ?side2 A4.out).mono ?_); (case side1 => exact HI0.out); (case side2 => exact HB.out); rintro e w5 ⟨rfl, hi, hb, hk⟩; refine ⟨_, rfl, ?_⟩; replace HK := aa.mk (aj.trans (by exact HK.out) hk (.inl rfl)); replace HB := aa.mk (hb); replace HI0 := aa.mk (hi); clear hb; clear hk; (clear hi)))
 go_ret
 exact ⟨by rfl, by exact HI0.out, by exact HB.out, by exact HK.out⟩
mutual
def aJ.l0 : Nat → Int → Int → Int → Int → Int → Int → List (S86) → Option (Int × Int × (List (S86)) × Int × Int)
 | 0, _, _, _, _, _, _, _ => none
 | k + 1, x7, x8, lC, lI, yT, xQ, wW => if x8 > 0 then (aJ.j1 k x7 x8 (decide (x7 < 26)) lC lI yT xQ wW) else (aJ.j1 k x7 x8 false lC lI yT xQ wW)
def aJ.j1 : Nat → Int → Int → Bool → Int → Int → Int → Int → List (S86) → Option (Int × Int × (List (S86)) × Int × Int)
 | 0, _, _, _, _, _, _, _, _ => none
 | k + 1, x7, x8, x27, lC, lI, yT, xQ, wW => if x27 = true then ((aZ.f lC lI (mn 4 (wrap64 (26 - x7)))).bind fun yS => ((bZ.f yS.2.1 yS.2.2 1 31).bind fun Cj => (if wW.length < 8796093022208 then (aJ.l0 k (wrap64 ((wrap64 (x7 + yS.1)) + 1)) (wrap64 (x8 - 1)) Cj.2.1 Cj.2.2 yT xQ (wW ++ [(⟨(wrap64 (65 + (wrap64 (x7 + yS.1)))) % 256, Cj.1⟩ : S86)])) else (none)))) else (some (yT, xQ, wW, lC, lI))
end
def aJ.f (k : Nat) (s0_0 : Int) (s0_1 : Int) (a1 : Int) : Option (Int × Int × (List (S86)) × Int × Int) := (bZ.f s0_0 s0_1 (-600) 300).bind fun yK => ((aZ.f yK.2.1 yK.2.2 200).bind fun Dv => ((bZ.f Dv.2.1 Dv.2.2 1 a1).bind fun Cc => (aJ.l0 k 0 Cc.1 Cc.2.1 Cc.2.2 yK.1 (wrap64 (yK.1 + Dv.1)) ([] : List (S86)))))
theorem aJ.gJ : ∀ k, (∀ y0 y1 y2 y3 y4 y5 y6, LeO (aJ.l0 k y0 y1 y2 y3 y4 y5 y6) (aJ.l0 (k + 1) y0 y1 y2 y3 y4 y5 y6)) ∧ (∀ y0 y1 y2 y3 y4 y5 y6 y7, LeO (aJ.j1 k y0 y1 y2 y3 y4 y5 y6 y7) (aJ.j1 (k + 1) y0 y1 y2 y3 y4 y5 y6 y7))
 | 0 => ⟨fun _ _ _ _ _ _ _ r h => by simp [aJ.l0] at h, fun _ _ _ _ _ _ _ _ r h => by simp [aJ.j1] at h⟩
 | k + 1 => by
  obtain ⟨ih0, ih1⟩ := aJ.gJ k; refine ⟨?_, ?_⟩
  ·intro y0 y1 y2 y3 y4 y5 y6; unfold aJ.l0
   repeat' first | (with_reducible exact ih1 _ _ _ _ _ _ _ _) | (with_reducible refine LeO.ite ?_ ?_)
  ·intro y0 y1 y2 y3 y4 y5 y6 y7; unfold aJ.j1
   repeat' first | (with_reducible exact ih0 _ _ _ _ _ _ _) | (with_reducible exact LeO.refl _) | (with_reducible refine LeO.ite ?_ ?_) | (with_reducible refine LeO.bind ?_ (fun _ => ?_))
theorem aJ.mono : ∀ a0 a1 a2 k, LeO (aJ.f k a0 a1 a2) (aJ.f (k + 1) a0 a1 a2) := by
 intro a0 a1 a2 k; obtain ⟨ih0, ih1⟩ := aJ.gJ k; unfold aJ.f
 repeat' first | (with_reducible exact ih0 _ _ _ _ _ _ _) | (with_reducible exact LeO.refl _) | (with_reducible refine LeO.bind ?_ (fun _ => ?_))
def aJ.T8 : Bool × List (List Nat × List Nat) := (true, [([], []), ([0], [0]), ([], []), ([2], [2]), ([3], [3]), ([], []), ([5], [5]), ([4, 6], [4, 6]), ([7], [7]), ([1, 8, 6], [1, 8]), ([0, 1, 2, 3, 4, 5, 6, 7, 8, 9], []), ([10, 9, 9, 0, 1, 2, 3, 4, 5, 6, 7, 8, 9], [9, 10])])
def aJ.B8 : List Nat := [0, 1, 0, 4, 12, 0, 32, 124, 252, 511, 1023, 2047]
theorem aJ.YA : mr .any (opsOf Try.f51 8) = aJ.T8 := by kernel_rfl
theorem aJ.OJ : lL aJ.T8.2 aJ.B8 = true := by kernel_rfl
set_option maxHeartbeats 8000000 in
set_option maxRecDepth 100000 in
theorem aJ.calls (k : Nat) (g : Nat) (s0_0 : Int) (s0_1 : Int) (a1 : Int) (r1 : Int) (r2 : Int) (r3 : List (S86)) (r4 : Int) (r5 : Int) (w0 w : World) (hI : aQ w0 w g s0_0 s0_1) (hB : Below w0.heap.size w0 w) (h : aJ.f k s0_0 s0_1 a1 = some (r1, r2, r3, r4, r5)) :
 Calls Try.prog 51 #[.pointer (some ⟨g, 0, none⟩), .int .i64 a1] w fun e w' => ∃ v2_ : Value, e = .returned (.agg #[.int .i64 r1, .int .i64 r2, v2_]) ∧ Kd.R k86 86 w' w.heap.size (fun _ => True) v2_ r3 ∧ aQ w0 w' g r4 r5 ∧ Below w0.heap.size w0 w' ∧ aj w w' g none := by
 have hu66 := Try.underlying66; have hu63 := Try.underlying63; have hu86 := Try.underlying86; have HI0 := aa.mk hI; have HK := aa.mk (aj.refl w g none); have HL := aa.mk hB.size; clear hI; have HW0 := aa.mk hB.size; have HB := aa.mk hB; clear hB; have H : ((bZ.f s0_0 s0_1 (-600) 300).bind fun yK => ((aZ.f yK.2.1 yK.2.2 200).bind fun Dv => ((bZ.f Dv.2.1 Dv.2.2 1 a1).bind fun Cc => (aJ.l0 k 0 Cc.1 Cc.2.1 Cc.2.2 yK.1 (wrap64 (yK.1 + Dv.1)) ([] : List (S86)))))) = some (r1, r2, r3, r4, r5) := h; clear h; replace H := Option.bind_eq_some_iff.mp H; obtain ⟨⟨pF, aa6, Z0⟩, A30, H⟩ := H; dsimp only at H; have A3 := aa.mk A30; clear A30; replace H := Option.bind_eq_some_iff.mp H; obtain ⟨⟨yo, X9, Yf⟩, A40, H⟩ := H; dsimp only at H; have A4 := aa.mk A40; clear A40; replace H := Option.bind_eq_some_iff.mp H; obtain ⟨⟨ac7, aaB, aa0⟩, A50, H⟩ := H; dsimp only at H; have A5 := aa.mk A50; clear A50; have H' := aa.mk H; clear H; go_enter Try.func51, Try.ntmps51; (go_wp2_with (first | ((with_reducible refine dm (N := 4) rfl ?_); refine dC ?hg (N := 4) ?hd (cs := #[.int .i64 0, .int .i64 0, .slice none 0 0]) (t := 66) ?hr ?_; (case hd => rfl); (case hg => rfl); (case hr => (go_simp; done)); intro vX hg w6 hbox hb; replace HB := aa.mk (ax (by exact HB.out) hb); have kN := aa.mk (hbox); have ab8 := aa.mk ((by rw [hg]; exact (bV (w := w) (g := g) (row := none) (by exact HK.out)) : w.heap.size ≤ vX)); have adk := aa.mk ((Nat.le_trans HW0.out (by rw [hg]; exact (bV (w := w) (g := g) (row := none) (by exact HK.out)) : w.heap.size ≤ vX) : w0.heap.size ≤ vX)); replace HK := aa.mk (aj.trans (by exact HK.out) (aj.of_below hb g none) (.inl rfl)); have GR := aa.mk ((by rw [hg]; exact Nat.ne_of_lt (aQ.lt (show aQ w0 _ g s0_0 s0_1 from by exact HI0.out)) : g ≠ vX)); have wI := aa.mk GR.out.symm; replace HI0 := aa.mk (aQ.below (by exact HI0.out) hb); clear hb hbox hg) | ((with_reducible refine bH (f := 50) rfl ?_); refine eU (some 11) rfl rfl Try.func50 (by kernel_rfl) rfl #[.pointer (some ⟨g, 0, none⟩), .int .i64 (-600), .int .i64 300] rfl (by (simp only [List.map_toArray, List.map_cons, List.map_nil]); rfl) ?_; (with_reducible refine (bZ.calls g s0_0 s0_1 (-600) 300 pF aa6 Z0 w0 _ ?side1 ?side2 A3.out).mono ?_); (case side1 => exact HI0.out); (case side2 => exact HB.out); rintro e w7 ⟨rfl, hi, hb, hk⟩; refine ⟨_, rfl, ?_⟩; replace kN := aa.mk (aj.blk hk (bU kN.out) wI.out (by simp)); replace HK := aa.mk (aj.trans (by exact HK.out) hk (.inl rfl)); replace HB := aa.mk (hb); replace HI0 := aa.mk (hi); clear hb; clear hk; (clear hi)) | ((with_reducible refine bH (f := 33) rfl ?_); refine eU (some 15) rfl rfl Try.func33 (by kernel_rfl) rfl #[.pointer (some ⟨g, 0, none⟩), .int .i64 200] rfl (by (simp only [List.map_toArray, List.map_cons, List.map_nil]); rfl) ?_; (with_reducible refine (aZ.calls g aa6 Z0 200 yo X9 Yf w0 _ ?side1 ?side2 A4.out).mono ?_); (case side1 => exact HI0.out); (case side2 => exact HB.out); rintro e w8 ⟨rfl, hi, hb, hk⟩; refine ⟨_, rfl, ?_⟩; replace kN := aa.mk (aj.blk hk (bU kN.out) wI.out (by simp)); replace HK := aa.mk (aj.trans (by exact HK.out) hk (.inl rfl)); replace HB := aa.mk (hb); replace HI0 := aa.mk (hi); clear hb; clear hk; (clear hi)) | ((with_reducible refine dm (N := 6) rfl ?_); refine dC ?hg (N := 6) ?hd (cs := #[.int .i64 0, .int .i64 0, .slice none 0 0]) (t := 66) ?hr ?_; (case hd => rfl); (case hg => rfl); (case hr => (go_simp; done)); intro uV hg w9 hbox hb; replace HB := aa.mk (ax (by exact HB.out) hb); have jv := aa.mk (hbox); have XH := aa.mk ((by rw [hg]; exact (bV (w := w) (g := g) (row := none) (by exact HK.out)) : w.heap.size ≤ uV)); have Xf := aa.mk ((Nat.le_trans HW0.out (by rw [hg]; exact (bV (w := w) (g := g) (row := none) (by exact HK.out)) : w.heap.size ≤ uV) : w0.heap.size ≤ uV)); replace HK := aa.mk (aj.trans (by exact HK.out) (aj.of_below hb g none) (.inl rfl)); have oz := aa.mk (nb_ hg (bU kN.out)); have zF := aa.mk oz.out.symm; replace kN := aa.mk (au (bU kN.out) hb); have xX := aa.mk ((by rw [hg]; exact Nat.ne_of_lt (aQ.lt (show aQ w0 _ g X9 Yf from by exact HI0.out)) : g ≠ uV)); have yZ := aa.mk xX.out.symm; replace HI0 := aa.mk (aQ.below (by exact HI0.out) hb); clear hb hbox hg; have ai1 := zF.out; have aiI := oz.out; have abz := yZ.out; have adg := xX.out; obtain ⟨Gw, FB, Lp, FC, Gd, LG⟩ := cells3 jv.out) | ((with_reducible refine bH (f := 50) rfl ?_); refine eU (some 21) rfl rfl Try.func50 (by kernel_rfl) rfl #[.pointer (some ⟨g, 0, none⟩), .int .i64 1, .int .i64 a1] rfl (by (simp only [List.map_toArray, List.map_cons, List.map_nil]); rfl) ?_; (with_reducible refine (bZ.calls g X9 Yf 1 a1 ac7 aaB aa0 w0 _ ?side1 ?side2 A5.out).mono ?_); (case side1 => repeat ((with_reducible first | exact HI0.out | refine aQ.far ?_ xX.out _))); (case side2 => repeat ((with_reducible first | exact HB.out | refine df ?_ Xf.out))); rintro e w13 ⟨rfl, hi, hb, hk⟩; refine ⟨_, rfl, ?_⟩; replace kN := aa.mk (aj.blk hk (g' := vX) (o := .cells #[.int .i64 0, .int .i64 0, .slice none 0 0] 66 (0, 0)) (by refine bA ?_ oz.out _; refine bA ?_ oz.out _; refine bA ?_ oz.out _; exact kN.out) wI.out (by simp)); replace jv := aa.mk (aj.blk hk (g' := uV) (o := .cells #[.int .i64 pF, .int .i64 (wrap64 (pF + yo)), .slice none 0 0] 66 (0, 0)) (by refine bS (cs := #[.int .i64 pF, .int .i64 (wrap64 (pF + yo)), .slice none 0 0]) ?_ 2 _ rfl; refine bS (cs := #[.int .i64 pF, .int .i64 0, .slice none 0 0]) ?_ 1 _ rfl; refine bS (cs := #[.int .i64 0, .int .i64 0, .slice none 0 0]) ?_ 0 _ rfl; exact jv.out) yZ.out (by simp)); replace HK := aa.mk (aj.trans (by repeat ((with_reducible first | exact HK.out | refine ma ?_ XH.out _))) hk (.inl rfl)); replace HB := aa.mk (hb); replace HI0 := aa.mk (hi); clear hb; clear hk; (clear hi)))); (go_loopg [7, 8] k (fun kq v7 v8 w' => ∃ (xh : Int) (Ec : Int) (kQ : Int) (kR : Int) (kz : List (S86)) (qU : Value), v7 = .int .i64 xh ∧ v8 = .int .i64 Ec ∧ aa (aJ.l0 kq xh Ec kQ kR pF (wrap64 (pF + yo)) kz = some (r1, r2, r3, r4, r5)) ∧ aa (kq ≤ k) ∧ aa (Kd.R k86 86 w' w.heap.size (fun _ => True) qU kz) ∧ aa (w'.heap[vX]? = some (.cells #[.int .i64 0, .int .i64 0, (.slice none 0 0)] 66 (0, 0))) ∧ aa (w'.heap[uV]? = some (.cells #[.int .i64 pF, .int .i64 (wrap64 (pF + yo)), qU] 66 (0, 0))) ∧ aa (aQ w0 w' g kQ kR) ∧ aa (aj w w' g none) ∧ aa (Below w0.heap.size w0 w'))); case atStart => exact ⟨(0), (ac7), (aaB), (aa0), (([] : List (S86))), (.slice none 0 0), (by rfl), (by rfl), H', ⟨Nat.le_refl _⟩, ⟨by exact Kd.uj _ _ _ _ _⟩, ⟨by exact kN.out⟩, ⟨by exact jv.out⟩, ⟨by exact HI0.out⟩, ⟨by exact HK.out⟩, ⟨by exact HB.out⟩⟩
 case round =>
  clear H' Gw FB Lp FC Gd LG; obtain ⟨xh, Ec, kQ, kR, kz, qU, rfl, rfl, HA, HK1, gT, kN, jv, HI0, HK, HB⟩ := hrel
  cases gk with
  | zero => exact absurd HA.out (by simp [aJ.l0])
  | succ k1 =>
   have H := HA.out; clear HA; simp only [aJ.l0] at H; have XR := aa.mk H; clear H; (go_upto_region 5 with (fail)); go_cut [27] (fun v27 wc => ∃ (kq : Nat) (F6 : Bool), v27 = .bool F6 ∧ aa (aJ.j1 kq xh Ec F6 kQ kR pF (wrap64 (pF + yo)) kz = some (r1, r2, r3, r4, r5)) ∧ aa (kq ≤ k1) ∧ aa (Kd.R k86 86 wc w.heap.size (fun _ => True) qU kz) ∧ aa (wc.heap[vX]? = some (.cells #[.int .i64 0, .int .i64 0, (.slice none 0 0)] 66 (0, 0))) ∧ aa (wc.heap[uV]? = some (.cells #[.int .i64 pF, .int .i64 (wrap64 (pF + yo)), qU] 66 (0, 0))) ∧ aa (aQ w0 wc g kQ kR) ∧ aa (aj w wc g none) ∧ aa (Below w0.heap.size w0 wc))
   case first =>
    have H := XR.out; clear XR; by_cases c15 : Ec > 0
    ·rw [if_pos c15] at H; have LB : decide (0 < Ec) = true := decide_eq_true c15; clear c15; (skip); have H' := aa.mk H; clear H; go_wp2; go_meet; case rel => exact ⟨_, (decide (xh < 26)), (by rfl), H', ⟨by have := HK1.out; omega⟩, ⟨by exact gT.out⟩, ⟨by exact kN.out⟩, ⟨by exact jv.out⟩, ⟨by exact HI0.out⟩, ⟨by exact HK.out⟩, ⟨by exact HB.out⟩⟩
    ·rw [if_neg c15] at H; have LB : decide (0 < Ec) = false := decide_eq_false c15; clear c15; (skip); have H' := aa.mk H; clear H; go_wp2; go_meet; case rel => exact ⟨_, (false), (by rfl), H', ⟨by have := HK1.out; omega⟩, ⟨by exact gT.out⟩, ⟨by exact kN.out⟩, ⟨by exact jv.out⟩, ⟨by exact HI0.out⟩, ⟨by exact HK.out⟩, ⟨by exact HB.out⟩⟩
   case rest =>
    clear XR; obtain ⟨kq, F6, rfl, HA, HJ13, gT, kN, jv, HI0, HK, HB⟩ := hcut
    cases kq with
    | zero => exact absurd HA.out (by simp [aJ.j1])
    | succ kj13 =>
     have H := HA.out; clear HA; simp only [aJ.j1] at H; by_cases c16 : F6 = true
     ·subst c16; rw [if_pos rfl] at H; obtain ⟨VI, WM⟩ : ∃ j_ : Int, (mn 4 (wrap64 (26 - xh))) = j_ := ⟨_, rfl⟩; (replace H : ((aZ.f kQ kR (VI)).bind fun yS => ((bZ.f yS.2.1 yS.2.2 1 31).bind fun Cj => (if kz.length < 8796093022208 then (aJ.l0 kj13 (wrap64 ((wrap64 (xh + yS.1)) + 1)) (wrap64 (Ec - 1)) Cj.2.1 Cj.2.2 pF (wrap64 (pF + yo)) (kz ++ [(⟨(wrap64 (65 + (wrap64 (xh + yS.1)))) % 256, Cj.1⟩ : S86)])) else (none)))) = some (r1, r2, r3, r4, r5) := by (rw [WM] at H; exact H)); have af9 : (if (wrap64 (26 - xh)) < 4 then (wrap64 (26 - xh)) else 4) = VI := WM; replace H := Option.bind_eq_some_iff.mp H; obtain ⟨⟨Kn, Y8, Yh⟩, abn, H⟩ := H; dsimp only at H; have A18 := aa.mk abn; clear abn; replace H := Option.bind_eq_some_iff.mp H; obtain ⟨⟨QY, Yp, XU⟩, PI, H⟩ := H; dsimp only at H; have A19 := aa.mk PI; clear PI; by_cases c20 : kz.length < 8796093022208
      ·rw [if_pos c20] at H; have Rk := aa.mk c20; clear c20; obtain ⟨Vw, QJ⟩ : ∃ y_ : List (S86), y_ = (kz ++ [(⟨(wrap64 (65 + (wrap64 (xh + Kn)))) % 256, QY⟩ : S86)]) := ⟨_, rfl⟩; (replace H : (aJ.l0 kj13 (wrap64 ((wrap64 (xh + Kn)) + 1)) (wrap64 (Ec - 1)) Yp XU pF (wrap64 (pF + yo)) Vw) = some (r1, r2, r3, r4, r5) := by (rw [QJ]; with_reducible exact H)); have abF := aa.mk QJ; clear QJ; have H' := aa.mk H; clear H; (go_wp2_with (((with_reducible refine bH (f := 33) rfl ?_); refine eU (some 35) rfl rfl Try.func33 (by kernel_rfl) rfl #[.pointer (some ⟨g, 0, none⟩), .int .i64 VI] rfl (by (simp only [List.map_toArray, List.map_cons, List.map_nil]); rfl) ?_; (with_reducible refine (aZ.calls g kQ kR VI Kn Y8 Yh w0 _ ?side1 ?side2 A18.out).mono ?_); (case side1 => exact HI0.out); (case side2 => exact HB.out); rintro e w21 ⟨rfl, hi, hb, hk⟩; refine ⟨_, rfl, ?_⟩; replace gT := aa.mk (Kd.cO (Kd.lN (aQ.apart (show aQ w0 _ g kQ kR from by exact HI0.out) (rU gT.out) (by decide)) hk (fun _ h => h.2)) (fun _ h => h.1)); replace kN := aa.mk (aj.blk hk (bU kN.out) wI.out (by simp)); replace jv := aa.mk (aj.blk hk (bU jv.out) yZ.out (by simp)); replace HK := aa.mk (aj.trans (by exact HK.out) hk (.inl rfl)); replace HB := aa.mk (hb); replace HI0 := aa.mk (hi); clear hb; clear hk; (clear hi)))); replace gT := aa.mk (Kd.uQ gT.out); replace kN := aa.mk (dO kN.out); replace jv := aa.mk (dO jv.out); replace HI0 := aa.mk (aQ.drew HI0.out); replace HK := aa.mk (ry HK.out); replace HB := aa.mk (gN HB.out); refine qH (n := 12) (S := fun w' => w'.cell? ⟨uV, 0, none⟩ = some (.int .i64 pF) ∧ w'.cell? ⟨uV, 1, none⟩ = some (.int .i64 (wrap64 (pF + yo))) ∧ w'.cell? ⟨uV, 2, none⟩ = some (qU)) (ds := [11]) (ba 12 0) (by kernel_rfl) rfl rfl ⟨(af jv.out 0).trans rfl, (af jv.out 1).trans rfl, (af jv.out 2).trans rfl⟩ (fun bR => ?_); refine mg aJ.YA aJ.OJ (fun HT_ HW_ => ?_); generalize w21.drew = w22 at gT kN jv HI0 HK HB bR ⊢; refine fU 0 37 (ba 12 1) HT_.out ?_
       refine fU 2 39 (ba 12 5) HT_.out ?_
       refine fU 3 40 (ba 12 13) HT_.out ?_
       refine fU 4 41 (ba 12 29) HT_.out ?_
       refine fU 5 42 (ba 12 61) HT_.out ?_
       refine tV 1 38 (ba 12 63) HT_.out HW_.out bR ?_
       refine on_ 6 (some 43) (ba 12 127) HT_.out (fun K hK => ?_); refine yA Try.func50 (by kernel_rfl) rfl #[.pointer (some ⟨g, 0, none⟩), .int .i64 1, .int .i64 31] (by rfl) rfl rfl (by (simp only [List.map_toArray, List.map_cons, List.map_nil]); rfl) ?_; (with_reducible refine (bZ.calls g Y8 Yh 1 31 QY Yp XU w0 _ ?side1 ?side2 A19.out).mono ?_); (case side1 => exact HI0.out); (case side2 => exact HB.out); rintro e w23 ⟨rfl, hi, hb, hk⟩; refine ⟨_, rfl, ?_⟩; replace gT := aa.mk (Kd.cO (Kd.lN (aQ.apart (show aQ w0 _ g Y8 Yh from by exact HI0.out) (rU gT.out) (by decide)) hk (fun _ h => h.2)) (fun _ h => h.1)); replace kN := aa.mk (aj.blk hk (bU kN.out) wI.out (by simp)); replace jv := aa.mk (aj.blk hk (bU jv.out) yZ.out (by simp)); replace HK := aa.mk (aj.trans (by exact HK.out) hk (.inl rfl)); replace HB := aa.mk (hb); replace HI0 := aa.mk (hi); (clear hb); (skip); (clear hk); (clear hi); refine hK.out _ _ ⟨(af jv.out 0).trans rfl, (af jv.out 1).trans rfl, (af jv.out 2).trans rfl⟩ (fun bR => ?_); clear hK K; refine mD ?_
       refine fU 7 44 (ba 12 255) HT_.out ?_
       refine on_ 8 (some 45) (ba 12 511) HT_.out (fun K hK => ?_); refine DX (w1 := ?_) (v := ?_) (by rfl) rfl ?_ ?_; rotate_left 2
       ·go_simp; constructor
        ·rfl
        ·rfl
       refine hK.out _ _ ⟨(af (cz jv.out _) 0).trans rfl, (af (cz jv.out _) 1).trans rfl, (af (cz jv.out _) 2).trans rfl⟩ (fun bR => ?_); clear hK K; refine mD ?_
       refine on_ 9 (some 46) (ba 12 1023) HT_.out (fun K hK => ?_); refine Kd.xq k86 w.heap.size (by rfl) (.tmp 38) (.tmp 45) 64 86 (.agg #[(.int .u8 0), (.int .i64 0)]) 16 rfl Try.underlying64 QN rfl (by decide) (by omega) qU kz (⟨(wrap64 (65 + (wrap64 (xh + Kn)))) % 256, QY⟩ : S86) [.int .u8 ((wrap64 (65 + (wrap64 (xh + Kn)))) % 256), .int .i64 QY] (fun _ => True) (fun _ => False) rfl rfl ?aP (fun _ hk => hk.elim) ?aF ?aO (Below.refl _ _) ?aS ?aL ?_; (case aP => exact uO _ _ _ (⟨(wrap64 (65 + (wrap64 (xh + Kn)))) % 256, QY⟩ : S86)); (case aF => exact (fun _ _ => trivial)); (case aO => exact (rU gT.out)); (case aS => exact (bV (w := w) (g := g) (row := none) (by exact HK.out))); (case aL => have := Rk.out; omega); intro akd w24 ho hb hg hat; rw [← abF.out] at ho; replace kN := aa.mk (bQ (bU kN.out) hg (Kd.mO gT.out kN.out (by decide))); replace jv := aa.mk (bQ (bU jv.out) hg (Kd.mO gT.out jv.out (by decide))); replace HI0 := aa.mk (aQ.grown (by exact HI0.out) hg (aQ.own_ne HI0.out gT.out (by decide))); replace HB := aa.mk (lT (by exact HB.out) HL.out hb); replace HK := aa.mk (aj.trans (by exact HK.out) (aj.pK hg g) (Kd.wY gT.out)); have XA := aa.mk (ho); clear gT ho hb hg hat; obtain ⟨Tf, UM, XJ⟩ := Kd.fM XA.out; (subst XJ); refine hK.out _ _ ⟨(af jv.out 0).trans rfl, (af jv.out 1).trans rfl, (af jv.out 2).trans rfl⟩ (fun bR => ?_); clear hK K; refine mD ?_
       refine fU 10 47 (ba 12 2047) HT_.out ?_
       refine JB 11 none (ba 12 4095) HT_.out (fun K hK => ?_); have hs26 : w24.cell? ⟨uV, 2, none⟩ = some (qU) := (af jv.out 2).trans rfl; have hfs26 := aN jv.out 2; have hns26_0 := oz.out; have hms26_0 := zF.out; refine yM (w1 := ?_) (by rfl) rfl ?_ ?_; rotate_left
       ·go_simp; rfl
       refine hK.out _ _ ?_; clear hK K; refine D9 HT_.out ?_; go_wp2; go_roundg kj13; (case measure => have := HK1.out; have := HJ13.out; omega); case rel => exact ⟨(wrap64 ((wrap64 (xh + Kn)) + 1)), (wrap64 (Ec - 1)), (Yp), (XU), (Vw), (.slice Tf Vw.length UM), (by rfl), (by rfl), H', ⟨by have := HK1.out; have := HJ13.out; omega⟩, ⟨by exact Kd.cO (Kd.lH (p := ⟨uV, 2, none⟩) (Kd.dX XA.out jv.out (by decide)) (fun _ hk => hk.2) (.slice Tf Vw.length UM)) (fun _ hk => trivial)⟩, ⟨by refine bA ?_ oz.out _; exact kN.out⟩, ⟨by refine bS (cs := #[.int .i64 pF, .int .i64 (wrap64 (pF + yo)), qU]) ?_ 2 _ rfl; exact jv.out⟩, ⟨by repeat ((with_reducible first | exact HI0.out | refine aQ.far ?_ xX.out _))⟩, ⟨by repeat ((with_reducible first | exact HK.out | refine ma ?_ XH.out _))⟩, ⟨by repeat ((with_reducible first | exact HB.out | refine df ?_ Xf.out))⟩⟩
      ·rw [if_neg c20] at H; exact absurd H (by simp)
     ·replace c16 := Bool.eq_false_iff.mpr c16; subst c16; rw [if_neg (show ¬ (false = true) by decide)] at H; simp only [Option.some.injEq, Prod.mk.injEq] at H; obtain ⟨rfl, rfl, rfl, rfl, rfl⟩ := H; have ajk := zF.out; have ajl := oz.out; have aiJ := yZ.out; have ah3 := xX.out; obtain ⟨T9, Tc, Vq, V4, TA, VF⟩ := cells3 jv.out; have aix := wI.out; have aih := GR.out; obtain ⟨UQ, VA, Uj, Vd, Vk, Tt⟩ := cells3 kN.out; obtain ⟨acd, acD, ahz⟩ := Kd.fM gT.out; subst ahz; go_wp2; refine bodyPost_ret (results_cell_row rfl _ _ vX 66 #[.int .i64 pF, .int .i64 (wrap64 (pF + yo)), .slice acd kz.length acD] (0, 0) _ rfl (by refine bS (cs := #[.int .i64 pF, .int .i64 (wrap64 (pF + yo)), .slice none 0 0]) ?_ 2 _ rfl; refine bS (cs := #[.int .i64 pF, .int .i64 0, .slice none 0 0]) ?_ 1 _ rfl; refine bS (cs := #[.int .i64 0, .int .i64 0, .slice none 0 0]) ?_ 0 _ rfl; exact kN.out) Try.underlying66 rfl (by kernel_rfl)) rfl ?_; exact ⟨_, by rfl, by exact Kd.cO (Kd.lH (p := ⟨vX, 2, none⟩) (Kd.lH (p := ⟨vX, 1, none⟩) (Kd.lH (p := ⟨vX, 0, none⟩) (Kd.dX gT.out kN.out (by decide)) (fun _ hk => hk.2) (.int .i64 pF)) (fun _ hk => hk.2) (.int .i64 (wrap64 (pF + yo)))) (fun _ hk => hk.2) (.slice acd kz.length acD)) (fun _ hk => trivial), by repeat ((with_reducible first | exact HI0.out | refine aQ.far ?_ GR.out _)), by repeat ((with_reducible first | exact HB.out | refine df ?_ adk.out)), by repeat ((with_reducible first | exact HK.out | refine ma ?_ ab8.out _))⟩
def dN.f (s0_0 : Int) (s0_1 : Int) (l1 : List Int) : Option (Int × Int × Int) := if (l1.length : Int) = 0 then (some (0, s0_0, s0_1)) else ((aZ.f s0_0 s0_1 (l1.length : Int)).bind fun vR => (if 0 ≤ vR.1 then (if vR.1 < (l1.length : Int) then (some (rd l1 vR.1, vR.2.1, vR.2.2)) else (none)) else (none)))
set_option maxHeartbeats 8000000 in
set_option maxRecDepth 100000 in
theorem dN.calls (g : Nat) (s0_0 : Int) (s0_1 : Int) (A1 : Option Addr) (c1 : Nat) (l1 : List Int) (r1 : Int) (r2 : Int) (r3 : Int) (w0 w : World) (hI : aQ w0 w g s0_0 s0_1) (hB : Below w0.heap.size w0 w) (hr1 : Kd.C (Kd.int .i64) w A1 l1.length l1) (hc1 : l1.length ≤ c1) (hf1 : ∀ ad, A1 = some ad → 0 < l1.length → ad.block ≠ g) (h : dN.f s0_0 s0_1 l1 = some (r1, r2, r3)) :
 Calls Try.prog 52 #[.pointer (some ⟨g, 0, none⟩), .slice A1 l1.length c1] w fun e w' => e = .returned (.int .i64 r1) ∧ aQ w0 w' g r2 r3 ∧ Below w0.heap.size w0 w' ∧ aj w w' g none := by
 have HR1 := aa.mk hr1; have HC1 := aa.mk hc1; clear hr1 hc1; have HI0 := aa.mk hI; have HK := aa.mk (aj.refl w g none); have HL := aa.mk hB.size; clear hI; have HW0 := aa.mk hB.size; have HB := aa.mk hB; clear hB; have H : (if (l1.length : Int) = 0 then (some (0, s0_0, s0_1)) else ((aZ.f s0_0 s0_1 (l1.length : Int)).bind fun vR => (if 0 ≤ vR.1 then (if vR.1 < (l1.length : Int) then (some (rd l1 vR.1, vR.2.1, vR.2.2)) else (none)) else (none)))) = some (r1, r2, r3) := h; clear h; by_cases c3 : (l1.length : Int) = 0
 ·rw [if_pos c3] at H; have xM : ((l1.length : Int) == 0) = true := beq_iff_eq.mpr c3; have Ee : ((l1.length : Int) != 0) = false := bne_eq_false_iff_eq.mpr c3; clear c3; simp only [Option.some.injEq, Prod.mk.injEq] at H; obtain ⟨rfl, rfl, rfl⟩ := H; go_enter Try.func52, Try.ntmps52; go_wp2
  go_ret
  exact ⟨by rfl, by exact HI0.out, by exact HB.out, by exact HK.out⟩
 ·rw [if_neg c3] at H; have xM : ((l1.length : Int) == 0) = false := beq_eq_false_iff_ne.mpr c3; have Ee : ((l1.length : Int) != 0) = true := bne_iff_ne.mpr c3; (have ajX : ¬ (l1 = []) := fun h_ => c3 (by rw [h_]; rfl)); replace H := Option.bind_eq_some_iff.mp H; obtain ⟨⟨Iw, ahr, agf⟩, A40, H⟩ := H; dsimp only at H; have A4 := aa.mk A40; clear A40; by_cases c5 : 0 ≤ Iw
  ·rw [if_pos c5] at H; have KU : decide (0 ≤ Iw) = true := decide_eq_true c5; clear c5; by_cases c6 : Iw < (l1.length : Int)
   ·rw [if_pos c6] at H; have agm : decide (Iw < (l1.length : Int)) = true := decide_eq_true c6; clear c6; simp only [Option.some.injEq, Prod.mk.injEq] at H; obtain ⟨rfl, rfl, rfl⟩ := H; go_enter Try.func52, Try.ntmps52; go_wp2_with (((with_reducible refine bH (f := 33) rfl ?_); refine eU (some 12) rfl rfl Try.func33 (by kernel_rfl) rfl #[.pointer (some ⟨g, 0, none⟩), .int .i64 (l1.length : Int)] rfl (by (simp only [List.map_toArray, List.map_cons, List.map_nil]); rfl) ?_; (with_reducible refine (aZ.calls g s0_0 s0_1 (l1.length : Int) Iw ahr agf w0 _ ?side1 ?side2 A4.out).mono ?_); (case side1 => exact HI0.out); (case side2 => exact HB.out); rintro e w7 ⟨rfl, hi, hb, hk⟩; refine ⟨_, rfl, ?_⟩; replace HK := aa.mk (aj.trans (by exact HK.out) hk (.inl rfl)); replace HB := aa.mk (hb); replace HI0 := aa.mk (hi); clear hb; clear hk; clear hi; have Zr : 0 ≤ (Iw : Int) := of_decide_eq_true (by with_reducible assumption); have Zj : Iw < (l1.length : Int) := of_decide_eq_true (by with_reducible assumption); obtain ⟨aig, e377, L9⟩ := Kd.GA HR1.out Iw Zr Zj; cases e377; replace L9 := MS HK.out L9 (by (rw [add_block]; exact hf1 _ rfl (by omega))); replace Zr := eq_true Zr; replace Zj := eq_true Zj))
    go_ret
    exact ⟨by rfl, by exact HI0.out, by exact HB.out, by exact HK.out⟩
   ·rw [if_neg c6] at H; exact absurd H (by simp)
  ·rw [if_neg c5] at H; exact absurd H (by simp)
mutual
def ag.l0 : Nat → Int → Int → Int → Int → Int → List (S66) → Int → Int → Int → Option ((List (S66)) × Int × Int × Int × (List (List (S27))) × Int × ByteArray × List Int × Int × Int)
 | 0, _, _, _, _, _, _, _, _, _ => none
 | k + 1, x2, x3, x11, lC, lI, gP, iJ, iC, jm => if x11 > 0 then ((aJ.f k lC lI x2).bind fun Hl => ((some (([(⟨(⟨Hl.1, Hl.2.1⟩ : S63), Hl.2.2.1⟩ : S66)] : List (S66)) : List (S66))).bind fun Dn => (if gP.length + Dn.length < 3518437208883 then (ag.l0 k x2 x3 (wrap64 (x11 - 1)) Hl.2.2.2.1 Hl.2.2.2.2 (gP ++ Dn) iJ iC jm) else (none)))) else ((aZ.f lC lI (gP.length : Int)).bind fun Ew => (if 0 ≤ Ew.1 then (if Ew.1 < (gP.length : Int) then ((bZ.f Ew.2.1 Ew.2.2 1 x3).bind fun Co => (ag.l1 k ((ah gP Ew.1).f1) 0 Co.1 Co.2.1 Co.2.2 gP iJ iC jm ([] : List (List (S27))) Ew.1 (⟨#[]⟩ : ByteArray) ([] : List Int))) else (none)) else (none)))
def ag.l1 : Nat → List (S86) → Int → Int → Int → Int → List (S66) → Int → Int → Int → List (List (S27)) → Int → ByteArray → List Int → Option ((List (S66)) × Int × Int × Int × (List (List (S27))) × Int × ByteArray × List Int × Int × Int)
 | 0, _, _, _, _, _, _, _, _, _, _, _, _, _ => none
 | k + 1, x13, x14, x15, lC, lI, gP, iJ, iC, jm, jF, jP, jB, jG => if x15 > 0 then ((aZ.f lC lI (x13.length : Int)).bind fun Dl => (if 0 ≤ Dl.1 then (if Dl.1 < (x13.length : Int) then ((aZ.f Dl.2.1 Dl.2.2 (wrap64 (iJ + 1))).bind fun Ch => ((aZ.f Ch.2.1 Ch.2.2 (wrap64 (iC + 1))).bind fun vC => (ag.l2 k x13 x14 x15 ((ai x13 Dl.1).f1) Ch.1 vC.1 0 vC.2.1 vC.2.2 gP iJ iC jm jF jP jB jG ((ai x13 Dl.1).f0) ((ai x13 Dl.1).f1)))) else (none)) else (none))) else ((dN.f lC lI (([0, 0, 1, 2] : List Int))).bind fun CE => (some (gP, iJ, iC, mn 40 (wrap64 (x14 + CE.1)), jF, jP, jB, jG, CE.2.1, CE.2.2)))
def ag.l2 : Nat → List (S86) → Int → Int → Int → Int → Int → Int → Int → Int → List (S66) → Int → Int → Int → List (List (S27)) → Int → ByteArray → List Int → Int → Int → Option ((List (S66)) × Int × Int × Int × (List (List (S27))) × Int × ByteArray × List Int × Int × Int)
 | 0, _, _, _, _, _, _, _, _, _, _, _, _, _, _, _, _, _, _, _ => none
 | k + 1, x13, x14, x15, x17, x18, x19, x20, lC, lI, gP, iJ, iC, jm, jF, jP, jB, jG, kT, jR => if x20 < 5 then (if 0 ≤ x20 then (if (Go.bits .and .i64 (shr .i64 jR x20) 1) = 1 then (if x18 > 0 then ((dA.f lC lI 1 3).bind fun Dt => (ag.j3 k x13 x14 x15 x17 x18 x19 x20 ((Go.bits .and .i64 (shr .i64 jR x20) 1) == 1) Dt.1 Dt.2.1 Dt.2.2 gP iJ iC jm jF jP jB jG kT jR)) else (ag.j3 k x13 x14 x15 x17 x18 x19 x20 ((Go.bits .and .i64 (shr .i64 jR x20) 1) == 1) false lC lI gP iJ iC jm jF jP jB jG kT jR)) else (ag.j3 k x13 x14 x15 x17 x18 x19 x20 ((Go.bits .and .i64 (shr .i64 jR x20) 1) == 1) false lC lI gP iJ iC jm jF jP jB jG kT jR)) else (none)) else ((dN.f lC lI (([0, 1, 1, 2, 3] : List Int))).bind fun Db => (ag.l3 k x13 x14 x15 x17 ([] : List (S27)) Db.1 Db.2.1 Db.2.2 gP iJ iC jm jF jP jB jG kT jR))
def ag.j3 : Nat → List (S86) → Int → Int → Int → Int → Int → Int → Bool → Bool → Int → Int → List (S66) → Int → Int → Int → List (List (S27)) → Int → ByteArray → List Int → Int → Int → Option ((List (S66)) × Int × Int × Int × (List (List (S27))) × Int × ByteArray × List Int × Int × Int)
 | 0, _, _, _, _, _, _, _, _, _, _, _, _, _, _, _, _, _, _, _, _, _ => none
 | k + 1, x13, x14, x15, x17, x18, x19, x20, x21, ahA, lC, lI, gP, iJ, iC, jm, jF, jP, jB, jG, kT, jR => if ahA = true then (if 0 ≤ x20 then (if x21 = true then (ag.l2 k x13 (wrap64 (x14 + 1)) x15 (wrap64 (x17 - (shl .i64 1 x20))) (wrap64 (x18 - 1)) x19 (wrap64 (x20 + 1)) lC lI gP iJ iC jm jF jP jB jG kT jR) else (if x19 > 0 then ((dA.f lC lI 1 3).bind fun qF => (if qF.1 = true then (ag.l2 k x13 (wrap64 ((wrap64 (x14 + 1)) + 1)) x15 (wrap64 ((wrap64 (x17 - (shl .i64 1 x20))) + (shl .i64 1 x20))) (wrap64 (x18 - 1)) (wrap64 (x19 - 1)) (wrap64 (x20 + 1)) qF.2.1 qF.2.2 gP iJ iC jm jF jP jB jG kT jR) else (ag.l2 k x13 (wrap64 (x14 + 1)) x15 (wrap64 (x17 - (shl .i64 1 x20))) (wrap64 (x18 - 1)) x19 (wrap64 (x20 + 1)) qF.2.1 qF.2.2 gP iJ iC jm jF jP jB jG kT jR))) else (ag.l2 k x13 (wrap64 (x14 + 1)) x15 (wrap64 (x17 - (shl .i64 1 x20))) (wrap64 (x18 - 1)) x19 (wrap64 (x20 + 1)) lC lI gP iJ iC jm jF jP jB jG kT jR))) else (none)) else (if x21 = true then (ag.l2 k x13 x14 x15 x17 x18 x19 (wrap64 (x20 + 1)) lC lI gP iJ iC jm jF jP jB jG kT jR) else (if x19 > 0 then ((dA.f lC lI 1 3).bind fun vT => (if vT.1 = true then (if 0 ≤ x20 then (ag.l2 k x13 (wrap64 (x14 + 1)) x15 (wrap64 (x17 + (shl .i64 1 x20))) x18 (wrap64 (x19 - 1)) (wrap64 (x20 + 1)) vT.2.1 vT.2.2 gP iJ iC jm jF jP jB jG kT jR) else (none)) else (ag.l2 k x13 x14 x15 x17 x18 x19 (wrap64 (x20 + 1)) vT.2.1 vT.2.2 gP iJ iC jm jF jP jB jG kT jR))) else (ag.l2 k x13 x14 x15 x17 x18 x19 (wrap64 (x20 + 1)) lC lI gP iJ iC jm jF jP jB jG kT jR)))
def ag.l3 : Nat → List (S86) → Int → Int → Int → List (S27) → Int → Int → Int → List (S66) → Int → Int → Int → List (List (S27)) → Int → ByteArray → List Int → Int → Int → Option ((List (S66)) × Int × Int × Int × (List (List (S27))) × Int × ByteArray × List Int × Int × Int)
 | 0, _, _, _, _, _, _, _, _, _, _, _, _, _, _, _, _, _, _ => none
 | k + 1, x13, x14, x15, x17, x22, x23, lC, lI, gP, iJ, iC, jm, jF, jP, jB, jG, kT, jR => if x23 > 0 then ((aZ.f lC lI 32).bind fun Om => ((dN.f Om.2.1 Om.2.2 (([31, 15, Om.1] : List Int))).bind fun su => ((some (([(⟨su.1, Go.bits .and .i64 x17 su.1⟩ : S27)] : List (S27)) : List (S27))).bind fun tH => (if x22.length + tH.length < 8796093022208 then (ag.l3 k x13 x14 x15 x17 (x22 ++ tH) (wrap64 (x23 - 1)) su.2.1 su.2.2 gP iJ iC jm jF jP jB jG kT jR) else (none))))) else ((some (([kT] : List Int) : List Int)).bind fun jk => (if jB.size + (strOfNums jk).size ≤ 9223372036854775807 then ((some (([x17] : List Int) : List Int)).bind fun mo => (if jG.length + mo.length < 17592186044416 then ((some (([x22] : List (List (S27))) : List (List (S27)))).bind fun tJ => (if jF.length + tJ.length < 5864062014805 then (ag.l1 k x13 x14 (wrap64 (x15 - 1)) lC lI gP iJ iC jm (jF ++ tJ) jP (jB ++ (strOfNums jk)) (jG ++ mo)) else (none))) else (none))) else (none)))
end
def ag.f (k : Nat) (s0_0 : Int) (s0_1 : Int) (a1 : Int) (a2 : Int) (a3 : Int) : Option ((List (S66)) × Int × Int × Int × (List (List (S27))) × Int × ByteArray × List Int × Int × Int) := (aZ.f s0_0 s0_1 3).bind fun DU => ((aZ.f DU.2.1 DU.2.2 3).bind fun vO => ((bZ.f vO.2.1 vO.2.2 1 a1).bind fun rz => (ag.l0 k a2 a3 rz.1 rz.2.1 rz.2.2 ([] : List (S66)) DU.1 vO.1 0)))
theorem ag.gJ : ∀ k, (∀ y0 y1 y2 y3 y4 y5 y6 y7 y8, LeO (ag.l0 k y0 y1 y2 y3 y4 y5 y6 y7 y8) (ag.l0 (k + 1) y0 y1 y2 y3 y4 y5 y6 y7 y8)) ∧ (∀ y0 y1 y2 y3 y4 y5 y6 y7 y8 y9 y10 y11 y12, LeO (ag.l1 k y0 y1 y2 y3 y4 y5 y6 y7 y8 y9 y10 y11 y12) (ag.l1 (k + 1) y0 y1 y2 y3 y4 y5 y6 y7 y8 y9 y10 y11 y12)) ∧ (∀ y0 y1 y2 y3 y4 y5 y6 y7 y8 y9 y10 y11 y12 y13 y14 y15 y16 y17 y18, LeO (ag.l2 k y0 y1 y2 y3 y4 y5 y6 y7 y8 y9 y10 y11 y12 y13 y14 y15 y16 y17 y18) (ag.l2 (k + 1) y0 y1 y2 y3 y4 y5 y6 y7 y8 y9 y10 y11 y12 y13 y14 y15 y16 y17 y18)) ∧ (∀ y0 y1 y2 y3 y4 y5 y6 y7 y8 y9 y10 y11 y12 y13 y14 y15 y16 y17 y18 y19 y20, LeO (ag.j3 k y0 y1 y2 y3 y4 y5 y6 y7 y8 y9 y10 y11 y12 y13 y14 y15 y16 y17 y18 y19 y20) (ag.j3 (k + 1) y0 y1 y2 y3 y4 y5 y6 y7 y8 y9 y10 y11 y12 y13 y14 y15 y16 y17 y18 y19 y20)) ∧ (∀ y0 y1 y2 y3 y4 y5 y6 y7 y8 y9 y10 y11 y12 y13 y14 y15 y16 y17, LeO (ag.l3 k y0 y1 y2 y3 y4 y5 y6 y7 y8 y9 y10 y11 y12 y13 y14 y15 y16 y17) (ag.l3 (k + 1) y0 y1 y2 y3 y4 y5 y6 y7 y8 y9 y10 y11 y12 y13 y14 y15 y16 y17))
 | 0 => ⟨fun _ _ _ _ _ _ _ _ _ r h => by simp [ag.l0] at h, fun _ _ _ _ _ _ _ _ _ _ _ _ _ r h => by simp [ag.l1] at h, fun _ _ _ _ _ _ _ _ _ _ _ _ _ _ _ _ _ _ _ r h => by simp [ag.l2] at h, fun _ _ _ _ _ _ _ _ _ _ _ _ _ _ _ _ _ _ _ _ _ r h => by simp [ag.j3] at h, fun _ _ _ _ _ _ _ _ _ _ _ _ _ _ _ _ _ _ r h => by simp [ag.l3] at h⟩
 | k + 1 => by
  obtain ⟨ih0, ih1, ih2, ih3, ih4⟩ := ag.gJ k; refine ⟨?_, ?_, ?_, ?_, ?_⟩; all_goals intros; (first | unfold ag.l0 | unfold ag.l1 | unfold ag.l2 | unfold ag.j3 | unfold ag.l3); repeat' first | (with_reducible exact ih0 _ _ _ _ _ _ _ _ _) | (with_reducible exact ih1 _ _ _ _ _ _ _ _ _ _ _ _ _) | (with_reducible exact ih2 _ _ _ _ _ _ _ _ _ _ _ _ _ _ _ _ _ _ _) | (with_reducible exact ih3 _ _ _ _ _ _ _ _ _ _ _ _ _ _ _ _ _ _ _ _ _) | (with_reducible exact ih4 _ _ _ _ _ _ _ _ _ _ _ _ _ _ _ _ _ _) | (with_reducible exact aJ.mono _ _ _ _) | (with_reducible exact LeO.refl _) | (with_reducible exact LeO.none _) | (with_reducible refine LeO.ite ?_ ?_) | (with_reducible refine LeO.bind ?_ (fun _ => ?_)) | exact ih0 _ _ _ _ _ _ _ _ _ | exact ih1 _ _ _ _ _ _ _ _ _ _ _ _ _ | exact ih2 _ _ _ _ _ _ _ _ _ _ _ _ _ _ _ _ _ _ _ | exact ih3 _ _ _ _ _ _ _ _ _ _ _ _ _ _ _ _ _ _ _ _ _ | exact ih4 _ _ _ _ _ _ _ _ _ _ _ _ _ _ _ _ _ _ | exact aJ.mono _ _ _ _ | exact LeO.none _ | refine LeO.ite ?_ ?_ | refine LeO.bind ?_ (fun _ => ?_)
theorem ag.mono : ∀ a0 a1 a2 a3 a4 k, LeO (ag.f k a0 a1 a2 a3 a4) (ag.f (k + 1) a0 a1 a2 a3 a4) := by
 intro a0 a1 a2 a3 a4 k; obtain ⟨ih0, ih1, ih2, ih3, ih4⟩ := ag.gJ k; unfold ag.f
 repeat' first
  | (with_reducible exact ih0 _ _ _ _ _ _ _ _ _)
  | (with_reducible exact ih1 _ _ _ _ _ _ _ _ _ _ _ _ _)
  | (with_reducible exact ih2 _ _ _ _ _ _ _ _ _ _ _ _ _ _ _ _ _ _ _)
  | (with_reducible exact ih3 _ _ _ _ _ _ _ _ _ _ _ _ _ _ _ _ _ _ _ _ _)
  | (with_reducible exact ih4 _ _ _ _ _ _ _ _ _ _ _ _ _ _ _ _ _ _)
  | (with_reducible exact aJ.mono _ _ _ _)
  | (with_reducible exact LeO.refl _)
  | (with_reducible exact LeO.none _)
  | (with_reducible refine LeO.ite ?_ ?_)
  | (with_reducible refine LeO.bind ?_ (fun _ => ?_))
  | exact ih0 _ _ _ _ _ _ _ _ _
  | exact ih1 _ _ _ _ _ _ _ _ _ _ _ _ _
  | exact ih2 _ _ _ _ _ _ _ _ _ _ _ _ _ _ _ _ _ _ _
  | exact ih3 _ _ _ _ _ _ _ _ _ _ _ _ _ _ _ _ _ _ _ _ _
  | exact ih4 _ _ _ _ _ _ _ _ _ _ _ _ _ _ _ _ _ _
  | exact aJ.mono _ _ _ _
  | exact LeO.none _
  | refine LeO.ite ?_ ?_
  | refine LeO.bind ?_ (fun _ => ?_)
def eG.f (a0 : Int) (a1 : Int) (a2 : Int) : Option (Bool) := if a1 ≤ a0 then (some (decide (a0 ≤ a2))) else (some false)
set_option maxHeartbeats 8000000 in
set_option maxRecDepth 100000 in
theorem eG.calls (a0 : Int) (a1 : Int) (a2 : Int) (r : Bool) (w : World) (h : eG.f a0 a1 a2 = some r) :
 Calls Try.prog 64 #[.int .i64 a0, .int .i64 a1, .int .i64 a2] w fun e w' => e = .returned (.bool r) ∧ gy w w' := by
 have H : (if a1 ≤ a0 then (some (decide (a0 ≤ a2))) else (some false)) = some r := h; clear h; by_cases c4 : a1 ≤ a0
 ·rw [if_pos c4] at H; have IZ : decide (a1 ≤ a0) = true := decide_eq_true c4; clear c4; obtain rfl := Option.some.inj H; go_enter Try.func64, Try.ntmps64; go_wp2
  go_ret
  exact ⟨by rfl, by exact gy.refl _⟩
 ·rw [if_neg c4] at H; have IZ : decide (a1 ≤ a0) = false := decide_eq_false c4; clear c4; obtain rfl := Option.some.inj H; go_enter Try.func64, Try.ntmps64; go_wp2
  go_ret
  exact ⟨by rfl, by exact gy.refl _⟩
mutual
def aA.j0 : Nat → Bool → Int → Int → List (S86) → Option (Int)
 | 0, _, _, _, _ => none
 | k + 1, x5, sJ, sH, nA => if x5 = true then (some 1) else (if sJ > sH then (some 5) else (if (nA.length : Int) = 0 then (some 7) else (if (nA.length : Int) > 8 then (some 6) else (aA.l0 k nA (nA.length : Int) 0 sJ sH nA))))
def aA.l0 : Nat → List (S86) → Int → Int → Int → Int → List (S86) → Option (Int)
 | 0, _, _, _, _, _, _ => none
 | k + 1, x35, x36, x37, sJ, sH, nA => if x37 < x36 then (if 0 ≤ x37 then (if x37 < (x35.length : Int) then (if ((ai x35 x37).f0) < 65 then (aA.j2 k x37 x35 x36 x37 (decide (((ai x35 x37).f0) < 65)) sJ sH nA ((ai x35 x37).f0) ((ai x35 x37).f1)) else (aA.j2 k x37 x35 x36 x37 (decide (((ai x35 x37).f0) > 90)) sJ sH nA ((ai x35 x37).f0) ((ai x35 x37).f1))) else (none)) else (none)) else (some 0)
def aA.j2 : Nat → Int → List (S86) → Int → Int → Bool → Int → Int → List (S86) → Int → Int → Option (Int)
 | 0, _, _, _, _, _, _, _, _, _, _ => none
 | k + 1, x3, x35, x36, x37, x42, sJ, sH, nA, Wl, TC => if x42 = true then (some 8) else ((eG.f TC 1 1023).bind fun Zc => (if Zc = true then (if x3 > 0 then (if 0 ≤ (wrap64 (x3 - 1)) then (if (wrap64 (x3 - 1)) < (nA.length : Int) then (if Wl ≤ ((ai nA (wrap64 (x3 - 1))).f0) then (some 5) else (aA.l0 k x35 x36 (wrap64 (x37 + 1)) sJ sH nA)) else (none)) else (none)) else (aA.l0 k x35 x36 (wrap64 (x37 + 1)) sJ sH nA)) else (some 1)))
end
def aA.f (k : Nat) (gu : Int) (aX : Int) (fP : List (S86)) : Option (Int) := (eG.f gu (-3000) 3000).bind fun Hr => (if Hr = true then ((eG.f aX (-3000) 3000).bind fun Nz => (aA.j0 k (!Nz) gu aX fP)) else (aA.j0 k (!Hr) gu aX fP))
theorem aA.gJ : ∀ k, (∀ y0 y1 y2 y3, LeO (aA.j0 k y0 y1 y2 y3) (aA.j0 (k + 1) y0 y1 y2 y3)) ∧ (∀ y0 y1 y2 y3 y4 y5, LeO (aA.l0 k y0 y1 y2 y3 y4 y5) (aA.l0 (k + 1) y0 y1 y2 y3 y4 y5)) ∧ (∀ y0 y1 y2 y3 y4 y5 y6 y7 y8 y9, LeO (aA.j2 k y0 y1 y2 y3 y4 y5 y6 y7 y8 y9) (aA.j2 (k + 1) y0 y1 y2 y3 y4 y5 y6 y7 y8 y9))
 | 0 => ⟨fun _ _ _ _ r h => by simp [aA.j0] at h, fun _ _ _ _ _ _ r h => by simp [aA.l0] at h, fun _ _ _ _ _ _ _ _ _ _ r h => by simp [aA.j2] at h⟩
 | k + 1 => by
  obtain ⟨ih0, ih1, ih2⟩ := aA.gJ k; refine ⟨?_, ?_, ?_⟩
  ·intro y0 y1 y2 y3; unfold aA.j0
   repeat' first | (with_reducible exact ih1 _ _ _ _ _ _) | (with_reducible exact LeO.refl _) | (with_reducible refine LeO.ite ?_ ?_)
  ·intro y0 y1 y2 y3 y4 y5; unfold aA.l0
   repeat' first | (with_reducible exact ih2 _ _ _ _ _ _ _ _ _ _) | (with_reducible exact LeO.refl _) | (with_reducible refine LeO.ite ?_ ?_)
  ·intro y0 y1 y2 y3 y4 y5 y6 y7 y8 y9; unfold aA.j2
   repeat' first | (with_reducible exact ih1 _ _ _ _ _ _) | (with_reducible exact LeO.refl _) | (with_reducible refine LeO.ite ?_ ?_) | (with_reducible refine LeO.bind ?_ (fun _ => ?_))
theorem aA.mono : ∀ a0 a1 a2 k, LeO (aA.f k a0 a1 a2) (aA.f (k + 1) a0 a1 a2) := by
 intro a0 a1 a2 k; obtain ⟨ih0, ih1, ih2⟩ := aA.gJ k; unfold aA.f
 repeat' first | (with_reducible exact ih0 _ _ _ _) | (with_reducible exact LeO.refl _) | (with_reducible refine LeO.ite ?_ ?_) | (with_reducible refine LeO.bind ?_ (fun _ => ?_))
set_option maxHeartbeats 8000000 in
set_option maxRecDepth 100000 in
theorem aA.calls (k : Nat) (gu : Int) (aX : Int) (Q0 : Option Addr) (Hq : Nat) (fP : List (S86)) (r : Int) (w : World) (XE : Kd.C k86 w Q0 fP.length fP) (WC : fP.length ≤ Hq) (h : aA.f k gu aX fP = some r) :
 Calls Try.prog 63 #[.agg #[.int .i64 gu, .int .i64 aX, .slice Q0 fP.length Hq]] w fun e w' => e = .returned (.int .i64 r) ∧ Below w.heap.size w w' := by
 have hu66 := Try.underlying66; have hu86 := Try.underlying86; have Dw := aa.mk XE; have aiA := aa.mk WC; clear XE WC; have HB := aa.mk (Below.refl w.heap.size w); have H : ((eG.f gu (-3000) 3000).bind fun Hr => (if Hr = true then ((eG.f aX (-3000) 3000).bind fun Nz => (aA.j0 k (!Nz) gu aX fP)) else (aA.j0 k (!Hr) gu aX fP))) = some r := h; clear h; replace H := Option.bind_eq_some_iff.mp H; obtain ⟨Hr, A20, H⟩ := H; have A2 := aa.mk A20; clear A20; have HC3 := aa.mk H; clear H; go_enter Try.func63, Try.ntmps63; (go_upto_if 5 with (first | ((with_reducible refine dm (N := 1) rfl ?_); refine dC ?hg (N := 1) ?hd (cs := #[.int .i64 gu, .int .i64 aX, .slice Q0 fP.length Hq]) (t := 66) ?hr ?_; (case hd => rfl); (case hg => rfl); (case hr => (go_simp; done)); intro yJ hg w4 hbox hb; have lF := aa.mk (hbox); have aiB := aa.mk ((by rw [hg]; exact (az (by exact HB.out)) : w.heap.size ≤ yJ)); have aij := aa.mk ((by rw [hg]; exact (az (by exact HB.out)) : w.heap.size ≤ yJ)); replace HB := aa.mk (ax (by exact HB.out) hb); clear hb hbox hg; obtain ⟨JD, J2, Kl, KX, JC, JS⟩ := cells3 lF.out) | (go_at_call 64; (with_reducible refine (eG.calls gu (-3000) 3000 Hr _ A2.out).mono ?_); rintro e w' ⟨rfl, ⟨nd, rfl⟩⟩))); (skip); go_cut [5] (fun v5 wc => ∃ (kq : Nat) (Uf : Bool), v5 = .bool Uf ∧ aa (aA.j0 kq Uf gu aX fP = some r) ∧ aa (kq ≤ k) ∧ aa (wc.heap[yJ]? = some (.cells #[.int .i64 gu, .int .i64 aX, (.slice Q0 fP.length Hq)] 66 (0, 0))) ∧ aa (Below w.heap.size w wc))
 case first =>
  have H := HC3.out; clear HC3; by_cases c6 : Hr = true
  ·subst c6; rw [if_pos rfl] at H; replace H := Option.bind_eq_some_iff.mp H; obtain ⟨Nz, A70, H⟩ := H; have A7 := aa.mk A70; clear A70; have H' := aa.mk H; clear H; obtain ⟨Cy, CU, Ga, CK, Dq, FY⟩ := cells3 lF.out; (go_wp2_with ((go_at_call 64; (with_reducible refine (eG.calls aX (-3000) 3000 Nz _ A7.out).mono ?_); rintro e w' ⟨rfl, ⟨nd, rfl⟩⟩))); go_meet; case rel => exact ⟨_, (!Nz), (by rfl), H', ⟨by omega⟩, ⟨by (with_reducible repeat (refine fB ?_ _)); exact lF.out⟩, ⟨by exact lU HB.out⟩⟩
  ·replace c6 := Bool.eq_false_iff.mpr c6; subst c6; rw [if_neg (show ¬ (false = true) by decide)] at H; have H' := aa.mk H; clear H; go_wp2; go_meet; case rel => exact ⟨_, (!false), (by rfl), H', ⟨by omega⟩, ⟨by (with_reducible repeat (refine fB ?_ _)); exact lF.out⟩, ⟨by exact lU HB.out⟩⟩
 case rest =>
  clear HC3 JD J2 Kl KX JC JS; obtain ⟨kq, Uf, rfl, HA, HJ2, lF, HB⟩ := hcut
  cases kq with
  | zero => exact absurd HA.out (by simp [aA.j0])
  | succ kj2 =>
   have H := HA.out; clear HA; simp only [aA.j0] at H; by_cases c9 : Uf = true
   ·subst c9; rw [if_pos rfl] at H; obtain rfl := Option.some.inj H; go_wp2
    go_ret
    exact ⟨by rfl, by exact HB.out⟩
   ·replace c9 := Bool.eq_false_iff.mpr c9; subst c9; rw [if_neg (show ¬ (false = true) by decide)] at H; by_cases c10 : gu > aX
    ·rw [if_pos c10] at H; have AO : decide (aX < gu) = true := decide_eq_true c10; clear c10; obtain rfl := Option.some.inj H; obtain ⟨adw, adK, afy, ad1, afc, afq⟩ := cells3 lF.out; go_wp2
     go_ret
     exact ⟨by rfl, by exact HB.out⟩
    ·rw [if_neg c10] at H; have AO : decide (aX < gu) = false := decide_eq_false c10; clear c10; by_cases c12 : (fP.length : Int) = 0
     ·rw [if_pos c12] at H; have xC : ((fP.length : Int) == 0) = true := beq_iff_eq.mpr c12; have LP : ((fP.length : Int) != 0) = false := bne_eq_false_iff_eq.mpr c12; clear c12; obtain rfl := Option.some.inj H; obtain ⟨Wh, Va, adD, S9, Sy, aee⟩ := cells3 lF.out; go_wp2
      go_ret
      exact ⟨by rfl, by exact HB.out⟩
     ·rw [if_neg c12] at H; have xC : ((fP.length : Int) == 0) = false := beq_eq_false_iff_ne.mpr c12; have LP : ((fP.length : Int) != 0) = true := bne_iff_ne.mpr c12; (have ab6 : ¬ (fP = []) := fun h_ => c12 (by rw [h_]; rfl)); by_cases c14 : (fP.length : Int) > 8
      ·rw [if_pos c14] at H; have zQ : decide (8 < (fP.length : Int)) = true := decide_eq_true c14; have GY : decide (8 < fP.length) = true := decide_eq_true (by omega); clear c14; obtain rfl := Option.some.inj H; obtain ⟨Vi, TU, Ut, Ux, Tw, Vn⟩ := cells3 lF.out; go_wp2
       go_ret
       exact ⟨by rfl, by exact HB.out⟩
      ·rw [if_neg c14] at H; have zQ : decide (8 < (fP.length : Int)) = false := decide_eq_false c14; have GY : decide (8 < fP.length) = false := decide_eq_false (by omega); clear c14; have H' := aa.mk H; clear H; obtain ⟨Gi, Gh, Fw, FX, Gt, Gm⟩ := cells3 lF.out; go_wp2; (go_loopg [37] kj2 (fun kq v37 w' => ∃ (gF : Int), v37 = .int .i64 gF ∧ aa (aA.l0 kq fP (fP.length : Int) gF gu aX fP = some r) ∧ aa (kq ≤ kj2) ∧ aa (w'.heap[yJ]? = some (.cells #[.int .i64 gu, .int .i64 aX, (.slice Q0 fP.length Hq)] 66 (0, 0))) ∧ aa (Below w.heap.size w w'))); case atStart => exact ⟨(0), (by rfl), H', ⟨Nat.le_refl _⟩, ⟨by (with_reducible skip); exact lF.out⟩, ⟨by exact HB.out⟩⟩
       case round =>
        clear H' AO c12 xC LP ab6 zQ GY Gi Gh Fw FX Gt Gm; obtain ⟨gF, rfl, HA, HK2, lF, HB⟩ := hrel
        cases gk with
        | zero => exact absurd HA.out (by simp [aA.l0])
        | succ k2 =>
         have H := HA.out; clear HA; simp only [aA.l0] at H; by_cases c17 : gF < (fP.length : Int)
         ·rw [if_pos c17] at H; have LF : decide (gF < (fP.length : Int)) = true := decide_eq_true c17; clear c17; by_cases c18 : 0 ≤ gF
          ·rw [if_pos c18] at H; have Hg : decide (0 ≤ gF) = true := decide_eq_true c18; clear c18; by_cases c19 : gF < (fP.length : Int)
           ·rw [if_pos c19] at H; have WE : decide (gF < (fP.length : Int)) = true := decide_eq_true c19; clear c19; have MX := aa.mk H; clear H; have Uu : 0 ≤ (gF : Int) := of_decide_eq_true (by with_reducible assumption); have Vx : gF < (fP.length : Int) := of_decide_eq_true (by with_reducible assumption); obtain ⟨yl, e107, Bq, Bv⟩ := mP Dw.out gF Uu Vx; cases e107; replace Bq := (HB.out.cell (World.block_lt_of_cell? w _ Bq)).trans Bq; replace Bv := (HB.out.cell (World.block_lt_of_cell? w _ Bv)).trans Bv; replace Uu := eq_true Uu; replace Vx := eq_true Vx; (go_upto_if 42 with (((with_reducible refine dm (N := 4) rfl ?_); refine dC ?hg (N := 4) ?hd (cs := #[.int .u8 0, .int .i64 0]) (t := 86) ?hr ?_; (case hd => rfl); (case hg => rfl); (case hr => (go_simp; done)); intro IM hg w21 hbox hb; have yx := aa.mk (hbox); have aiR := aa.mk ((by rw [hg]; exact (az (by exact HB.out)) : w.heap.size ≤ IM)); have WQ := aa.mk ((by rw [hg]; exact (az (by exact HB.out)) : w.heap.size ≤ IM)); replace HB := aa.mk (ax (by exact HB.out) hb); have mi := aa.mk ((by rw [hg]; exact Nat.ne_of_lt (bW (g := yJ) (o := .cells #[.int .i64 gu, .int .i64 aX, .slice (some yl) fP.length Hq] 66 (0, 0)) (bU lF.out)) : yJ ≠ IM)); have rq := aa.mk ((by rw [hg]; exact Nat.ne_of_gt (bW (g := yJ) (o := .cells #[.int .i64 gu, .int .i64 aX, .slice (some yl) fP.length Hq] 66 (0, 0)) (bU lF.out)) : IM ≠ yJ)); replace lF := aa.mk (au (bU lF.out) hb); clear hb hbox hg; have abX := rq.out; have aa8 := mi.out; obtain ⟨MC, MH, Mh, MI⟩ := mE yx.out))); (skip); go_cut [42] (fun v42 wc => ∃ (kq : Nat) (FU : Bool), v42 = .bool FU ∧ aa (aA.j2 kq gF fP (fP.length : Int) gF FU gu aX fP ((ai fP gF).f0) ((ai fP gF).f1) = some r) ∧ aa (kq ≤ k2) ∧ aa (wc.heap[yJ]? = some (.cells #[.int .i64 gu, .int .i64 aX, (.slice (some yl) fP.length Hq)] 66 (0, 0))) ∧ aa (wc.heap[IM]? = some (.cells #[.int .u8 ((ai fP gF).f0), .int .i64 ((ai fP gF).f1)] 86 (0, 0))) ∧ aa (Below w.heap.size w wc))
            case first =>
             have H := MX.out; clear MX; by_cases c24 : ((ai fP gF).f0) < 65
             ·rw [if_pos c24] at H; have G5 : decide (((ai fP gF).f0) < 65) = true := decide_eq_true c24; clear c24; (rw [G5]); have H' := aa.mk H; clear H; go_wp2; go_meet; case rel => exact ⟨_, (decide (((ai fP gF).f0) < 65)), (by simp [*]; done), H', ⟨by have := HJ2.out; have := HK2.out; omega⟩, ⟨by (with_reducible skip); refine bA ?_ mi.out _; (with_reducible skip); refine bA ?_ mi.out _; (with_reducible skip); exact lF.out⟩, ⟨by (with_reducible skip); refine bS (cs := #[.int .u8 ((ai fP gF).f0), .int .i64 0]) ?_ 1 _ rfl; (with_reducible skip); refine bS (cs := #[.int .u8 0, .int .i64 0]) ?_ 0 _ rfl; (with_reducible skip); exact yx.out⟩, ⟨by repeat ((with_reducible first | exact HB.out | refine df ?_ WQ.out))⟩⟩
             ·rw [if_neg c24] at H; have G5 : decide (((ai fP gF).f0) < 65) = false := decide_eq_false c24; clear c24; (rw [G5]); have H' := aa.mk H; clear H; have aid := rq.out; have ai5 := mi.out; obtain ⟨ae1, aet, aed, afw⟩ := mE yx.out; go_wp2; go_meet; case rel => exact ⟨_, (decide (((ai fP gF).f0) > 90)), (by rfl), H', ⟨by have := HJ2.out; have := HK2.out; omega⟩, ⟨by (with_reducible skip); refine bA ?_ mi.out _; (with_reducible skip); refine bA ?_ mi.out _; (with_reducible skip); exact lF.out⟩, ⟨by (with_reducible skip); refine bS (cs := #[.int .u8 ((ai fP gF).f0), .int .i64 0]) ?_ 1 _ rfl; (with_reducible skip); refine bS (cs := #[.int .u8 0, .int .i64 0]) ?_ 0 _ rfl; (with_reducible skip); exact yx.out⟩, ⟨by repeat ((with_reducible first | exact HB.out | refine df ?_ WQ.out))⟩⟩
            case rest =>
             clear MX LF Hg WE MC MH Mh MI Bq Bv Uu Vx; obtain ⟨kq, FU, rfl, HA, HJ19, lF, yx, HB⟩ := hcut
             cases kq with
             | zero => exact absurd HA.out (by simp [aA.j2])
             | succ kj19 =>
              have H := HA.out; clear HA; simp only [aA.j2] at H; by_cases c27 : FU = true
              ·subst c27; rw [if_pos rfl] at H; obtain rfl := Option.some.inj H; go_wp2
               go_ret
               exact ⟨by rfl, by exact HB.out⟩
              ·replace c27 := Bool.eq_false_iff.mpr c27; subst c27; rw [if_neg (show ¬ (false = true) by decide)] at H; replace H := Option.bind_eq_some_iff.mp H; obtain ⟨Zc, ZT, H⟩ := H; have A28 := aa.mk ZT; clear ZT; by_cases c29 : Zc = true
               ·subst c29; rw [if_pos rfl] at H; by_cases c30 : gF > 0
                ·rw [if_pos c30] at H; have Z9 : decide (0 < gF) = true := decide_eq_true c30; clear c30; obtain ⟨pz, WX⟩ : ∃ j_ : Int, (wrap64 (gF - 1)) = j_ := ⟨_, rfl⟩; (replace H : (if 0 ≤ (pz) then (if (pz) < (fP.length : Int) then (if ((ai fP gF).f0) ≤ ((ai fP (pz)).f0) then (some 5) else (aA.l0 kj19 fP (fP.length : Int) (wrap64 (gF + 1)) gu aX fP)) else (none)) else (none)) = some r := by (rw [WX] at H; exact H)); (skip); have af2 : (IntKind.i64.wrap (gF - 1)) = pz := (pR _).trans WX; by_cases c32 : 0 ≤ (pz)
                 ·rw [if_pos c32] at H; have WL : decide (0 ≤ (pz)) = true := decide_eq_true c32; clear c32; by_cases c33 : (pz) < (fP.length : Int)
                  ·rw [if_pos c33] at H; have RO : decide ((pz) < (fP.length : Int)) = true := decide_eq_true c33; clear c33; by_cases c34 : ((ai fP gF).f0) ≤ ((ai fP (pz)).f0)
                   ·rw [if_pos c34] at H; have aci : decide (((ai fP gF).f0) ≤ ((ai fP (pz)).f0)) = true := decide_eq_true c34; clear c34; obtain rfl := Option.some.inj H; have Sr := rq.out; have OO := mi.out; obtain ⟨Ur, Vf, Uv, TJ⟩ := mE yx.out; (go_wp2_with ((go_at_call 64; (with_reducible refine (eG.calls ((ai fP gF).f1) 1 1023 true _ A28.out).mono ?_); rintro e w' ⟨rfl, ⟨nd, rfl⟩⟩; obtain ⟨wD, wF, wK, wX, wL, wQ⟩ := cells3 lF.out; have rE : 0 ≤ ((pz) : Int) := of_decide_eq_true (by with_reducible assumption); have rP : (pz) < (fP.length : Int) := of_decide_eq_true (by with_reducible assumption); obtain ⟨vk, e110, iG, iM⟩ := mP Dw.out (pz) rE rP; obtain rfl : yl = vk := (by injection e110); replace iG := (HB.out.cell (World.block_lt_of_cell? w _ iG)).trans iG; replace iM := (HB.out.cell (World.block_lt_of_cell? w _ iM)).trans iM; replace rE := eq_true rE; replace rP := eq_true rP))); repeat (go_quiet (first | (go_at_call 64; (with_reducible refine (eG.calls ((ai fP gF).f1) 1 1023 true _ A28.out).mono ?_); rintro e w' ⟨rfl, ⟨nd, rfl⟩⟩; (try first | exact ⟨rfl, _, World.drewN_drewN _ _ _⟩ | exact ⟨rfl, _, Eq.trans (World.drewN_drewN _ _ _) (congrArg (World.drewN _) (Nat.add_assoc _ _ _))⟩); obtain ⟨wD, wF, wK, wX, wL, wQ⟩ := cells3 lF.out; have rE : 0 ≤ ((pz) : Int) := of_decide_eq_true (by first | (with_reducible assumption) | assumption); have rP : (pz) < (fP.length : Int) := of_decide_eq_true (by first | (with_reducible assumption) | assumption); obtain ⟨vk, e110, iG, iM⟩ := mP Dw.out (pz) rE rP; obtain rfl : yl = vk := (by injection e110); replace iG := (HB.out.cell (World.block_lt_of_cell? w _ iG)).trans iG; replace iM := (HB.out.cell (World.block_lt_of_cell? w _ iM)).trans iM; replace rE := eq_true rE; replace rP := eq_true rP)); go_wp2_with (first | (go_at_call 64; (with_reducible refine (eG.calls ((ai fP gF).f1) 1 1023 true _ A28.out).mono ?_); rintro e w' ⟨rfl, ⟨nd, rfl⟩⟩; (try first | exact ⟨rfl, _, World.drewN_drewN _ _ _⟩ | exact ⟨rfl, _, Eq.trans (World.drewN_drewN _ _ _) (congrArg (World.drewN _) (Nat.add_assoc _ _ _))⟩); obtain ⟨wD, wF, wK, wX, wL, wQ⟩ := cells3 lF.out; have rE : 0 ≤ ((pz) : Int) := of_decide_eq_true (by first | (with_reducible assumption) | assumption); have rP : (pz) < (fP.length : Int) := of_decide_eq_true (by first | (with_reducible assumption) | assumption); obtain ⟨vk, e110, iG, iM⟩ := mP Dw.out (pz) rE rP; obtain rfl : yl = vk := (by injection e110); replace iG := (HB.out.cell (World.block_lt_of_cell? w _ iG)).trans iG; replace iM := (HB.out.cell (World.block_lt_of_cell? w _ iM)).trans iM; replace rE := eq_true rE; replace rP := eq_true rP)))
                    go_ret
                    exact ⟨by rfl, by exact lU HB.out⟩
                   ·rw [if_neg c34] at H; have aci : decide (((ai fP gF).f0) ≤ ((ai fP (pz)).f0)) = false := decide_eq_false c34; clear c34; have H' := aa.mk H; clear H; have ait := rq.out; have aiz := mi.out; obtain ⟨adZ, adQ, aez, adX⟩ := mE yx.out; (go_wp2_with ((go_at_call 64; (with_reducible refine (eG.calls ((ai fP gF).f1) 1 1023 true _ A28.out).mono ?_); rintro e w' ⟨rfl, ⟨nd, rfl⟩⟩; obtain ⟨Le, ME, Lv, Mk, LC, KY⟩ := cells3 lF.out; have rE : 0 ≤ ((pz) : Int) := of_decide_eq_true (by with_reducible assumption); have rP : (pz) < (fP.length : Int) := of_decide_eq_true (by with_reducible assumption); obtain ⟨vk, e110, iG, iM⟩ := mP Dw.out (pz) rE rP; obtain rfl : yl = vk := (by injection e110); replace iG := (HB.out.cell (World.block_lt_of_cell? w _ iG)).trans iG; replace iM := (HB.out.cell (World.block_lt_of_cell? w _ iM)).trans iM; replace rE := eq_true rE; replace rP := eq_true rP))); (repeat (go_quiet (first | (go_at_call 64; (with_reducible refine (eG.calls ((ai fP gF).f1) 1 1023 true _ A28.out).mono ?_); rintro e w' ⟨rfl, ⟨nd, rfl⟩⟩; (try first | exact ⟨rfl, _, World.drewN_drewN _ _ _⟩ | exact ⟨rfl, _, Eq.trans (World.drewN_drewN _ _ _) (congrArg (World.drewN _) (Nat.add_assoc _ _ _))⟩); obtain ⟨Le, ME, Lv, Mk, LC, KY⟩ := cells3 lF.out; have rE : 0 ≤ ((pz) : Int) := of_decide_eq_true (by first | (with_reducible assumption) | assumption); have rP : (pz) < (fP.length : Int) := of_decide_eq_true (by first | (with_reducible assumption) | assumption); obtain ⟨vk, e110, iG, iM⟩ := mP Dw.out (pz) rE rP; obtain rfl : yl = vk := (by injection e110); replace iG := (HB.out.cell (World.block_lt_of_cell? w _ iG)).trans iG; replace iM := (HB.out.cell (World.block_lt_of_cell? w _ iM)).trans iM; replace rE := eq_true rE; replace rP := eq_true rP)); go_wp2_with (first | (go_at_call 64; (with_reducible refine (eG.calls ((ai fP gF).f1) 1 1023 true _ A28.out).mono ?_); rintro e w' ⟨rfl, ⟨nd, rfl⟩⟩; (try first | exact ⟨rfl, _, World.drewN_drewN _ _ _⟩ | exact ⟨rfl, _, Eq.trans (World.drewN_drewN _ _ _) (congrArg (World.drewN _) (Nat.add_assoc _ _ _))⟩); obtain ⟨Le, ME, Lv, Mk, LC, KY⟩ := cells3 lF.out; have rE : 0 ≤ ((pz) : Int) := of_decide_eq_true (by first | (with_reducible assumption) | assumption); have rP : (pz) < (fP.length : Int) := of_decide_eq_true (by first | (with_reducible assumption) | assumption); obtain ⟨vk, e110, iG, iM⟩ := mP Dw.out (pz) rE rP; obtain rfl : yl = vk := (by injection e110); replace iG := (HB.out.cell (World.block_lt_of_cell? w _ iG)).trans iG; replace iM := (HB.out.cell (World.block_lt_of_cell? w _ iM)).trans iM; replace rE := eq_true rE; replace rP := eq_true rP)))); go_roundg kj19; (case measure => have := HJ2.out; have := HK2.out; have := HJ19.out; omega); case rel => exact ⟨(wrap64 (gF + 1)), (by rfl), H', ⟨by have := HJ2.out; have := HK2.out; have := HJ19.out; omega⟩, ⟨by (with_reducible repeat (refine fB ?_ _)); exact lF.out⟩, ⟨by exact lU HB.out⟩⟩
                  ·rw [if_neg c33] at H; exact absurd H (by simp)
                 ·rw [if_neg c32] at H; exact absurd H (by simp)
                ·rw [if_neg c30] at H; have Z9 : decide (0 < gF) = false := decide_eq_false c30; clear c30; have H' := aa.mk H; clear H; have RJ := rq.out; have Ri := mi.out; obtain ⟨adC, aem, adR, aeP⟩ := mE yx.out; (go_wp2_with ((go_at_call 64; (with_reducible refine (eG.calls ((ai fP gF).f1) 1 1023 true _ A28.out).mono ?_); rintro e w' ⟨rfl, ⟨nd, rfl⟩⟩))); (repeat (go_quiet (first | (go_at_call 64; (with_reducible refine (eG.calls ((ai fP gF).f1) 1 1023 true _ A28.out).mono ?_); rintro e w' ⟨rfl, ⟨nd, rfl⟩⟩; (try first | exact ⟨rfl, _, World.drewN_drewN _ _ _⟩ | exact ⟨rfl, _, Eq.trans (World.drewN_drewN _ _ _) (congrArg (World.drewN _) (Nat.add_assoc _ _ _))⟩))); go_wp2_with (first | (go_at_call 64; (with_reducible refine (eG.calls ((ai fP gF).f1) 1 1023 true _ A28.out).mono ?_); rintro e w' ⟨rfl, ⟨nd, rfl⟩⟩; (try first | exact ⟨rfl, _, World.drewN_drewN _ _ _⟩ | exact ⟨rfl, _, Eq.trans (World.drewN_drewN _ _ _) (congrArg (World.drewN _) (Nat.add_assoc _ _ _))⟩))))); go_roundg kj19; (case measure => have := HJ2.out; have := HK2.out; have := HJ19.out; omega); case rel => exact ⟨(wrap64 (gF + 1)), (by rfl), H', ⟨by have := HJ2.out; have := HK2.out; have := HJ19.out; omega⟩, ⟨by (with_reducible repeat (refine fB ?_ _)); exact lF.out⟩, ⟨by exact lU HB.out⟩⟩
               ·replace c29 := Bool.eq_false_iff.mpr c29; subst c29; rw [if_neg (show ¬ (false = true) by decide)] at H; obtain rfl := Option.some.inj H; have Og := rq.out; have Oc := mi.out; obtain ⟨ae5, aft, afX, afi⟩ := mE yx.out; go_wp2_with ((go_at_call 64; (with_reducible refine (eG.calls ((ai fP gF).f1) 1 1023 false _ A28.out).mono ?_); rintro e w' ⟨rfl, ⟨nd, rfl⟩⟩))
                go_ret
                exact ⟨by rfl, by exact lU HB.out⟩
           ·rw [if_neg c19] at H; exact absurd H (by simp)
          ·rw [if_neg c18] at H; exact absurd H (by simp)
         ·rw [if_neg c17] at H; have LF : decide (gF < (fP.length : Int)) = false := decide_eq_false c17; clear c17; obtain rfl := Option.some.inj H; go_wp2
          go_ret
          exact ⟨by rfl, by exact HB.out⟩
def fE.f (a0 : Int) (a1 : Int) : Option (Int) := some (Go.bits .andNot .i64 a0 a1)
set_option maxHeartbeats 8000000 in
set_option maxRecDepth 100000 in
theorem fE.calls (a0 : Int) (a1 : Int) (r : Int) (w : World) (h : fE.f a0 a1 = some r) :
 Calls Try.prog 65 #[.int .i64 a0, .int .i64 a1] w fun e w' => e = .returned (.int .i64 r) ∧ gy w w' := by
 have H : (some (Go.bits .andNot .i64 a0 a1)) = some r := h; clear h; obtain rfl := Option.some.inj H; go_enter Try.func65, Try.ntmps65; go_wp2
 go_ret
 exact ⟨by first | rfl | (simp; done) | (simp [*]; done), by repeat (first | exact gy.refl _ | apply gy.step)⟩
mutual
def aI.l0 : Nat → List (S66) → Int → Int → List (S66) → Int → Int → Int → List (List (S27)) → Option (Int)
 | 0, _, _, _, _, _, _, _, _ => none
 | k + 1, x21, x22, x23, xN, wG, wN, wJ, qY => if x23 < x22 then (if 0 ≤ x23 then (if x23 < (x21.length : Int) then ((aA.f k ((ah x21 x23).f0.f0) ((ah x21 x23).f0.f1) ((ah x21 x23).f1)).bind fun Ea => (if Ea = 0 then (aI.l0 k x21 x22 (wrap64 (x23 + 1)) xN wG wN wJ qY) else (some Ea))) else (none)) else (none)) else ((eG.f wG 0 10).bind fun PS => (if PS = true then ((eG.f wN 0 10).bind fun V3 => (if V3 = true then ((eG.f wJ 0 40).bind fun Ug => (aI.j1 k (!Ug) xN wG wN wJ qY)) else (aI.j1 k (!V3) xN wG wN wJ qY))) else (aI.j1 k (!PS) xN wG wN wJ qY)))
def aI.j1 : Nat → Bool → List (S66) → Int → Int → Int → List (List (S27)) → Option (Int)
 | 0, _, _, _, _, _, _ => none
 | k + 1, x33, xN, wG, wN, wJ, qY => if x33 = true then (some 1) else (if (qY.length : Int) = 0 then (some 7) else (if (qY.length : Int) > 8 then (some 6) else (aI.l1 k qY (qY.length : Int) 0)))
def aI.l1 : Nat → List (List (S27)) → Int → Int → Option (Int)
 | 0, _, _, _ => none
 | k + 1, x57, x58, x59 => if x59 < x58 then (if 0 ≤ x59 then (if x59 < (x57.length : Int) then (if ((cu x57 x59).length : Int) > 4 then (some 6) else (aI.l2 k x57 x58 x59 (cu x57 x59) ((cu x57 x59).length : Int) 0)) else (none)) else (none)) else (some 0)
def aI.l2 : Nat → List (List (S27)) → Int → Int → List (S27) → Int → Int → Option (Int)
 | 0, _, _, _, _, _, _ => none
 | k + 1, x57, x58, x59, x66, x67, x68 => if x68 < x67 then (if 0 ≤ x68 then (if x68 < (x66.length : Int) then ((eG.f ((eu x66 x68).f0) 0 1023).bind fun O8 => (if O8 = true then ((eG.f ((eu x66 x68).f1) 0 1023).bind fun Uy => (aI.j4 k x57 x58 x59 x66 x67 x68 (!Uy) ((eu x66 x68).f0) ((eu x66 x68).f1))) else (aI.j4 k x57 x58 x59 x66 x67 x68 (!O8) ((eu x66 x68).f0) ((eu x66 x68).f1)))) else (none)) else (none)) else (aI.l1 k x57 x58 (wrap64 (x59 + 1)))
def aI.j4 : Nat → List (List (S27)) → Int → Int → List (S27) → Int → Int → Bool → Int → Int → Option (Int)
 | 0, _, _, _, _, _, _, _, _, _ => none
 | k + 1, x57, x58, x59, x66, x67, x68, x72, Vs, TZ => if x72 = true then (some 1) else ((fE.f TZ Vs).bind fun Gy => (if Gy = 0 then (aI.l2 k x57 x58 x59 x66 x67 (wrap64 (x68 + 1))) else (some 2)))
end
def aI.f (k : Nat) (aU : List (S66)) (aX : Int) (bJ : Int) (bT : Int) (aV : List (List (S27))) : Option (Int) := if (aU.length : Int) = 0 then (some 7) else (if (aU.length : Int) > 4 then (some 6) else (aI.l0 k aU (aU.length : Int) 0 aU aX bJ bT aV))
theorem aI.gJ : ∀ k, (∀ y0 y1 y2 y3 y4 y5 y6 y7, LeO (aI.l0 k y0 y1 y2 y3 y4 y5 y6 y7) (aI.l0 (k + 1) y0 y1 y2 y3 y4 y5 y6 y7)) ∧ (∀ y0 y1 y2 y3 y4 y5, LeO (aI.j1 k y0 y1 y2 y3 y4 y5) (aI.j1 (k + 1) y0 y1 y2 y3 y4 y5)) ∧ (∀ y0 y1 y2, LeO (aI.l1 k y0 y1 y2) (aI.l1 (k + 1) y0 y1 y2)) ∧ (∀ y0 y1 y2 y3 y4 y5, LeO (aI.l2 k y0 y1 y2 y3 y4 y5) (aI.l2 (k + 1) y0 y1 y2 y3 y4 y5)) ∧ (∀ y0 y1 y2 y3 y4 y5 y6 y7 y8, LeO (aI.j4 k y0 y1 y2 y3 y4 y5 y6 y7 y8) (aI.j4 (k + 1) y0 y1 y2 y3 y4 y5 y6 y7 y8))
 | 0 => ⟨fun _ _ _ _ _ _ _ _ r h => by simp [aI.l0] at h, fun _ _ _ _ _ _ r h => by simp [aI.j1] at h, fun _ _ _ r h => by simp [aI.l1] at h, fun _ _ _ _ _ _ r h => by simp [aI.l2] at h, fun _ _ _ _ _ _ _ _ _ r h => by simp [aI.j4] at h⟩
 | k + 1 => by
  obtain ⟨ih0, ih1, ih2, ih3, ih4⟩ := aI.gJ k; refine ⟨?_, ?_, ?_, ?_, ?_⟩
  ·intro y0 y1 y2 y3 y4 y5 y6 y7; unfold aI.l0
   repeat' first | (with_reducible exact ih0 _ _ _ _ _ _ _ _) | (with_reducible exact ih1 _ _ _ _ _ _) | (with_reducible exact aA.mono _ _ _ _) | (with_reducible exact LeO.refl _) | (with_reducible refine LeO.ite ?_ ?_) | (with_reducible refine LeO.bind ?_ (fun _ => ?_))
  ·intro y0 y1 y2 y3 y4 y5; unfold aI.j1
   repeat' first | (with_reducible exact ih2 _ _ _) | (with_reducible exact LeO.refl _) | (with_reducible refine LeO.ite ?_ ?_)
  ·intro y0 y1 y2; unfold aI.l1
   repeat' first | (with_reducible exact ih3 _ _ _ _ _ _) | (with_reducible exact LeO.refl _) | (with_reducible refine LeO.ite ?_ ?_)
  ·intro y0 y1 y2 y3 y4 y5; unfold aI.l2
   repeat' first | (with_reducible exact ih2 _ _ _) | (with_reducible exact ih4 _ _ _ _ _ _ _ _ _) | (with_reducible exact LeO.refl _) | (with_reducible refine LeO.ite ?_ ?_) | (with_reducible refine LeO.bind ?_ (fun _ => ?_))
  ·intro y0 y1 y2 y3 y4 y5 y6 y7 y8; unfold aI.j4
   repeat' first | (with_reducible exact ih3 _ _ _ _ _ _) | (with_reducible exact LeO.refl _) | (with_reducible refine LeO.ite ?_ ?_) | (with_reducible refine LeO.bind ?_ (fun _ => ?_))
theorem aI.mono : ∀ a0 a1 a2 a3 a4 k, LeO (aI.f k a0 a1 a2 a3 a4) (aI.f (k + 1) a0 a1 a2 a3 a4) := by
 intro a0 a1 a2 a3 a4 k; obtain ⟨ih0, ih1, ih2, ih3, ih4⟩ := aI.gJ k; unfold aI.f
 repeat' first | (with_reducible exact ih0 _ _ _ _ _ _ _ _) | (with_reducible exact LeO.refl _) | (with_reducible refine LeO.ite ?_ ?_)
set_option maxHeartbeats 8000000 in
set_option maxRecDepth 100000 in
theorem aI.calls (k : Nat) (eB : Option Addr) (dQ : Nat) (aU : List (S66)) (aX : Int) (bJ : Int) (bT : Int) (dZ : Option Addr) (dP : Nat) (aV : List (List (S27))) (r : Int) (w : World) (mG : Kd.C k66 w eB aU.length aU) (oG : aU.length ≤ dQ) (mH : Kd.C (Kd.slice 27 k27) w dZ aV.length aV) (oC : aV.length ≤ dP) (h : aI.f k aU aX bJ bT aV = some r) :
 Calls Try.prog 40 #[.agg #[.slice eB aU.length dQ, .int .i64 aX, .int .i64 bJ, .int .i64 bT, .slice dZ aV.length dP]] w fun e w' => e = .returned (.int .i64 r) ∧ Below w.heap.size w w' := by
 have hu25 := Try.underlying25; have hu66 := Try.underlying66; have hu27 := Try.underlying27; have qP := aa.mk mG; have uf := aa.mk oG; clear mG oG; have qO := aa.mk mH; have tQ := aa.mk oC; clear mH oC; have HB := aa.mk (Below.refl w.heap.size w); have H : (if (aU.length : Int) = 0 then (some 7) else (if (aU.length : Int) > 4 then (some 6) else (aI.l0 k aU (aU.length : Int) 0 aU aX bJ bT aV))) = some r := h; clear h; by_cases c2 : (aU.length : Int) = 0
 ·rw [if_pos c2] at H; have JK : ((aU.length : Int) == 0) = true := beq_iff_eq.mpr c2; have abG : ((aU.length : Int) != 0) = false := bne_eq_false_iff_eq.mpr c2; clear c2; obtain rfl := Option.some.inj H; go_enter Try.func40, Try.ntmps40; go_wp2_with (((with_reducible refine dm (N := 1) rfl ?_); refine dC ?hg (N := 1) ?hd (cs := #[.slice eB aU.length dQ, .int .i64 aX, .int .i64 bJ, .int .i64 bT, .slice dZ aV.length dP]) (t := 25) ?hr ?_; (case hd => rfl); (case hg => rfl); (case hr => (go_simp; done)); intro ll hg w3 hbox hb; have gW := aa.mk (hbox); have WP := aa.mk ((by rw [hg]; exact (az (by exact HB.out)) : w.heap.size ≤ ll)); have Xa := aa.mk ((by rw [hg]; exact (az (by exact HB.out)) : w.heap.size ≤ ll)); replace HB := aa.mk (ax (by exact HB.out) hb); clear hb hbox hg; obtain ⟨ahO, ahw, agJ, aht, af7, ag0, ahQ, agD, ahW, ahu⟩ := cells5 gW.out))
  go_ret
  exact ⟨by rfl, by exact HB.out⟩
 ·rw [if_neg c2] at H; have JK : ((aU.length : Int) == 0) = false := beq_eq_false_iff_ne.mpr c2; have abG : ((aU.length : Int) != 0) = true := bne_iff_ne.mpr c2; (have ag5 : ¬ (aU = []) := fun h_ => c2 (by rw [h_]; rfl)); by_cases c5 : (aU.length : Int) > 4
  ·rw [if_pos c5] at H; have KU : decide (4 < (aU.length : Int)) = true := decide_eq_true c5; have Yc : decide (4 < aU.length) = true := decide_eq_true (by omega); clear c5; obtain rfl := Option.some.inj H; go_enter Try.func40, Try.ntmps40; go_wp2_with (((with_reducible refine dm (N := 1) rfl ?_); refine dC ?hg (N := 1) ?hd (cs := #[.slice eB aU.length dQ, .int .i64 aX, .int .i64 bJ, .int .i64 bT, .slice dZ aV.length dP]) (t := 25) ?hr ?_; (case hd => rfl); (case hg => rfl); (case hr => (go_simp; done)); intro ll hg w6 hbox hb; have gW := aa.mk (hbox); have WP := aa.mk ((by rw [hg]; exact (az (by exact HB.out)) : w.heap.size ≤ ll)); have Xa := aa.mk ((by rw [hg]; exact (az (by exact HB.out)) : w.heap.size ≤ ll)); replace HB := aa.mk (ax (by exact HB.out) hb); clear hb hbox hg; obtain ⟨ahU, ahV, agT, agp, ag8, agc, ahx, agL, af6, ahL⟩ := cells5 gW.out))
   go_ret
   exact ⟨by rfl, by exact HB.out⟩
  ·rw [if_neg c5] at H; have KU : decide (4 < (aU.length : Int)) = false := decide_eq_false c5; have Yc : decide (4 < aU.length) = false := decide_eq_false (by omega); clear c5; have H' := aa.mk H; clear H; go_enter Try.func40, Try.ntmps40; (go_wp2_with (((with_reducible refine dm (N := 1) rfl ?_); refine dC ?hg (N := 1) ?hd (cs := #[.slice eB aU.length dQ, .int .i64 aX, .int .i64 bJ, .int .i64 bT, .slice dZ aV.length dP]) (t := 25) ?hr ?_; (case hd => rfl); (case hg => rfl); (case hr => (go_simp; done)); intro ll hg w8 hbox hb; have gW := aa.mk (hbox); have WP := aa.mk ((by rw [hg]; exact (az (by exact HB.out)) : w.heap.size ≤ ll)); have Xa := aa.mk ((by rw [hg]; exact (az (by exact HB.out)) : w.heap.size ≤ ll)); replace HB := aa.mk (ax (by exact HB.out) hb); clear hb hbox hg; obtain ⟨PZ, Pp, Y6, X3, Yg, Qm, Pj, X6, Zv, Yz⟩ := cells5 gW.out))); (go_loopg [23] k (fun kq v23 w' => ∃ (il : Int), v23 = .int .i64 il ∧ aa (aI.l0 kq aU (aU.length : Int) il aU aX bJ bT aV = some r) ∧ aa (kq ≤ k) ∧ aa (w'.heap[ll]? = some (.cells #[(.slice eB aU.length dQ), .int .i64 aX, .int .i64 bJ, .int .i64 bT, (.slice dZ aV.length dP)] 25 (0, 0))) ∧ aa (Below w.heap.size w w'))); case atStart => exact ⟨(0), (by rfl), H', ⟨Nat.le_refl _⟩, ⟨by (with_reducible skip); exact gW.out⟩, ⟨by exact HB.out⟩⟩
   case round =>
    clear H' c2 JK abG ag5 KU Yc PZ Pp Y6 X3 Yg Qm Pj X6 Zv Yz; obtain ⟨il, rfl, HA, HK1, gW, HB⟩ := hrel
    cases gk with
    | zero => exact absurd HA.out (by simp [aI.l0])
    | succ k1 =>
     have H := HA.out; clear HA; simp only [aI.l0] at H; by_cases c10 : il < (aU.length : Int)
     ·rw [if_pos c10] at H; have AO : decide (il < (aU.length : Int)) = true := decide_eq_true c10; clear c10; by_cases c11 : 0 ≤ il
      ·rw [if_pos c11] at H; have Fb : decide (0 ≤ il) = true := decide_eq_true c11; clear c11; by_cases c12 : il < (aU.length : Int)
       ·rw [if_pos c12] at H; have xC : decide (il < (aU.length : Int)) = true := decide_eq_true c12; clear c12; replace H := Option.bind_eq_some_iff.mp H; obtain ⟨Ea, aac, H⟩ := H; have A13 := aa.mk aac; clear aac; by_cases c14 : Ea = 0
        ·rw [if_pos c14] at H; have zQ : (Ea == 0) = true := beq_iff_eq.mpr c14; have GY : (Ea != 0) = false := bne_eq_false_iff_eq.mpr c14; clear c14; have H' := aa.mk H; clear H; have KQ : 0 ≤ (il : Int) := of_decide_eq_true (by with_reducible assumption); have Jn : il < (aU.length : Int) := of_decide_eq_true (by with_reducible assumption); obtain ⟨CS, A112_2, c112_2, e112, uD, uJ, uB, yX, xZ⟩ := qf qP.out il KQ Jn; cases e112; replace uD := (HB.out.cell (World.block_lt_of_cell? w _ uD)).trans uD; replace uJ := (HB.out.cell (World.block_lt_of_cell? w _ uJ)).trans uJ; replace uB := (HB.out.cell (World.block_lt_of_cell? w _ uB)).trans uB; have GK := aa.mk xZ; have FW := aa.mk yX; clear xZ yX; replace KQ := eq_true KQ; replace Jn := eq_true Jn; (go_wp2_with (first | ((with_reducible refine dm (N := 4) rfl ?_); refine dC ?hg (N := 4) ?hd (cs := #[.int .i64 0, .int .i64 0, .slice none 0 0]) (t := 66) ?hr ?_; (case hd => rfl); (case hg => rfl); (case hr => (go_simp; done)); intro vz hg w15 hbox hb; have CW := aa.mk (hbox); have acP := aa.mk ((by rw [hg]; exact (az (by exact HB.out)) : w.heap.size ≤ vz)); have Iu := aa.mk ((by rw [hg]; exact (az (by exact HB.out)) : w.heap.size ≤ vz)); replace HB := aa.mk (ax (by exact HB.out) hb); have nu := aa.mk ((by rw [hg]; exact Nat.ne_of_lt (bW (g := ll) (o := .cells #[.slice (some CS) aU.length dQ, .int .i64 aX, .int .i64 bJ, .int .i64 bT, .slice dZ aV.length dP] 25 (0, 0)) (bU gW.out)) : ll ≠ vz)); have zK := aa.mk ((by rw [hg]; exact Nat.ne_of_gt (bW (g := ll) (o := .cells #[.slice (some CS) aU.length dQ, .int .i64 aX, .int .i64 bJ, .int .i64 bT, .slice dZ aV.length dP] 25 (0, 0)) (bU gW.out)) : vz ≠ ll)); replace gW := aa.mk (au (bU gW.out) hb); clear hb hbox hg; have aiF := zK.out; have aic := nu.out; obtain ⟨Lb, K6, Lg, Mx, Lh, Lj⟩ := cells3 CW.out) | ((with_reducible refine bH (f := 63) rfl ?_); refine eU (some 28) rfl rfl Try.func63 (by kernel_rfl) rfl #[.agg #[.int .i64 ((ah aU il).f0.f0), .int .i64 ((ah aU il).f0.f1), .slice A112_2 ((ah aU il).f1).length c112_2]] rfl (by (simp only [List.map_toArray, List.map_cons, List.map_nil]); rfl) ?_; (with_reducible refine (aA.calls k1 ((ah aU il).f0.f0) ((ah aU il).f0.f1) _ _ ((ah aU il).f1) Ea _ ?side1 ?side2 A13.out).mono ?_); (case side1 => exact Kd.aY GK.out (by repeat ((with_reducible first | exact HB.out | refine df ?_ Iu.out)))); (case side2 => exact FW.out); rintro e w18 ⟨rfl, hb⟩; refine ⟨_, rfl, ?_⟩; replace gW := aa.mk (au (g := ll) (o := .cells #[.slice (some CS) aU.length dQ, .int .i64 aX, .int .i64 bJ, .int .i64 bT, .slice dZ aV.length dP] 25 (0, 0)) (by (with_reducible skip); refine bA ?_ nu.out _; (with_reducible skip); refine bA ?_ nu.out _; (with_reducible skip); refine bA ?_ nu.out _; (with_reducible skip); exact gW.out) hb); replace CW := aa.mk (au (g := vz) (o := .cells #[.int .i64 ((ah aU il).f0.f0), .int .i64 ((ah aU il).f0.f1), .slice A112_2 ((ah aU il).f1).length c112_2] 66 (0, 0)) (by (with_reducible skip); refine bS (cs := #[.int .i64 ((ah aU il).f0.f0), .int .i64 ((ah aU il).f0.f1), .slice none 0 0]) ?_ 2 _ rfl; (with_reducible skip); refine bS (cs := #[.int .i64 ((ah aU il).f0.f0), .int .i64 0, .slice none 0 0]) ?_ 1 _ rfl; (with_reducible skip); refine bS (cs := #[.int .i64 0, .int .i64 0, .slice none 0 0]) ?_ 0 _ rfl; (with_reducible skip); exact CW.out) hb); replace HB := aa.mk (ax (by repeat ((with_reducible first | exact HB.out | refine df ?_ Iu.out))) hb); (clear hb)))); go_roundg k1; (case measure => have := HK1.out; omega); case rel => exact ⟨(wrap64 (il + 1)), (by rfl), H', ⟨by have := HK1.out; omega⟩, ⟨by (with_reducible skip); exact gW.out⟩, ⟨by exact HB.out⟩⟩
        ·rw [if_neg c14] at H; have zQ : (Ea == 0) = false := beq_eq_false_iff_ne.mpr c14; have GY : (Ea != 0) = true := bne_iff_ne.mpr c14; obtain rfl := Option.some.inj H; have KQ : 0 ≤ (il : Int) := of_decide_eq_true (by with_reducible assumption); have Jn : il < (aU.length : Int) := of_decide_eq_true (by with_reducible assumption); obtain ⟨CS, A112_2, c112_2, e112, uD, uJ, uB, yX, xZ⟩ := qf qP.out il KQ Jn; cases e112; replace uD := (HB.out.cell (World.block_lt_of_cell? w _ uD)).trans uD; replace uJ := (HB.out.cell (World.block_lt_of_cell? w _ uJ)).trans uJ; replace uB := (HB.out.cell (World.block_lt_of_cell? w _ uB)).trans uB; have GK := aa.mk xZ; have FW := aa.mk yX; clear xZ yX; replace KQ := eq_true KQ; replace Jn := eq_true Jn; go_wp2_with (first | ((with_reducible refine dm (N := 4) rfl ?_); refine dC ?hg (N := 4) ?hd (cs := #[.int .i64 0, .int .i64 0, .slice none 0 0]) (t := 66) ?hr ?_; (case hd => rfl); (case hg => rfl); (case hr => (go_simp; done)); intro vz hg w19 hbox hb; have CW := aa.mk (hbox); have acP := aa.mk ((by rw [hg]; exact (az (by exact HB.out)) : w.heap.size ≤ vz)); have Iu := aa.mk ((by rw [hg]; exact (az (by exact HB.out)) : w.heap.size ≤ vz)); replace HB := aa.mk (ax (by exact HB.out) hb); have nu := aa.mk ((by rw [hg]; exact Nat.ne_of_lt (bW (g := ll) (o := .cells #[.slice (some CS) aU.length dQ, .int .i64 aX, .int .i64 bJ, .int .i64 bT, .slice dZ aV.length dP] 25 (0, 0)) (bU gW.out)) : ll ≠ vz)); have zK := aa.mk ((by rw [hg]; exact Nat.ne_of_gt (bW (g := ll) (o := .cells #[.slice (some CS) aU.length dQ, .int .i64 aX, .int .i64 bJ, .int .i64 bT, .slice dZ aV.length dP] 25 (0, 0)) (bU gW.out)) : vz ≠ ll)); replace gW := aa.mk (au (bU gW.out) hb); clear hb hbox hg; have ajb := zK.out; have ajq := nu.out; obtain ⟨SL, TQ, V6, Td, VW, Te⟩ := cells3 CW.out) | ((with_reducible refine bH (f := 63) rfl ?_); refine eU (some 28) rfl rfl Try.func63 (by kernel_rfl) rfl #[.agg #[.int .i64 ((ah aU il).f0.f0), .int .i64 ((ah aU il).f0.f1), .slice A112_2 ((ah aU il).f1).length c112_2]] rfl (by (simp only [List.map_toArray, List.map_cons, List.map_nil]); rfl) ?_; (with_reducible refine (aA.calls k1 ((ah aU il).f0.f0) ((ah aU il).f0.f1) _ _ ((ah aU il).f1) Ea _ ?side1 ?side2 A13.out).mono ?_); (case side1 => exact Kd.aY GK.out (by repeat ((with_reducible first | exact HB.out | refine df ?_ Iu.out)))); (case side2 => exact FW.out); rintro e w22 ⟨rfl, hb⟩; refine ⟨_, rfl, ?_⟩; replace gW := aa.mk (au (g := ll) (o := .cells #[.slice (some CS) aU.length dQ, .int .i64 aX, .int .i64 bJ, .int .i64 bT, .slice dZ aV.length dP] 25 (0, 0)) (by (with_reducible skip); refine bA ?_ nu.out _; (with_reducible skip); refine bA ?_ nu.out _; (with_reducible skip); refine bA ?_ nu.out _; (with_reducible skip); exact gW.out) hb); replace CW := aa.mk (au (g := vz) (o := .cells #[.int .i64 ((ah aU il).f0.f0), .int .i64 ((ah aU il).f0.f1), .slice A112_2 ((ah aU il).f1).length c112_2] 66 (0, 0)) (by (with_reducible skip); refine bS (cs := #[.int .i64 ((ah aU il).f0.f0), .int .i64 ((ah aU il).f0.f1), .slice none 0 0]) ?_ 2 _ rfl; (with_reducible skip); refine bS (cs := #[.int .i64 ((ah aU il).f0.f0), .int .i64 0, .slice none 0 0]) ?_ 1 _ rfl; (with_reducible skip); refine bS (cs := #[.int .i64 0, .int .i64 0, .slice none 0 0]) ?_ 0 _ rfl; (with_reducible skip); exact CW.out) hb); replace HB := aa.mk (ax (by repeat ((with_reducible first | exact HB.out | refine df ?_ Iu.out))) hb); (clear hb)))
         go_ret
         exact ⟨by rfl, by exact HB.out⟩
       ·rw [if_neg c12] at H; exact absurd H (by simp)
      ·rw [if_neg c11] at H; exact absurd H (by simp)
     ·rw [if_neg c10] at H; have AO : decide (il < (aU.length : Int)) = false := decide_eq_false c10; clear c10; replace H := Option.bind_eq_some_iff.mp H; obtain ⟨PS, ada, H⟩ := H; have A23 := aa.mk ada; clear ada; have ZE := aa.mk H; clear H; obtain ⟨TD, TM, SX, Tx, VH, TR, Vv, SF, UE, Uz⟩ := cells5 gW.out; (go_upto_if 33 with (((with_reducible refine bH (f := 64) rfl ?_); refine eU (some 36) rfl rfl Try.func64 (by kernel_rfl) rfl #[.int .i64 aX, .int .i64 0, .int .i64 10] rfl (by (simp only [List.map_toArray, List.map_cons, List.map_nil]); rfl) ?_; (with_reducible refine (eG.calls aX 0 10 PS _ A23.out).mono ?_); rintro e w' ⟨rfl, ⟨nd, rfl⟩⟩; refine ⟨_, rfl, ?_⟩))); (skip); go_cut [33] (fun v33 wc => ∃ (kq : Nat) (FO : Bool), v33 = .bool FO ∧ aa (aI.j1 kq FO aU aX bJ bT aV = some r) ∧ aa (kq ≤ k1) ∧ aa (wc.heap[ll]? = some (.cells #[(.slice eB aU.length dQ), .int .i64 aX, .int .i64 bJ, .int .i64 bT, (.slice dZ aV.length dP)] 25 (0, 0))) ∧ aa (Below w.heap.size w wc))
      case first =>
       have H := ZE.out; clear ZE; by_cases c26 : PS = true
       ·subst c26; rw [if_pos rfl] at H; replace H := Option.bind_eq_some_iff.mp H; obtain ⟨V3, Z4, H⟩ := H; have A27 := aa.mk Z4; clear Z4; by_cases c28 : V3 = true
        ·subst c28; rw [if_pos rfl] at H; replace H := Option.bind_eq_some_iff.mp H; obtain ⟨Ug, adm, H⟩ := H; have A29 := aa.mk adm; clear adm; have H' := aa.mk H; clear H; obtain ⟨aeo, aep, af1, afz, adY, afW, ad9, aeO, aeA, afn⟩ := cells5 gW.out; (go_wp2_with (first | ((with_reducible refine bH (f := 64) rfl ?_); refine eU (some 40) rfl rfl Try.func64 (by kernel_rfl) rfl #[.int .i64 bJ, .int .i64 0, .int .i64 10] rfl (by (simp only [List.map_toArray, List.map_cons, List.map_nil]); rfl) ?_; (with_reducible refine (eG.calls bJ 0 10 true _ A27.out).mono ?_); rintro e w' ⟨rfl, ⟨nd, rfl⟩⟩; refine ⟨_, rfl, ?_⟩) | ((with_reducible refine bH (f := 64) rfl ?_); refine eU (some 44) rfl rfl Try.func64 (by kernel_rfl) rfl #[.int .i64 bT, .int .i64 0, .int .i64 40] rfl (by (simp only [List.map_toArray, List.map_cons, List.map_nil]); rfl) ?_; (with_reducible refine (eG.calls bT 0 40 Ug _ A29.out).mono ?_); rintro e w' ⟨rfl, ⟨nd, rfl⟩⟩; refine ⟨_, rfl, ?_⟩))); go_meet; case rel => exact ⟨_, (!Ug), (by rfl), H', ⟨by have := HK1.out; omega⟩, ⟨by (with_reducible repeat (refine fB ?_ _)); exact gW.out⟩, ⟨by exact lU HB.out⟩⟩
        ·replace c28 := Bool.eq_false_iff.mpr c28; subst c28; rw [if_neg (show ¬ (false = true) by decide)] at H; have H' := aa.mk H; clear H; obtain ⟨UQ, VA, Uj, aeC, adI, Vd, Vk, Tt, aeq, ady⟩ := cells5 gW.out; (go_wp2_with (((with_reducible refine bH (f := 64) rfl ?_); refine eU (some 40) rfl rfl Try.func64 (by kernel_rfl) rfl #[.int .i64 bJ, .int .i64 0, .int .i64 10] rfl (by (simp only [List.map_toArray, List.map_cons, List.map_nil]); rfl) ?_; (with_reducible refine (eG.calls bJ 0 10 false _ A27.out).mono ?_); rintro e w' ⟨rfl, ⟨nd, rfl⟩⟩; refine ⟨_, rfl, ?_⟩))); go_meet; case rel => exact ⟨_, (!false), (by rfl), H', ⟨by have := HK1.out; omega⟩, ⟨by (with_reducible repeat (refine fB ?_ _)); exact gW.out⟩, ⟨by exact lU HB.out⟩⟩
       ·replace c26 := Bool.eq_false_iff.mpr c26; subst c26; rw [if_neg (show ¬ (false = true) by decide)] at H; have H' := aa.mk H; clear H; go_wp2; go_meet; case rel => exact ⟨_, (!false), (by rfl), H', ⟨by have := HK1.out; omega⟩, ⟨by (with_reducible repeat (refine fB ?_ _)); exact gW.out⟩, ⟨by exact lU HB.out⟩⟩
      case rest =>
       clear ZE AO TD TM SX Tx VH TR Vv SF UE Uz; obtain ⟨kq, FO, rfl, HA, HJ23, gW, HB⟩ := hcut
       cases kq with
       | zero => exact absurd HA.out (by simp [aI.j1])
       | succ kj23 =>
        have H := HA.out; clear HA; simp only [aI.j1] at H; by_cases c32 : FO = true
        ·subst c32; rw [if_pos rfl] at H; obtain rfl := Option.some.inj H; go_wp2
         go_ret
         exact ⟨by rfl, by exact HB.out⟩
        ·replace c32 := Bool.eq_false_iff.mpr c32; subst c32; rw [if_neg (show ¬ (false = true) by decide)] at H; by_cases c33 : (aV.length : Int) = 0
         ·rw [if_pos c33] at H; have RO : ((aV.length : Int) == 0) = true := beq_iff_eq.mpr c33; have Wq : ((aV.length : Int) != 0) = false := bne_eq_false_iff_eq.mpr c33; clear c33; obtain rfl := Option.some.inj H; obtain ⟨afZ, afg, adV, aeY, aeF, afv, adU, afC, afd, aeK⟩ := cells5 gW.out; go_wp2
          go_ret
          exact ⟨by rfl, by exact HB.out⟩
         ·rw [if_neg c33] at H; have RO : ((aV.length : Int) == 0) = false := beq_eq_false_iff_ne.mpr c33; have Wq : ((aV.length : Int) != 0) = true := bne_iff_ne.mpr c33; (have aaS : ¬ (aV = []) := fun h_ => c33 (by rw [h_]; rfl)); by_cases c35 : (aV.length : Int) > 8
          ·rw [if_pos c35] at H; have Xp : decide (8 < (aV.length : Int)) = true := decide_eq_true c35; have WO : decide (8 < aV.length) = true := decide_eq_true (by omega); clear c35; obtain rfl := Option.some.inj H; obtain ⟨Ur, Vf, aeI, aeX, aey, Uv, TJ, adH, adN, afs⟩ := cells5 gW.out; go_wp2
           go_ret
           exact ⟨by rfl, by exact HB.out⟩
          ·rw [if_neg c35] at H; have Xp : decide (8 < (aV.length : Int)) = false := decide_eq_false c35; have WO : decide (8 < aV.length) = false := decide_eq_false (by omega); clear c35; have H' := aa.mk H; clear H; obtain ⟨wD, wF, wK, FH, FZ, wX, wL, wQ, Gg, Gu⟩ := cells5 gW.out; go_wp2; (go_loopg [59] kj23 (fun kq v59 w' => ∃ (fZ : Int), v59 = .int .i64 fZ ∧ aa (aI.l1 kq aV (aV.length : Int) fZ = some r) ∧ aa (kq ≤ kj23) ∧ aa (w'.heap[ll]? = some (.cells #[(.slice eB aU.length dQ), .int .i64 aX, .int .i64 bJ, .int .i64 bT, (.slice dZ aV.length dP)] 25 (0, 0))) ∧ aa (Below w.heap.size w w'))); case atStart => exact ⟨(0), (by rfl), H', ⟨Nat.le_refl _⟩, ⟨by (with_reducible skip); exact gW.out⟩, ⟨by exact HB.out⟩⟩
           case round =>
            clear H' c33 RO Wq aaS Xp WO wD wF wK FH FZ wX wL wQ Gg Gu; obtain ⟨fZ, rfl, HA, HK3, gW, HB⟩ := hrel
            cases gk with
            | zero => exact absurd HA.out (by simp [aI.l1])
            | succ k3 =>
             have H := HA.out; clear HA; simp only [aI.l1] at H; by_cases c38 : fZ < (aV.length : Int)
             ·rw [if_pos c38] at H; have Wz : decide (fZ < (aV.length : Int)) = true := decide_eq_true c38; clear c38; by_cases c39 : 0 ≤ fZ
              ·rw [if_pos c39] at H; have ZR : decide (0 ≤ fZ) = true := decide_eq_true c39; clear c39; by_cases c40 : fZ < (aV.length : Int)
               ·rw [if_pos c40] at H; have acI : decide (fZ < (aV.length : Int)) = true := decide_eq_true c40; clear c40; by_cases c41 : ((cu aV fZ).length : Int) > 4
                ·rw [if_pos c41] at H; have Xu : decide (4 < ((cu aV fZ).length : Int)) = true := decide_eq_true c41; have Xq : decide (4 < (cu aV fZ).length) = true := decide_eq_true (by omega); clear c41; obtain rfl := Option.some.inj H; have Hm : 0 ≤ (fZ : Int) := of_decide_eq_true (by with_reducible assumption); have IC : fZ < (aV.length : Int) := of_decide_eq_true (by with_reducible assumption); obtain ⟨IA, A118_0, c118_0, e118, sW, xU, yO⟩ := xA qO.out fZ Hm IC; cases e118; replace sW := (HB.out.cell (World.block_lt_of_cell? w _ sW)).trans sW; have LK := aa.mk yO; have SK := aa.mk xU; clear yO xU; replace Hm := eq_true Hm; replace IC := eq_true IC; go_wp2
                 go_ret
                 exact ⟨by rfl, by exact HB.out⟩
                ·rw [if_neg c41] at H; have Xu : decide (4 < ((cu aV fZ).length : Int)) = false := decide_eq_false c41; have Xq : decide (4 < (cu aV fZ).length) = false := decide_eq_false (by omega); clear c41; have H' := aa.mk H; clear H; have Hm : 0 ≤ (fZ : Int) := of_decide_eq_true (by with_reducible assumption); have IC : fZ < (aV.length : Int) := of_decide_eq_true (by with_reducible assumption); obtain ⟨IA, A118_0, c118_0, e118, sW, xU, yO⟩ := xA qO.out fZ Hm IC; cases e118; replace sW := (HB.out.cell (World.block_lt_of_cell? w _ sW)).trans sW; have LK := aa.mk yO; have SK := aa.mk xU; clear yO xU; replace Hm := eq_true Hm; replace IC := eq_true IC; go_wp2; (go_loopg [68] k3 (fun kq v68 w' => ∃ (jK : Int), v68 = .int .i64 jK ∧ aa (aI.l2 kq aV (aV.length : Int) fZ (cu aV fZ) ((cu aV fZ).length : Int) jK = some r) ∧ aa (kq ≤ k3) ∧ aa (w'.heap[ll]? = some (.cells #[(.slice eB aU.length dQ), .int .i64 aX, .int .i64 bJ, .int .i64 bT, (.slice (some IA) aV.length dP)] 25 (0, 0))) ∧ aa (Below w.heap.size w w'))); case atStart => exact ⟨(0), (by rfl), H', ⟨Nat.le_refl _⟩, ⟨by (with_reducible skip); exact gW.out⟩, ⟨by exact HB.out⟩⟩
                 case round =>
                  clear H' Wz ZR acI Xu Xq sW Hm IC; obtain ⟨jK, rfl, HA, HK4, gW, HB⟩ := hrel
                  cases gk with
                  | zero => exact absurd HA.out (by simp [aI.l2])
                  | succ k4 =>
                   have H := HA.out; clear HA; simp only [aI.l2] at H; by_cases c42 : jK < ((cu aV fZ).length : Int)
                   ·rw [if_pos c42] at H; have Xb : decide (jK < ((cu aV fZ).length : Int)) = true := decide_eq_true c42; clear c42; by_cases c43 : 0 ≤ jK
                    ·rw [if_pos c43] at H; have ab3 : decide (0 ≤ jK) = true := decide_eq_true c43; clear c43; by_cases c44 : jK < ((cu aV fZ).length : Int)
                     ·rw [if_pos c44] at H; have ado : decide (jK < ((cu aV fZ).length : Int)) = true := decide_eq_true c44; clear c44; replace H := Option.bind_eq_some_iff.mp H; obtain ⟨O8, aaI, H⟩ := H; have A45 := aa.mk aaI; clear aaI; have Yl := aa.mk H; clear H; have Us : 0 ≤ (jK : Int) := of_decide_eq_true (by with_reducible assumption); have SI : jK < ((cu aV fZ).length : Int) := of_decide_eq_true (by with_reducible assumption); obtain ⟨aio, e119, Bd, Bj⟩ := vv LK.out jK Us SI; cases e119; replace Bd := (HB.out.cell (World.block_lt_of_cell? w _ Bd)).trans Bd; replace Bj := (HB.out.cell (World.block_lt_of_cell? w _ Bj)).trans Bj; replace Us := eq_true Us; replace SI := eq_true SI; (go_upto_if 72 with (first | ((with_reducible refine dm (N := 9) rfl ?_); refine dC ?hg (N := 9) ?hd (cs := #[.int .i64 0, .int .i64 0]) (t := 27) ?hr ?_; (case hd => rfl); (case hg => rfl); (case hr => (go_simp; done)); intro IG hg w47 hbox hb; have Cn := aa.mk (hbox); have aiX := aa.mk ((by rw [hg]; exact (az (by exact HB.out)) : w.heap.size ≤ IG)); have WZ := aa.mk ((by rw [hg]; exact (az (by exact HB.out)) : w.heap.size ≤ IG)); replace HB := aa.mk (ax (by exact HB.out) hb); have oJ := aa.mk ((by rw [hg]; exact Nat.ne_of_lt (bW (g := ll) (o := .cells #[.slice eB aU.length dQ, .int .i64 aX, .int .i64 bJ, .int .i64 bT, .slice (some IA) aV.length dP] 25 (0, 0)) (bU gW.out)) : ll ≠ IG)); have wV := aa.mk ((by rw [hg]; exact Nat.ne_of_gt (bW (g := ll) (o := .cells #[.slice eB aU.length dQ, .int .i64 aX, .int .i64 bJ, .int .i64 bT, .slice (some IA) aV.length dP] 25 (0, 0)) (bU gW.out)) : IG ≠ ll)); replace gW := aa.mk (au (bU gW.out) hb); clear hb hbox hg; have aif := wV.out; have ah5 := oJ.out; obtain ⟨U7, VY, VP, SY⟩ := mE Cn.out) | ((with_reducible refine bH (f := 64) rfl ?_); refine eU (some 75) rfl rfl Try.func64 (by kernel_rfl) rfl #[.int .i64 ((eu (cu aV fZ) jK).f0), .int .i64 0, .int .i64 1023] rfl (by (simp only [List.map_toArray, List.map_cons, List.map_nil]); rfl) ?_; (with_reducible refine (eG.calls ((eu (cu aV fZ) jK).f0) 0 1023 O8 _ A45.out).mono ?_); rintro e w' ⟨rfl, ⟨nd, rfl⟩⟩; refine ⟨_, rfl, ?_⟩))); (skip); go_cut [72] (fun v72 wc => ∃ (kq : Nat) (GG : Bool), v72 = .bool GG ∧ aa (aI.j4 kq aV (aV.length : Int) fZ (cu aV fZ) ((cu aV fZ).length : Int) jK GG ((eu (cu aV fZ) jK).f0) ((eu (cu aV fZ) jK).f1) = some r) ∧ aa (kq ≤ k4) ∧ aa (wc.heap[ll]? = some (.cells #[(.slice eB aU.length dQ), .int .i64 aX, .int .i64 bJ, .int .i64 bT, (.slice (some IA) aV.length dP)] 25 (0, 0))) ∧ aa (wc.heap[IG]? = some (.cells #[.int .i64 ((eu (cu aV fZ) jK).f0), .int .i64 ((eu (cu aV fZ) jK).f1)] 27 (0, 0))) ∧ aa (Below w.heap.size w wc))
                      case first =>
                       have H := Yl.out; clear Yl; by_cases c50 : O8 = true
                       ·subst c50; rw [if_pos rfl] at H; replace H := Option.bind_eq_some_iff.mp H; obtain ⟨Uy, PY, H⟩ := H; have A51 := aa.mk PY; clear PY; have H' := aa.mk H; clear H; have aik := wV.out; have ai0 := oJ.out; obtain ⟨afG, aeE, aeb, aek⟩ := mE Cn.out; (go_wp2_with (((with_reducible refine bH (f := 64) rfl ?_); refine eU (some 79) rfl rfl Try.func64 (by kernel_rfl) rfl #[.int .i64 ((eu (cu aV fZ) jK).f1), .int .i64 0, .int .i64 1023] rfl (by (simp only [List.map_toArray, List.map_cons, List.map_nil]); rfl) ?_; (with_reducible refine (eG.calls ((eu (cu aV fZ) jK).f1) 0 1023 Uy _ A51.out).mono ?_); rintro e w' ⟨rfl, ⟨nd, rfl⟩⟩; refine ⟨_, rfl, ?_⟩))); go_meet; case rel => exact ⟨_, (!Uy), (by rfl), H', ⟨by have := HK1.out; have := HJ23.out; have := HK3.out; have := HK4.out; omega⟩, ⟨by (with_reducible repeat (refine fB ?_ _)); refine bA ?_ oJ.out _; (with_reducible skip); refine bA ?_ oJ.out _; (with_reducible skip); exact gW.out⟩, ⟨by (with_reducible repeat (refine fB ?_ _)); refine bS (cs := #[.int .i64 ((eu (cu aV fZ) jK).f0), .int .i64 0]) ?_ 1 _ rfl; (with_reducible skip); refine bS (cs := #[.int .i64 0, .int .i64 0]) ?_ 0 _ rfl; (with_reducible skip); exact Cn.out⟩, ⟨by repeat ((with_reducible first | exact HB.out | apply dn | refine df ?_ WZ.out))⟩⟩
                       ·replace c50 := Bool.eq_false_iff.mpr c50; subst c50; rw [if_neg (show ¬ (false = true) by decide)] at H; have H' := aa.mk H; clear H; go_wp2; go_meet; case rel => exact ⟨_, (!false), (by rfl), H', ⟨by have := HK1.out; have := HJ23.out; have := HK3.out; have := HK4.out; omega⟩, ⟨by (with_reducible repeat (refine fB ?_ _)); refine bA ?_ oJ.out _; (with_reducible skip); refine bA ?_ oJ.out _; (with_reducible skip); exact gW.out⟩, ⟨by (with_reducible repeat (refine fB ?_ _)); refine bS (cs := #[.int .i64 ((eu (cu aV fZ) jK).f0), .int .i64 0]) ?_ 1 _ rfl; (with_reducible skip); refine bS (cs := #[.int .i64 0, .int .i64 0]) ?_ 0 _ rfl; (with_reducible skip); exact Cn.out⟩, ⟨by repeat ((with_reducible first | exact HB.out | apply dn | refine df ?_ WZ.out))⟩⟩
                      case rest =>
                       clear Yl Xb ab3 ado U7 VY VP SY Bd Bj Us SI; obtain ⟨kq, GG, rfl, HA, HJ45, gW, Cn, HB⟩ := hcut
                       cases kq with
                       | zero => exact absurd HA.out (by simp [aI.j4])
                       | succ kj45 =>
                        have H := HA.out; clear HA; simp only [aI.j4] at H; by_cases c54 : GG = true
                        ·subst c54; rw [if_pos rfl] at H; obtain rfl := Option.some.inj H; go_wp2
                         go_ret
                         exact ⟨by rfl, by exact HB.out⟩
                        ·replace c54 := Bool.eq_false_iff.mpr c54; subst c54; rw [if_neg (show ¬ (false = true) by decide)] at H; replace H := Option.bind_eq_some_iff.mp H; obtain ⟨Gy, R7, H⟩ := H; have A55 := aa.mk R7; clear R7; by_cases c56 : Gy = 0
                         ·rw [if_pos c56] at H; have aaJ : (Gy == 0) = true := beq_iff_eq.mpr c56; have aaD : (Gy != 0) = false := bne_eq_false_iff_eq.mpr c56; clear c56; have H' := aa.mk H; clear H; have ain := wV.out; have ai2 := oJ.out; obtain ⟨adE, aeZ, afO, ae9⟩ := mE Cn.out; (go_wp2_with (((with_reducible refine bH (f := 65) rfl ?_); refine eU (some 86) rfl rfl Try.func65 (by kernel_rfl) rfl #[.int .i64 ((eu (cu aV fZ) jK).f1), .int .i64 ((eu (cu aV fZ) jK).f0)] rfl (by (simp only [List.map_toArray, List.map_cons, List.map_nil]); rfl) ?_; (with_reducible refine (fE.calls ((eu (cu aV fZ) jK).f1) ((eu (cu aV fZ) jK).f0) Gy _ A55.out).mono ?_); rintro e w' ⟨rfl, ⟨nd, rfl⟩⟩; refine ⟨_, rfl, ?_⟩))); go_roundg kj45; (case measure => have := HK1.out; have := HJ23.out; have := HK3.out; have := HK4.out; have := HJ45.out; omega); case rel => exact ⟨(wrap64 (jK + 1)), (by rfl), H', ⟨by have := HK1.out; have := HJ23.out; have := HK3.out; have := HK4.out; have := HJ45.out; omega⟩, ⟨by (with_reducible repeat (refine fB ?_ _)); exact gW.out⟩, ⟨by exact lU HB.out⟩⟩
                         ·rw [if_neg c56] at H; have aaJ : (Gy == 0) = false := beq_eq_false_iff_ne.mpr c56; have aaD : (Gy != 0) = true := bne_iff_ne.mpr c56; obtain rfl := Option.some.inj H; have OG := wV.out; have Oy := oJ.out; obtain ⟨adJ, afm, afl, afx⟩ := mE Cn.out; go_wp2_with (((with_reducible refine bH (f := 65) rfl ?_); refine eU (some 86) rfl rfl Try.func65 (by kernel_rfl) rfl #[.int .i64 ((eu (cu aV fZ) jK).f1), .int .i64 ((eu (cu aV fZ) jK).f0)] rfl (by (simp only [List.map_toArray, List.map_cons, List.map_nil]); rfl) ?_; (with_reducible refine (fE.calls ((eu (cu aV fZ) jK).f1) ((eu (cu aV fZ) jK).f0) Gy _ A55.out).mono ?_); rintro e w' ⟨rfl, ⟨nd, rfl⟩⟩; refine ⟨_, rfl, ?_⟩))
                          go_ret
                          exact ⟨by rfl, by exact lU HB.out⟩
                     ·rw [if_neg c44] at H; exact absurd H (by simp)
                    ·rw [if_neg c43] at H; exact absurd H (by simp)
                   ·rw [if_neg c42] at H; have Xb : decide (jK < ((cu aV fZ).length : Int)) = false := decide_eq_false c42; clear c42; have H' := aa.mk H; clear H; go_wp2; go_roundg k4; (case measure => have := HK1.out; have := HJ23.out; have := HK3.out; have := HK4.out; omega); case rel => exact ⟨(wrap64 (fZ + 1)), (by rfl), H', ⟨by have := HK1.out; have := HJ23.out; have := HK3.out; have := HK4.out; omega⟩, ⟨by (with_reducible skip); exact gW.out⟩, ⟨by exact HB.out⟩⟩
               ·rw [if_neg c40] at H; exact absurd H (by simp)
              ·rw [if_neg c39] at H; exact absurd H (by simp)
             ·rw [if_neg c38] at H; have Wz : decide (fZ < (aV.length : Int)) = false := decide_eq_false c38; clear c38; obtain rfl := Option.some.inj H; go_wp2
              go_ret
              exact ⟨by rfl, by exact HB.out⟩
mutual
def di.l0 : Nat → List (S27) → Int → Int → Bool → List (S27) → Int → Int → Option (Int × Int × Bool)
 | 0, _, _, _, _, _, _, _ => none
 | k + 1, x0, x2, x3, x4, x9, x10, x11 => if x11 < x10 then (if 0 ≤ x11 then (if x11 < (x9.length : Int) then (di.l0 k x0 (Go.bits .or .i64 x2 ((eu x9 x11).f0)) (Go.bits .or .i64 x3 ((eu x9 x11).f1)) x4 x9 x10 (wrap64 (x11 + 1))) else (none)) else (none)) else (di.l1 k x2 x3 x4 x0 (x0.length : Int) 0)
def di.l1 : Nat → Int → Int → Bool → List (S27) → Int → Int → Option (Int × Int × Bool)
 | 0, _, _, _, _, _, _ => none
 | k + 1, x2, x3, x4, x24, x25, x26 => if x26 < x25 then (if 0 ≤ x26 then (if x26 < (x24.length : Int) then (if x4 = true then (di.l1 k x2 x3 ((Go.bits .and .i64 x3 ((eu x24 x26).f0)) == ((eu x24 x26).f1)) x24 x25 (wrap64 (x26 + 1))) else (di.l1 k x2 x3 false x24 x25 (wrap64 (x26 + 1)))) else (none)) else (none)) else (some (x2, x3, x4))
end
def di.f (k : Nat) (l0 : List (S27)) : Option (Int × Int × Bool) := di.l0 k l0 0 0 true l0 (l0.length : Int) 0
theorem di.gJ : ∀ k, (∀ y0 y1 y2 y3 y4 y5 y6, LeO (di.l0 k y0 y1 y2 y3 y4 y5 y6) (di.l0 (k + 1) y0 y1 y2 y3 y4 y5 y6)) ∧ (∀ y0 y1 y2 y3 y4 y5, LeO (di.l1 k y0 y1 y2 y3 y4 y5) (di.l1 (k + 1) y0 y1 y2 y3 y4 y5))
 | 0 => ⟨fun _ _ _ _ _ _ _ r h => by simp [di.l0] at h, fun _ _ _ _ _ _ r h => by simp [di.l1] at h⟩
 | k + 1 => by
  obtain ⟨ih0, ih1⟩ := di.gJ k; refine ⟨?_, ?_⟩
  ·intro y0 y1 y2 y3 y4 y5 y6; unfold di.l0
   repeat' first | (with_reducible exact ih0 _ _ _ _ _ _ _) | (with_reducible exact ih1 _ _ _ _ _ _) | (with_reducible exact LeO.refl _) | (with_reducible refine LeO.ite ?_ ?_)
  ·intro y0 y1 y2 y3 y4 y5; unfold di.l1
   repeat' first | (with_reducible exact ih1 _ _ _ _ _ _) | (with_reducible exact LeO.refl _) | (with_reducible refine LeO.ite ?_ ?_)
theorem di.mono : ∀ a0 k, LeO (di.f k a0) (di.f (k + 1) a0) := by
 intro a0 k; obtain ⟨ih0, ih1⟩ := di.gJ k; unfold di.f
 repeat' (with_reducible exact ih0 _ _ _ _ _ _ _)
set_option maxHeartbeats 8000000 in
set_option maxRecDepth 100000 in
theorem di.calls (k : Nat) (A0 : Option Addr) (c0 : Nat) (l0 : List (S27)) (r1 : Int) (r2 : Int) (r3 : Bool) (w : World) (hr0 : Kd.C k27 w A0 l0.length l0) (hc0 : l0.length ≤ c0) (h : di.f k l0 = some (r1, r2, r3)) :
 Calls Try.prog 82 #[.slice A0 l0.length c0] w fun e w' => e = .returned (.tuple #[.int .i64 r1, .int .i64 r2, .bool r3]) ∧ Below w.heap.size w w' := by
 have hu27 := Try.underlying27; have HR0 := aa.mk hr0; have HC0 := aa.mk hc0; clear hr0 hc0; have HB := aa.mk (Below.refl w.heap.size w); have H : (di.l0 k l0 0 0 true l0 (l0.length : Int) 0) = some (r1, r2, r3) := h; clear h; have H' := aa.mk H; clear H; go_enter Try.func82, Try.ntmps82; go_wp2; (go_loopg [2, 3, 11] k (fun kq v2 v3 v11 w' => ∃ (zA : Int) (vH : Int) (kJ : Int), v2 = .int .i64 zA ∧ v3 = .int .i64 vH ∧ v11 = .int .i64 kJ ∧ aa (di.l0 kq l0 zA vH true l0 (l0.length : Int) kJ = some (r1, r2, r3)) ∧ aa (kq ≤ k) ∧ aa (Below w.heap.size w w'))); case atStart => exact ⟨(0), (0), (0), (by rfl), (by rfl), (by rfl), H', ⟨Nat.le_refl _⟩, ⟨by exact HB.out⟩⟩
 case round =>
  clear H'; obtain ⟨zA, vH, kJ, rfl, rfl, rfl, HA, HK1, HB⟩ := hrel
  cases gk with
  | zero => exact absurd HA.out (by simp [di.l0])
  | succ k1 =>
   have H := HA.out; clear HA; simp only [di.l0] at H; by_cases c2 : kJ < (l0.length : Int)
   ·rw [if_pos c2] at H; have JK : decide (kJ < (l0.length : Int)) = true := decide_eq_true c2; clear c2; by_cases c3 : 0 ≤ kJ
    ·rw [if_pos c3] at H; have xM : decide (0 ≤ kJ) = true := decide_eq_true c3; clear c3; by_cases c4 : kJ < (l0.length : Int)
     ·rw [if_pos c4] at H; have IZ : decide (kJ < (l0.length : Int)) = true := decide_eq_true c4; clear c4; have H' := aa.mk H; clear H; have Rp : 0 ≤ (kJ : Int) := of_decide_eq_true (by with_reducible assumption); have Qe : kJ < (l0.length : Int) := of_decide_eq_true (by with_reducible assumption); obtain ⟨aha, e1166, Dh, BJ⟩ := vv HR0.out kJ Rp Qe; cases e1166; replace Dh := (HB.out.cell (World.block_lt_of_cell? w _ Dh)).trans Dh; replace BJ := (HB.out.cell (World.block_lt_of_cell? w _ BJ)).trans BJ; replace Rp := eq_true Rp; replace Qe := eq_true Qe; (go_wp2_with (((with_reducible refine dm (N := 6) rfl ?_); refine dC ?hg (N := 6) ?hd (cs := #[.int .i64 0, .int .i64 0]) (t := 27) ?hr ?_; (case hd => rfl); (case hg => rfl); (case hr => (go_simp; done)); intro vN hg w5 hbox hb; have Cf := aa.mk (hbox); have Sc := aa.mk ((by rw [hg]; exact (az (by exact HB.out)) : w.heap.size ≤ vN)); have JW := aa.mk ((by rw [hg]; exact (az (by exact HB.out)) : w.heap.size ≤ vN)); replace HB := aa.mk (ax (by exact HB.out) hb); clear hb hbox hg; obtain ⟨wy, wh, vP, vw⟩ := mE Cf.out))); (repeat (go_quiet (first | ((with_reducible refine dm (N := 6) rfl ?_); refine dC ?hg (N := 6) ?hd (cs := #[.int .i64 0, .int .i64 0]) (t := 27) ?hr ?_; (case hd => rfl); (case hg => rfl); (case hr => first | (go_simp; done) | (go_simp; rfl)); intro vN hg w5 hbox hb; have Cf := aa.mk (hbox); have Sc := aa.mk ((by rw [hg]; exact (az (by repeat (first | (with_reducible first | exact HB.out | apply aH | apply dn | apply gN) | exact HB.out))) : w.heap.size ≤ vN)); have JW := aa.mk ((by rw [hg]; exact (az (by repeat (first | (with_reducible first | exact HB.out | apply aH | apply dn | apply gN) | exact HB.out))) : w.heap.size ≤ vN)); replace HB := aa.mk (ax (by repeat (first | (with_reducible first | exact HB.out | apply aH | apply dn | apply gN) | exact HB.out)) hb); clear hb hbox hg; obtain ⟨wy, wh, vP, vw⟩ := mE Cf.out)); go_wp2_with (first | ((with_reducible refine dm (N := 6) rfl ?_); refine dC ?hg (N := 6) ?hd (cs := #[.int .i64 0, .int .i64 0]) (t := 27) ?hr ?_; (case hd => rfl); (case hg => rfl); (case hr => first | (go_simp; done) | (go_simp; rfl)); intro vN hg w5 hbox hb; have Cf := aa.mk (hbox); have Sc := aa.mk ((by rw [hg]; exact (az (by repeat (first | (with_reducible first | exact HB.out | apply aH | apply dn | apply gN) | exact HB.out))) : w.heap.size ≤ vN)); have JW := aa.mk ((by rw [hg]; exact (az (by repeat (first | (with_reducible first | exact HB.out | apply aH | apply dn | apply gN) | exact HB.out))) : w.heap.size ≤ vN)); replace HB := aa.mk (ax (by repeat (first | (with_reducible first | exact HB.out | apply aH | apply dn | apply gN) | exact HB.out)) hb); clear hb hbox hg; obtain ⟨wy, wh, vP, vw⟩ := mE Cf.out)))); go_roundg k1; (case measure => have := HK1.out; omega); case rel => exact ⟨(Go.bits .or .i64 zA ((eu l0 kJ).f0)), (Go.bits .or .i64 vH ((eu l0 kJ).f1)), (wrap64 (kJ + 1)), (by rfl), (by rfl), (by rfl), H', ⟨by have := HK1.out; omega⟩, ⟨by repeat ((with_reducible first | exact HB.out | apply dn | refine df ?_ JW.out))⟩⟩
     ·rw [if_neg c4] at H; exact absurd H (by simp)
    ·rw [if_neg c3] at H; exact absurd H (by simp)
   ·rw [if_neg c2] at H; have JK : decide (kJ < (l0.length : Int)) = false := decide_eq_false c2; clear c2; have H' := aa.mk H; clear H; go_wp2; (go_loopg [4, 26] k1 (fun kq v4 v26 w' => ∃ (UR : Bool) (om : Int), v4 = .bool UR ∧ v26 = .int .i64 om ∧ aa (di.l1 kq zA vH UR l0 (l0.length : Int) om = some (r1, r2, r3)) ∧ aa (kq ≤ k1) ∧ aa (Below w.heap.size w w'))); case atStart => exact ⟨(true), (0), (by rfl), (by rfl), H', ⟨Nat.le_refl _⟩, ⟨by exact HB.out⟩⟩
    case round =>
     clear H' JK; obtain ⟨UR, om, rfl, rfl, HA, HK2, HB⟩ := hrel
     cases gk with
     | zero => exact absurd HA.out (by simp [di.l1])
     | succ k2 =>
      have H := HA.out; clear HA; simp only [di.l1] at H; by_cases c7 : om < (l0.length : Int)
      ·rw [if_pos c7] at H; have Sm : decide (om < (l0.length : Int)) = true := decide_eq_true c7; clear c7; by_cases c8 : 0 ≤ om
       ·rw [if_pos c8] at H; have Sv : decide (0 ≤ om) = true := decide_eq_true c8; clear c8; by_cases c9 : om < (l0.length : Int)
        ·rw [if_pos c9] at H; have Zi : decide (om < (l0.length : Int)) = true := decide_eq_true c9; clear c9; by_cases c10 : UR = true
         ·subst c10; rw [if_pos rfl] at H; have H' := aa.mk H; clear H; have Dg : 0 ≤ (om : Int) := of_decide_eq_true (by with_reducible assumption); have DT : om < (l0.length : Int) := of_decide_eq_true (by with_reducible assumption); obtain ⟨ZH, e1168, rD, rX⟩ := vv HR0.out om Dg DT; cases e1168; replace rD := (HB.out.cell (World.block_lt_of_cell? w _ rD)).trans rD; replace rX := (HB.out.cell (World.block_lt_of_cell? w _ rX)).trans rX; replace Dg := eq_true Dg; replace DT := eq_true DT; (go_wp2_with (((with_reducible refine dm (N := 8) rfl ?_); refine dC ?hg (N := 8) ?hd (cs := #[.int .i64 0, .int .i64 0]) (t := 27) ?hr ?_; (case hd => rfl); (case hg => rfl); (case hr => (go_simp; done)); intro Cv hg w11 hbox hb; have JL := aa.mk (hbox); have XY := aa.mk ((by rw [hg]; exact (az (by exact HB.out)) : w.heap.size ≤ Cv)); have J6 := aa.mk ((by rw [hg]; exact (az (by exact HB.out)) : w.heap.size ≤ Cv)); replace HB := aa.mk (ax (by exact HB.out) hb); clear hb hbox hg; obtain ⟨Gw, FB, FC, Gd⟩ := mE JL.out))); go_roundg k2; (case measure => have := HK1.out; have := HK2.out; omega); case rel => exact ⟨(((Go.bits .and .i64 vH ((eu l0 om).f0)) == ((eu l0 om).f1))), (wrap64 (om + 1)), (by rfl), (by rfl), H', ⟨by have := HK1.out; have := HK2.out; omega⟩, ⟨by repeat ((with_reducible first | exact HB.out | refine df ?_ J6.out))⟩⟩
         ·replace c10 := Bool.eq_false_iff.mpr c10; subst c10; rw [if_neg (show ¬ (false = true) by decide)] at H; have H' := aa.mk H; clear H; have Dg : 0 ≤ (om : Int) := of_decide_eq_true (by with_reducible assumption); have DT : om < (l0.length : Int) := of_decide_eq_true (by with_reducible assumption); obtain ⟨ZH, e1168, rD, rX⟩ := vv HR0.out om Dg DT; cases e1168; replace rD := (HB.out.cell (World.block_lt_of_cell? w _ rD)).trans rD; replace rX := (HB.out.cell (World.block_lt_of_cell? w _ rX)).trans rX; replace Dg := eq_true Dg; replace DT := eq_true DT; (go_wp2_with (((with_reducible refine dm (N := 8) rfl ?_); refine dC ?hg (N := 8) ?hd (cs := #[.int .i64 0, .int .i64 0]) (t := 27) ?hr ?_; (case hd => rfl); (case hg => rfl); (case hr => (go_simp; done)); intro Cv hg w13 hbox hb; have JL := aa.mk (hbox); have XY := aa.mk ((by rw [hg]; exact (az (by exact HB.out)) : w.heap.size ≤ Cv)); have J6 := aa.mk ((by rw [hg]; exact (az (by exact HB.out)) : w.heap.size ≤ Cv)); replace HB := aa.mk (ax (by exact HB.out) hb); clear hb hbox hg; obtain ⟨SB, VD, SC, Uk⟩ := mE JL.out))); go_roundg k2; (case measure => have := HK1.out; have := HK2.out; omega); case rel => exact ⟨(false), (wrap64 (om + 1)), (by rfl), (by rfl), H', ⟨by have := HK1.out; have := HK2.out; omega⟩, ⟨by repeat ((with_reducible first | exact HB.out | refine df ?_ J6.out))⟩⟩
        ·rw [if_neg c9] at H; exact absurd H (by simp)
       ·rw [if_neg c8] at H; exact absurd H (by simp)
      ·rw [if_neg c7] at H; have Sm : decide (om < (l0.length : Int)) = false := decide_eq_false c7; clear c7; simp only [Option.some.injEq, Prod.mk.injEq] at H; obtain ⟨rfl, rfl, rfl⟩ := H; go_wp2
       go_ret3
       exact ⟨by rfl, by exact HB.out⟩
def jU.f (a0 : Int) : Option (Int) := some (Go.bits .and .i64 (wrap64 (IntKind.u64.wrap ((IntKind.u64.wrap ((IntKind.u64.wrap ((Go.bits .and .u64 (IntKind.u64.wrap (((IntKind.u64.wrap ((Go.bits .and .u64 ((IntKind.u64.wrap ((Go.bits .and .u64 (a0 / 2) 6148914691236517205) + (Go.bits .and .u64 a0 6148914691236517205))) / 4) 3689348814741910323) + (Go.bits .and .u64 (IntKind.u64.wrap ((Go.bits .and .u64 (a0 / 2) 6148914691236517205) + (Go.bits .and .u64 a0 6148914691236517205))) 3689348814741910323))) / 16) + (IntKind.u64.wrap ((Go.bits .and .u64 ((IntKind.u64.wrap ((Go.bits .and .u64 (a0 / 2) 6148914691236517205) + (Go.bits .and .u64 a0 6148914691236517205))) / 4) 3689348814741910323) + (Go.bits .and .u64 (IntKind.u64.wrap ((Go.bits .and .u64 (a0 / 2) 6148914691236517205) + (Go.bits .and .u64 a0 6148914691236517205))) 3689348814741910323))))) 1085102592571150095) + ((Go.bits .and .u64 (IntKind.u64.wrap (((IntKind.u64.wrap ((Go.bits .and .u64 ((IntKind.u64.wrap ((Go.bits .and .u64 (a0 / 2) 6148914691236517205) + (Go.bits .and .u64 a0 6148914691236517205))) / 4) 3689348814741910323) + (Go.bits .and .u64 (IntKind.u64.wrap ((Go.bits .and .u64 (a0 / 2) 6148914691236517205) + (Go.bits .and .u64 a0 6148914691236517205))) 3689348814741910323))) / 16) + (IntKind.u64.wrap ((Go.bits .and .u64 ((IntKind.u64.wrap ((Go.bits .and .u64 (a0 / 2) 6148914691236517205) + (Go.bits .and .u64 a0 6148914691236517205))) / 4) 3689348814741910323) + (Go.bits .and .u64 (IntKind.u64.wrap ((Go.bits .and .u64 (a0 / 2) 6148914691236517205) + (Go.bits .and .u64 a0 6148914691236517205))) 3689348814741910323))))) 1085102592571150095) / 256))) + ((IntKind.u64.wrap ((Go.bits .and .u64 (IntKind.u64.wrap (((IntKind.u64.wrap ((Go.bits .and .u64 ((IntKind.u64.wrap ((Go.bits .and .u64 (a0 / 2) 6148914691236517205) + (Go.bits .and .u64 a0 6148914691236517205))) / 4) 3689348814741910323) + (Go.bits .and .u64 (IntKind.u64.wrap ((Go.bits .and .u64 (a0 / 2) 6148914691236517205) + (Go.bits .and .u64 a0 6148914691236517205))) 3689348814741910323))) / 16) + (IntKind.u64.wrap ((Go.bits .and .u64 ((IntKind.u64.wrap ((Go.bits .and .u64 (a0 / 2) 6148914691236517205) + (Go.bits .and .u64 a0 6148914691236517205))) / 4) 3689348814741910323) + (Go.bits .and .u64 (IntKind.u64.wrap ((Go.bits .and .u64 (a0 / 2) 6148914691236517205) + (Go.bits .and .u64 a0 6148914691236517205))) 3689348814741910323))))) 1085102592571150095) + ((Go.bits .and .u64 (IntKind.u64.wrap (((IntKind.u64.wrap ((Go.bits .and .u64 ((IntKind.u64.wrap ((Go.bits .and .u64 (a0 / 2) 6148914691236517205) + (Go.bits .and .u64 a0 6148914691236517205))) / 4) 3689348814741910323) + (Go.bits .and .u64 (IntKind.u64.wrap ((Go.bits .and .u64 (a0 / 2) 6148914691236517205) + (Go.bits .and .u64 a0 6148914691236517205))) 3689348814741910323))) / 16) + (IntKind.u64.wrap ((Go.bits .and .u64 ((IntKind.u64.wrap ((Go.bits .and .u64 (a0 / 2) 6148914691236517205) + (Go.bits .and .u64 a0 6148914691236517205))) / 4) 3689348814741910323) + (Go.bits .and .u64 (IntKind.u64.wrap ((Go.bits .and .u64 (a0 / 2) 6148914691236517205) + (Go.bits .and .u64 a0 6148914691236517205))) 3689348814741910323))))) 1085102592571150095) / 256))) / 65536))) + ((IntKind.u64.wrap ((IntKind.u64.wrap ((Go.bits .and .u64 (IntKind.u64.wrap (((IntKind.u64.wrap ((Go.bits .and .u64 ((IntKind.u64.wrap ((Go.bits .and .u64 (a0 / 2) 6148914691236517205) + (Go.bits .and .u64 a0 6148914691236517205))) / 4) 3689348814741910323) + (Go.bits .and .u64 (IntKind.u64.wrap ((Go.bits .and .u64 (a0 / 2) 6148914691236517205) + (Go.bits .and .u64 a0 6148914691236517205))) 3689348814741910323))) / 16) + (IntKind.u64.wrap ((Go.bits .and .u64 ((IntKind.u64.wrap ((Go.bits .and .u64 (a0 / 2) 6148914691236517205) + (Go.bits .and .u64 a0 6148914691236517205))) / 4) 3689348814741910323) + (Go.bits .and .u64 (IntKind.u64.wrap ((Go.bits .and .u64 (a0 / 2) 6148914691236517205) + (Go.bits .and .u64 a0 6148914691236517205))) 3689348814741910323))))) 1085102592571150095) + ((Go.bits .and .u64 (IntKind.u64.wrap (((IntKind.u64.wrap ((Go.bits .and .u64 ((IntKind.u64.wrap ((Go.bits .and .u64 (a0 / 2) 6148914691236517205) + (Go.bits .and .u64 a0 6148914691236517205))) / 4) 3689348814741910323) + (Go.bits .and .u64 (IntKind.u64.wrap ((Go.bits .and .u64 (a0 / 2) 6148914691236517205) + (Go.bits .and .u64 a0 6148914691236517205))) 3689348814741910323))) / 16) + (IntKind.u64.wrap ((Go.bits .and .u64 ((IntKind.u64.wrap ((Go.bits .and .u64 (a0 / 2) 6148914691236517205) + (Go.bits .and .u64 a0 6148914691236517205))) / 4) 3689348814741910323) + (Go.bits .and .u64 (IntKind.u64.wrap ((Go.bits .and .u64 (a0 / 2) 6148914691236517205) + (Go.bits .and .u64 a0 6148914691236517205))) 3689348814741910323))))) 1085102592571150095) / 256))) + ((IntKind.u64.wrap ((Go.bits .and .u64 (IntKind.u64.wrap (((IntKind.u64.wrap ((Go.bits .and .u64 ((IntKind.u64.wrap ((Go.bits .and .u64 (a0 / 2) 6148914691236517205) + (Go.bits .and .u64 a0 6148914691236517205))) / 4) 3689348814741910323) + (Go.bits .and .u64 (IntKind.u64.wrap ((Go.bits .and .u64 (a0 / 2) 6148914691236517205) + (Go.bits .and .u64 a0 6148914691236517205))) 3689348814741910323))) / 16) + (IntKind.u64.wrap ((Go.bits .and .u64 ((IntKind.u64.wrap ((Go.bits .and .u64 (a0 / 2) 6148914691236517205) + (Go.bits .and .u64 a0 6148914691236517205))) / 4) 3689348814741910323) + (Go.bits .and .u64 (IntKind.u64.wrap ((Go.bits .and .u64 (a0 / 2) 6148914691236517205) + (Go.bits .and .u64 a0 6148914691236517205))) 3689348814741910323))))) 1085102592571150095) + ((Go.bits .and .u64 (IntKind.u64.wrap (((IntKind.u64.wrap ((Go.bits .and .u64 ((IntKind.u64.wrap ((Go.bits .and .u64 (a0 / 2) 6148914691236517205) + (Go.bits .and .u64 a0 6148914691236517205))) / 4) 3689348814741910323) + (Go.bits .and .u64 (IntKind.u64.wrap ((Go.bits .and .u64 (a0 / 2) 6148914691236517205) + (Go.bits .and .u64 a0 6148914691236517205))) 3689348814741910323))) / 16) + (IntKind.u64.wrap ((Go.bits .and .u64 ((IntKind.u64.wrap ((Go.bits .and .u64 (a0 / 2) 6148914691236517205) + (Go.bits .and .u64 a0 6148914691236517205))) / 4) 3689348814741910323) + (Go.bits .and .u64 (IntKind.u64.wrap ((Go.bits .and .u64 (a0 / 2) 6148914691236517205) + (Go.bits .and .u64 a0 6148914691236517205))) 3689348814741910323))))) 1085102592571150095) / 256))) / 65536))) / 4294967296)))) 127)
set_option maxHeartbeats 8000000 in
set_option maxRecDepth 100000 in
theorem jU.calls (a0 : Int) (r : Int) (w : World) (h : jU.f a0 = some r) :
 Calls Try.prog 100 #[.int .u64 a0] w fun e w' => e = .returned (.int .i64 r) ∧ gy w w' := by
 have H : (some (Go.bits .and .i64 (wrap64 (IntKind.u64.wrap ((IntKind.u64.wrap ((IntKind.u64.wrap ((Go.bits .and .u64 (IntKind.u64.wrap (((IntKind.u64.wrap ((Go.bits .and .u64 ((IntKind.u64.wrap ((Go.bits .and .u64 (a0 / 2) 6148914691236517205) + (Go.bits .and .u64 a0 6148914691236517205))) / 4) 3689348814741910323) + (Go.bits .and .u64 (IntKind.u64.wrap ((Go.bits .and .u64 (a0 / 2) 6148914691236517205) + (Go.bits .and .u64 a0 6148914691236517205))) 3689348814741910323))) / 16) + (IntKind.u64.wrap ((Go.bits .and .u64 ((IntKind.u64.wrap ((Go.bits .and .u64 (a0 / 2) 6148914691236517205) + (Go.bits .and .u64 a0 6148914691236517205))) / 4) 3689348814741910323) + (Go.bits .and .u64 (IntKind.u64.wrap ((Go.bits .and .u64 (a0 / 2) 6148914691236517205) + (Go.bits .and .u64 a0 6148914691236517205))) 3689348814741910323))))) 1085102592571150095) + ((Go.bits .and .u64 (IntKind.u64.wrap (((IntKind.u64.wrap ((Go.bits .and .u64 ((IntKind.u64.wrap ((Go.bits .and .u64 (a0 / 2) 6148914691236517205) + (Go.bits .and .u64 a0 6148914691236517205))) / 4) 3689348814741910323) + (Go.bits .and .u64 (IntKind.u64.wrap ((Go.bits .and .u64 (a0 / 2) 6148914691236517205) + (Go.bits .and .u64 a0 6148914691236517205))) 3689348814741910323))) / 16) + (IntKind.u64.wrap ((Go.bits .and .u64 ((IntKind.u64.wrap ((Go.bits .and .u64 (a0 / 2) 6148914691236517205) + (Go.bits .and .u64 a0 6148914691236517205))) / 4) 3689348814741910323) + (Go.bits .and .u64 (IntKind.u64.wrap ((Go.bits .and .u64 (a0 / 2) 6148914691236517205) + (Go.bits .and .u64 a0 6148914691236517205))) 3689348814741910323))))) 1085102592571150095) / 256))) + ((IntKind.u64.wrap ((Go.bits .and .u64 (IntKind.u64.wrap (((IntKind.u64.wrap ((Go.bits .and .u64 ((IntKind.u64.wrap ((Go.bits .and .u64 (a0 / 2) 6148914691236517205) + (Go.bits .and .u64 a0 6148914691236517205))) / 4) 3689348814741910323) + (Go.bits .and .u64 (IntKind.u64.wrap ((Go.bits .and .u64 (a0 / 2) 6148914691236517205) + (Go.bits .and .u64 a0 6148914691236517205))) 3689348814741910323))) / 16) + (IntKind.u64.wrap ((Go.bits .and .u64 ((IntKind.u64.wrap ((Go.bits .and .u64 (a0 / 2) 6148914691236517205) + (Go.bits .and .u64 a0 6148914691236517205))) / 4) 3689348814741910323) + (Go.bits .and .u64 (IntKind.u64.wrap ((Go.bits .and .u64 (a0 / 2) 6148914691236517205) + (Go.bits .and .u64 a0 6148914691236517205))) 3689348814741910323))))) 1085102592571150095) + ((Go.bits .and .u64 (IntKind.u64.wrap (((IntKind.u64.wrap ((Go.bits .and .u64 ((IntKind.u64.wrap ((Go.bits .and .u64 (a0 / 2) 6148914691236517205) + (Go.bits .and .u64 a0 6148914691236517205))) / 4) 3689348814741910323) + (Go.bits .and .u64 (IntKind.u64.wrap ((Go.bits .and .u64 (a0 / 2) 6148914691236517205) + (Go.bits .and .u64 a0 6148914691236517205))) 3689348814741910323))) / 16) + (IntKind.u64.wrap ((Go.bits .and .u64 ((IntKind.u64.wrap ((Go.bits .and .u64 (a0 / 2) 6148914691236517205) + (Go.bits .and .u64 a0 6148914691236517205))) / 4) 3689348814741910323) + (Go.bits .and .u64 (IntKind.u64.wrap ((Go.bits .and .u64 (a0 / 2) 6148914691236517205) + (Go.bits .and .u64 a0 6148914691236517205))) 3689348814741910323))))) 1085102592571150095) / 256))) / 65536))) + ((IntKind.u64.wrap ((IntKind.u64.wrap ((Go.bits .and .u64 (IntKind.u64.wrap (((IntKind.u64.wrap ((Go.bits .and .u64 ((IntKind.u64.wrap ((Go.bits .and .u64 (a0 / 2) 6148914691236517205) + (Go.bits .and .u64 a0 6148914691236517205))) / 4) 3689348814741910323) + (Go.bits .and .u64 (IntKind.u64.wrap ((Go.bits .and .u64 (a0 / 2) 6148914691236517205) + (Go.bits .and .u64 a0 6148914691236517205))) 3689348814741910323))) / 16) + (IntKind.u64.wrap ((Go.bits .and .u64 ((IntKind.u64.wrap ((Go.bits .and .u64 (a0 / 2) 6148914691236517205) + (Go.bits .and .u64 a0 6148914691236517205))) / 4) 3689348814741910323) + (Go.bits .and .u64 (IntKind.u64.wrap ((Go.bits .and .u64 (a0 / 2) 6148914691236517205) + (Go.bits .and .u64 a0 6148914691236517205))) 3689348814741910323))))) 1085102592571150095) + ((Go.bits .and .u64 (IntKind.u64.wrap (((IntKind.u64.wrap ((Go.bits .and .u64 ((IntKind.u64.wrap ((Go.bits .and .u64 (a0 / 2) 6148914691236517205) + (Go.bits .and .u64 a0 6148914691236517205))) / 4) 3689348814741910323) + (Go.bits .and .u64 (IntKind.u64.wrap ((Go.bits .and .u64 (a0 / 2) 6148914691236517205) + (Go.bits .and .u64 a0 6148914691236517205))) 3689348814741910323))) / 16) + (IntKind.u64.wrap ((Go.bits .and .u64 ((IntKind.u64.wrap ((Go.bits .and .u64 (a0 / 2) 6148914691236517205) + (Go.bits .and .u64 a0 6148914691236517205))) / 4) 3689348814741910323) + (Go.bits .and .u64 (IntKind.u64.wrap ((Go.bits .and .u64 (a0 / 2) 6148914691236517205) + (Go.bits .and .u64 a0 6148914691236517205))) 3689348814741910323))))) 1085102592571150095) / 256))) + ((IntKind.u64.wrap ((Go.bits .and .u64 (IntKind.u64.wrap (((IntKind.u64.wrap ((Go.bits .and .u64 ((IntKind.u64.wrap ((Go.bits .and .u64 (a0 / 2) 6148914691236517205) + (Go.bits .and .u64 a0 6148914691236517205))) / 4) 3689348814741910323) + (Go.bits .and .u64 (IntKind.u64.wrap ((Go.bits .and .u64 (a0 / 2) 6148914691236517205) + (Go.bits .and .u64 a0 6148914691236517205))) 3689348814741910323))) / 16) + (IntKind.u64.wrap ((Go.bits .and .u64 ((IntKind.u64.wrap ((Go.bits .and .u64 (a0 / 2) 6148914691236517205) + (Go.bits .and .u64 a0 6148914691236517205))) / 4) 3689348814741910323) + (Go.bits .and .u64 (IntKind.u64.wrap ((Go.bits .and .u64 (a0 / 2) 6148914691236517205) + (Go.bits .and .u64 a0 6148914691236517205))) 3689348814741910323))))) 1085102592571150095) + ((Go.bits .and .u64 (IntKind.u64.wrap (((IntKind.u64.wrap ((Go.bits .and .u64 ((IntKind.u64.wrap ((Go.bits .and .u64 (a0 / 2) 6148914691236517205) + (Go.bits .and .u64 a0 6148914691236517205))) / 4) 3689348814741910323) + (Go.bits .and .u64 (IntKind.u64.wrap ((Go.bits .and .u64 (a0 / 2) 6148914691236517205) + (Go.bits .and .u64 a0 6148914691236517205))) 3689348814741910323))) / 16) + (IntKind.u64.wrap ((Go.bits .and .u64 ((IntKind.u64.wrap ((Go.bits .and .u64 (a0 / 2) 6148914691236517205) + (Go.bits .and .u64 a0 6148914691236517205))) / 4) 3689348814741910323) + (Go.bits .and .u64 (IntKind.u64.wrap ((Go.bits .and .u64 (a0 / 2) 6148914691236517205) + (Go.bits .and .u64 a0 6148914691236517205))) 3689348814741910323))))) 1085102592571150095) / 256))) / 65536))) / 4294967296)))) 127)) = some r := h; clear h; obtain rfl := Option.some.inj H; go_enter Try.func100, Try.ntmps100; go_wp2
 go_ret
 exact ⟨by rfl, by exact gy.refl _⟩
def kY.f (a0 : Int) : Option (Int) := (jU.f a0).bind fun H5 => (some H5)
set_option maxHeartbeats 8000000 in
set_option maxRecDepth 100000 in
theorem kY.calls (a0 : Int) (r : Int) (w : World) (h : kY.f a0 = some r) :
 Calls Try.prog 87 #[.int .u64 a0] w fun e w' => e = .returned (.int .i64 r) ∧ gy w w' := by
 have H : ((jU.f a0).bind fun H5 => (some H5)) = some r := h; clear h; replace H := Option.bind_eq_some_iff.mp H; obtain ⟨H5, A20, H⟩ := H; have A2 := aa.mk A20; clear A20; obtain rfl := Option.some.inj H; go_enter Try.func87, Try.ntmps87; go_wp2_with (((with_reducible refine bH (f := 100) rfl ?_); refine eU (some 7) rfl rfl Try.func100 (by kernel_rfl) rfl #[.int .u64 a0] rfl (by (simp only [List.map_toArray, List.map_cons, List.map_nil]); rfl) ?_; (with_reducible refine (jU.calls a0 H5 _ A2.out).mono ?_); rintro e w' ⟨rfl, ⟨nd, rfl⟩⟩; refine ⟨_, rfl, ?_⟩))
 go_ret
 exact ⟨by rfl, by repeat (first | exact gy.refl _ | apply gy.step)⟩
def ig.f (a0 : Int) : Option (Int) := (kY.f (IntKind.u64.wrap (a0))).bind fun IB => (some IB)
set_option maxHeartbeats 8000000 in
set_option maxRecDepth 100000 in
theorem ig.calls (a0 : Int) (r : Int) (w : World) (h : ig.f a0 = some r) :
 Calls Try.prog 83 #[.int .i64 a0] w fun e w' => e = .returned (.int .i64 r) ∧ gy w w' := by
 have H : ((kY.f (IntKind.u64.wrap (a0))).bind fun IB => (some IB)) = some r := h; clear h; replace H := Option.bind_eq_some_iff.mp H; obtain ⟨IB, A20, H⟩ := H; have A2 := aa.mk A20; clear A20; obtain rfl := Option.some.inj H; go_enter Try.func83, Try.ntmps83; go_wp2_with (((with_reducible refine bH (f := 87) rfl ?_); refine eU (some 5) rfl rfl Try.func87 (by kernel_rfl) rfl #[.int .u64 (IntKind.u64.wrap (a0))] rfl (by (simp only [List.map_toArray, List.map_cons, List.map_nil]); rfl) ?_; (with_reducible refine (kY.calls (IntKind.u64.wrap (a0)) IB _ A2.out).mono ?_); rintro e w' ⟨rfl, ⟨nd, rfl⟩⟩; refine ⟨_, rfl, ?_⟩))
 go_ret
 exact ⟨by rfl, by repeat (first | exact gy.refl _ | apply gy.step)⟩
end Go.Proofs.Ytihedeofkhapiaa.Pr
end
section
namespace Go.Proofs.Ytihedeofkhapiaa.Pr
open Go.RowKit Go.Proofs.YtihedeofkhapiaaW.PrintWords Go.Proofs.YtihedeofkhapiaaW.PrintLast Go.Proofs.YtihedeofkhapiaaW.PrintMore
theorem Ad {i : Int} {n : Nat} (h0 : 0 ≤ i) (h : i < (n : Int)) (hn : n ≤ 9223372036854775807) : wrap64 (i + 1) = i + 1 := by
 unfold wrap64; omega
theorem lw {α : Type} (l : List α) (d : α) (i : Nat) (h : i < l.length) : l.drop i = l.getD i d :: l.drop (i + 1) := by
 rw [List.drop_eq_getElem_cons h]; simp [List.getD_eq_getElem?_getD, List.getElem?_eq_getElem h]
def seenStep (s : Int × Int) (x : S27) : Int × Int := (Go.bits .or .i64 s.1 x.f0, Go.bits .or .i64 s.2 x.f1)
def xy (l : List S27) : Int × Int := l.foldl seenStep (0, 0)
def vG (v : Int) (b : Bool) (x : S27) : Bool := if b = true then (Go.bits .and .i64 v x.f0 == x.f1) else false
def fD (l : List S27) : Int × Int × Bool := ((xy l).1, (xy l).2, l.foldl (vG (xy l).2) true)
theorem UF (l : List S27) (hl : l.length ≤ 9223372036854775807) (x2 x3 : Int) : ∀ (d k i : Nat) (b : Bool), i + d = l.length → d < k →
 di.l1 k x2 x3 b l (l.length : Int) (i : Int) = some (x2, x3, (l.drop i).foldl (vG x3) b) := by
 intro d
 induction d with
 | zero =>
  intro k i b hi hk; obtain ⟨k, rfl⟩ : ∃ m, k = m + 1 := ⟨k - 1, by omega⟩; simp only [di.l1]; rw [if_neg (by omega), List.drop_eq_nil_of_le (by omega)]; rfl
 | succ d ih =>
  intro k i b hi hk; obtain ⟨k, rfl⟩ : ∃ m, k = m + 1 := ⟨k - 1, by omega⟩; simp only [di.l1]; rw [if_pos (by omega), if_pos (by omega), if_pos (by omega), Ad (by omega) (by omega) hl, lw l z27 i (by omega)]; (have e : eu l (i : Int) = l.getD i z27 := by simp [eu]); rw [e, List.foldl_cons]; have hc : ((i : Int) + 1) = ((i + 1 : Nat) : Int) := by omega
  cases b with
  | true =>
   rw [if_pos rfl, hc, ih k (i + 1) _ (by omega) (by omega)]; simp [vG]
  | false =>
   rw [if_neg (by decide), hc, ih k (i + 1) _ (by omega) (by omega)]; simp [vG]
theorem Ti (l : List S27) (hl : l.length ≤ 9223372036854775807) : ∀ (d k i : Nat) (s : Int × Int), i + d = l.length → l.length + d + 1 < k →
 di.l0 k l s.1 s.2 true l (l.length : Int) (i : Int) = some (((l.drop i).foldl seenStep s).1, ((l.drop i).foldl seenStep s).2, l.foldl (vG ((l.drop i).foldl seenStep s).2) true) := by
 intro d
 induction d with
 | zero =>
  intro k i s hi hk; obtain ⟨k, rfl⟩ : ∃ m, k = m + 1 := ⟨k - 1, by omega⟩; simp only [di.l0]; rw [if_neg (by omega), List.drop_eq_nil_of_le (show l.length ≤ i by omega)]; have := UF l hl s.1 s.2 l.length k 0 true (by omega) (by omega)
  simpa using this
 | succ d ih =>
  intro k i s hi hk; obtain ⟨k, rfl⟩ : ∃ m, k = m + 1 := ⟨k - 1, by omega⟩; simp only [di.l0]; rw [if_pos (by omega), if_pos (by omega), if_pos (by omega), Ad (by omega) (by omega) hl, lw l z27 i (by omega)]; (have e : eu l (i : Int) = l.getD i z27 := by simp [eu]); (have hc : ((i : Int) + 1) = ((i + 1 : Nat) : Int) := by omega); rw [e, hc, List.foldl_cons]; exact ih k (i + 1) (seenStep s (l.getD i z27)) (by omega) (by omega)
theorem Zn (l : List S27) (hl : l.length ≤ 9223372036854775807) : di.f (2 * l.length + 2) l = some (fD l) := by
 have := Ti l hl l.length (2 * l.length + 2) 0 (0, 0) (by omega) (by omega)
 simpa [di.f, fD, xy] using this
theorem J5 (A0 : Option Addr) (c0 : Nat) (l0 : List S27) (w : World) (hr0 : Kd.C k27 w A0 l0.length l0) (hc0 : l0.length ≤ c0) (hl : l0.length ≤ 9223372036854775807) :
 Calls Try.prog 82 #[.slice A0 l0.length c0] w fun e w' => e = .returned (.tuple #[.int .i64 (fD l0).1, .int .i64 (fD l0).2.1, .bool (fD l0).2.2]) ∧ Below w.heap.size w w' :=
 di.calls _ A0 c0 l0 _ _ _ w hr0 hc0 (Zn l0 hl)
def nH (a : Int) : Int := (ig.f a).getD 0
theorem YI (a : Int) : ig.f a = some (nH a) := by
 obtain ⟨r, h⟩ : ∃ r, ig.f a = some r := by
  simp only [ig.f, kY.f, jU.f, Option.bind_some]; exact ⟨_, rfl⟩
 rw [nH, h]; rfl
theorem Ki (a : Int) (w : World) : Calls Try.prog 83 #[.int .i64 a] w fun e w' => e = .returned (.int .i64 (nH a)) ∧ gy w w' :=
 ig.calls a _ w (YI a)
def gp (a b : Int) : Int := Go.bits .andNot .i64 a b
theorem Em (a b : Int) (w : World) : Calls Try.prog 65 #[.int .i64 a, .int .i64 b] w fun e w' => e = .returned (.int .i64 (gp a b)) ∧ gy w w' :=
 fE.calls a b _ w rfl
def inP (n lo hi : Int) : Bool := decide (lo ≤ n) && decide (n ≤ hi)
theorem nR {n lo hi : Int} : inP n lo hi = true ↔ lo ≤ n ∧ n ≤ hi := by simp [inP]
theorem Jz (n lo hi : Int) : eG.f n lo hi = some (inP n lo hi) := by
 unfold eG.f inP; split
 ·rename_i h; simp [h]
 ·rename_i h; simp [h]
def jb : Option Int → List S86 → Int
 | _, [] => 0
 | p, s :: r => if s.f0 < 65 ∨ s.f0 > 90 then 8 else if inP s.f1 1 1023 = true then (if (∃ q, p = some q ∧ s.f0 ≤ q) then 5 else jb (some s.f0) r) else 1
def kX (a b : Int) (l : List S86) : Int :=
 if inP a (-3000) 3000 = true ∧ inP b (-3000) 3000 = true then (if a > b then 5 else if l.length = 0 then 7 else if l.length > 8 then 6 else jb none l) else 1
def qN (l : List S86) (i : Nat) : Option Int := if i = 0 then none else some (l.getD (i - 1) z86).f0
theorem JY (l : List S86) : qN l 0 = none := rfl
theorem xL (l : List S86) (i : Nat) : qN l (i + 1) = some (l.getD i z86).f0 := by simp [qN]
theorem Kg (l : List S86) (i : Nat) : ai l (i : Int) = l.getD i z86 := by simp [ai]
theorem NB (a b : Int) (l : List S86) (hl : l.length ≤ 8) : ∀ (d i : Nat), i + d = l.length → Ev (fun k => aA.l0 k l (l.length : Int) (i : Int) a b l) (jb (qN l i) (l.drop i)) := by
 intro d
 induction d with
 | zero =>
  intro i hi; refine Ev.step (f := fun _ => some 0) (fun k => ?_) ?_
  ·simp only [aA.l0]; rw [if_neg (by omega)]
  ·rw [List.drop_eq_nil_of_le (by omega)]; exact Ev.now 0
 | succ d ih =>
  intro i hi; (have hc : ((i : Int) + 1) = ((i + 1 : Nat) : Int) := by omega); refine Ev.step (f := fun k => aA.j2 k (i : Int) l (l.length : Int) (i : Int) (decide ((l.getD i z86).f0 < 65 ∨ (l.getD i z86).f0 > 90)) a b l (l.getD i z86).f0 (l.getD i z86).f1) (fun k => ?_) ?_
  ·simp only [aA.l0]; rw [if_pos (by omega), if_pos (by omega), if_pos (by omega), Kg]; by_cases h : (l.getD i z86).f0 < 65
   ·rw [if_pos h, decide_eq_true h, decide_eq_true (show (l.getD i z86).f0 < 65 ∨ (l.getD i z86).f0 > 90 from .inl h)]
   ·rw [if_neg h]; simp only [h, false_or]
  rw [lw l z86 i (by omega), jb]; by_cases h1 : (l.getD i z86).f0 < 65 ∨ (l.getD i z86).f0 > 90
  ·rw [if_pos h1]; refine Ev.step (f := fun _ => some 8) (fun k => ?_) (Ev.now 8); simp only [aA.j2, h1, decide_true, if_true]
  rw [if_neg h1]; by_cases h2 : inP (l.getD i z86).f1 1 1023 = true
  ·rw [if_pos h2]; by_cases h3 : i = 0
   ·subst h3; rw [if_neg (by simp [qN])]; refine Ev.step (f := fun k => aA.l0 k l (l.length : Int) ((0 + 1 : Nat) : Int) a b l) (fun k => ?_) ?_
    ·simp only [aA.j2, h1, decide_false, Jz, Option.bind_some, h2]; rw [if_neg (by decide), if_pos trivial, if_neg (by decide), show wrap64 (((0 : Nat) : Int) + 1) = ((0 + 1 : Nat) : Int) from by unfold wrap64; omega]
    ·have := ih 1 (by omega)
     rwa [xL] at this
   ·obtain ⟨j, rfl⟩ : ∃ j, i = j + 1 := ⟨i - 1, by omega⟩; rw [xL]; (have hw : wrap64 (((j + 1 : Nat) : Int) - 1) = (j : Int) := by unfold wrap64; omega); (have hw2 : wrap64 (((j + 1 : Nat) : Int) + 1) = ((j + 1 + 1 : Nat) : Int) := by unfold wrap64; omega); by_cases h4 : (l.getD (j + 1) z86).f0 ≤ (l.getD j z86).f0
    ·rw [if_pos ⟨_, rfl, h4⟩]; refine Ev.step (f := fun _ => some 5) (fun k => ?_) (Ev.now 5); simp only [aA.j2, h1, decide_false, Jz, Option.bind_some, h2, hw]; rw [if_neg (by decide), if_pos trivial, if_pos (by omega), if_pos (by omega), if_pos (by omega), Kg, if_pos h4]
    ·rw [if_neg (by rintro ⟨q, hq, h⟩; cases hq; exact h4 h)]; refine Ev.step (f := fun k => aA.l0 k l (l.length : Int) ((j + 1 + 1 : Nat) : Int) a b l) (fun k => ?_) ?_
     ·simp only [aA.j2, h1, decide_false, Jz, Option.bind_some, h2, hw, hw2]; rw [if_neg (by decide), if_pos trivial, if_pos (by omega), if_pos (by omega), if_pos (by omega), Kg, if_neg h4]
     ·have := ih (j + 1 + 1) (by omega)
      rwa [xL] at this
  ·rw [if_neg h2]; refine Ev.step (f := fun _ => some 1) (fun k => ?_) (Ev.now 1); simp only [aA.j2, h1, decide_false, Jz, Option.bind_some, h2]; rw [if_neg (by decide), if_neg (by simp)]
theorem VV (a b : Int) (l : List S86) : Ev (fun k => aA.f k a b l) (kX a b l) := by
 have hj : ∀ x, Ev (fun k => aA.j0 k x a b l) (if x = true then 1 else if a > b then 5 else if l.length = 0 then 7 else if l.length > 8 then 6 else jb none l) := by
  intro x; by_cases h1 : x = true
  ·rw [if_pos h1]; refine Ev.step (f := fun _ => some 1) (fun k => ?_) (Ev.now 1); simp only [aA.j0]; rw [if_pos h1]
  rw [if_neg h1]; by_cases h2 : a > b
  ·rw [if_pos h2]; refine Ev.step (f := fun _ => some 5) (fun k => ?_) (Ev.now 5); simp only [aA.j0]; rw [if_neg h1, if_pos h2]
  rw [if_neg h2]; by_cases h3 : l.length = 0
  ·rw [if_pos h3]; refine Ev.step (f := fun _ => some 7) (fun k => ?_) (Ev.now 7); simp only [aA.j0]; rw [if_neg h1, if_neg h2, if_pos (by omega)]
  rw [if_neg h3]; by_cases h4 : l.length > 8
  ·rw [if_pos h4]; refine Ev.step (f := fun _ => some 6) (fun k => ?_) (Ev.now 6); simp only [aA.j0]; rw [if_neg h1, if_neg h2, if_neg (by omega), if_pos (by omega)]
  rw [if_neg h4]; refine Ev.step (f := fun k => aA.l0 k l (l.length : Int) ((0 : Nat) : Int) a b l) (fun k => ?_) ?_
  ·simp only [aA.j0]; rw [if_neg h1, if_neg h2, if_neg (by omega), if_neg (by omega)]; rfl
  ·have := NB a b l (by omega) l.length 0 (by omega)
   simpa [JY] using this
 refine Ev.congr (f := fun k => aA.j0 k (!(inP a (-3000) 3000 && inP b (-3000) 3000)) a b l) (fun k => ?_) ?_
 ·simp only [aA.f, Jz, Option.bind_some]; by_cases h : inP a (-3000) 3000 = true
  ·rw [if_pos h, h, Bool.true_and]
  ·rw [if_neg h]; simp only [Bool.not_eq_true] at h; rw [h, Bool.false_and]
 ·have := hj (!(inP a (-3000) 3000 && inP b (-3000) 3000)); unfold kX; by_cases h : inP a (-3000) 3000 = true ∧ inP b (-3000) 3000 = true
  ·rw [if_pos h]; rw [h.1, h.2, Bool.and_self, Bool.not_true, if_neg (by decide)] at this; rw [h.1, h.2]; exact this
  ·rw [if_neg h]
   have hx : (inP a (-3000) 3000 && inP b (-3000) 3000) = false := by
    simp only [Bool.and_eq_false_iff]; by_cases h' : inP a (-3000) 3000 = true
    ·exact .inr (by simpa [h'] using h)
    ·exact .inl (by simpa using h')
   rw [hx, Bool.not_false, if_pos rfl] at this; rw [hx]; exact this
def ji : List S66 → Int
 | [] => 0
 | h :: r => if kX h.f0.f0 h.f0.f1 h.f1 = 0 then ji r else kX h.f0.f0 h.f0.f1 h.f1
def ko : List S27 → Int
 | [] => 0
 | x :: r => if inP x.f0 0 1023 = true ∧ inP x.f1 0 1023 = true then (if gp x.f1 x.f0 = 0 then ko r else 2) else 1
def jd : List (List S27) → Int
 | [] => 0
 | q :: r => if q.length > 4 then 6 else if ko q = 0 then jd r else ko q
def eH (l0 : List S66) (a1 a2 a3 : Int) (l4 : List (List S27)) : Int :=
 if l0.length = 0 then 7 else if l0.length > 4 then 6 else if ji l0 = 0 then
  (if inP a1 0 10 = true ∧ inP a2 0 10 = true ∧ inP a3 0 40 = true then (if l4.length = 0 then 7 else if l4.length > 8 then 6 else jd l4) else 1)
 else ji l0
theorem NR (l : List S66) (i : Nat) : ah l (i : Int) = l.getD i z66 := by simp [ah]
theorem agv (l : List S27) (i : Nat) : eu l (i : Int) = l.getD i z27 := by simp [eu]
theorem ZG (l : List (List S27)) (i : Nat) : cu l (i : Int) = l.getD i [] := by simp [cu]
theorem ym (i n : Nat) (h : i < n) (hn : n ≤ 9223372036854775807) : wrap64 ((i : Int) + 1) = ((i + 1 : Nat) : Int) := by unfold wrap64; omega
theorem Jw (l : List (List S27)) (hl : l.length ≤ 8) : ∀ (d i : Nat), i + d = l.length → Ev (fun k => aI.l1 k l (l.length : Int) (i : Int)) (jd (l.drop i)) := by
 intro d
 induction d with
 | zero =>
  intro i hi; refine Ev.step (f := fun _ => some 0) (fun k => ?_) ?_
  ·simp only [aI.l1]; rw [if_neg (by omega)]
  ·rw [List.drop_eq_nil_of_le (by omega)]; exact Ev.now 0
 | succ d ih =>
  intro i hi; rw [lw l [] i (by omega), jd]; obtain ⟨q, hq⟩ : ∃ q, q = l.getD i [] := ⟨_, rfl⟩; rw [← hq]; by_cases h1 : q.length > 4
  ·rw [if_pos h1]; refine Ev.step (f := fun _ => some 6) (fun k => ?_) (Ev.now 6); simp only [aI.l1]; rw [if_pos (by omega), if_pos (by omega), if_pos (by omega), ZG, ← hq, if_pos (by omega)]
  rw [if_neg h1]
  have hin : ∀ (e j : Nat), j + e = q.length → Ev (fun k => aI.l2 k l (l.length : Int) (i : Int) q (q.length : Int) (j : Int)) (if ko (q.drop j) = 0 then jd (l.drop (i + 1)) else ko (q.drop j)) := by
   intro e
   induction e with
   | zero =>
    intro j hj; refine Ev.step (f := fun k => aI.l1 k l (l.length : Int) ((i + 1 : Nat) : Int)) (fun k => ?_) ?_
    ·simp only [aI.l2]; rw [if_neg (by omega), ym i 8 (by omega) (by omega)]
    ·rw [List.drop_eq_nil_of_le (show q.length ≤ j by omega), ko, if_pos rfl]; exact ih (i + 1) (by omega)
   | succ e ih2 =>
    intro j hj; rw [lw q z27 j (by omega), ko]; obtain ⟨x, hx⟩ : ∃ x, x = q.getD j z27 := ⟨_, rfl⟩; rw [← hx]; refine Ev.step (f := fun k => aI.j4 k l (l.length : Int) (i : Int) q (q.length : Int) (j : Int) (!(inP x.f0 0 1023 && inP x.f1 0 1023)) x.f0 x.f1) (fun k => ?_) ?_
    ·simp only [aI.l2, Jz, Option.bind_some]; rw [if_pos (by omega), if_pos (by omega), if_pos (by omega), agv, ← hx]; by_cases h : inP x.f0 0 1023 = true
     ·rw [if_pos h, h, Bool.true_and]
     ·rw [if_neg h]; simp only [Bool.not_eq_true] at h; rw [h, Bool.false_and]
    by_cases h : inP x.f0 0 1023 = true ∧ inP x.f1 0 1023 = true
    ·rw [if_pos h, h.1, h.2, Bool.and_self, Bool.not_true]; by_cases h5 : gp x.f1 x.f0 = 0
     ·rw [if_pos h5]; refine Ev.step (f := fun k => aI.l2 k l (l.length : Int) (i : Int) q (q.length : Int) ((j + 1 : Nat) : Int)) (fun k => ?_) (ih2 (j + 1) (by omega)); simp only [aI.j4, fE.f, Option.bind_some]; rw [if_neg (by decide), if_pos (show Go.bits .andNot .i64 x.f1 x.f0 = 0 from h5), ym j 8 (by omega) (by omega)]
     ·rw [if_neg h5, if_neg (by decide)]; refine Ev.step (f := fun _ => some 2) (fun k => ?_) (Ev.now 2); simp only [aI.j4, fE.f, Option.bind_some]; rw [if_neg (by decide), if_neg (show ¬ Go.bits .andNot .i64 x.f1 x.f0 = 0 from h5)]
    ·rw [if_neg h, if_neg (by decide)]
     have hx : (inP x.f0 0 1023 && inP x.f1 0 1023) = false := by
      simp only [Bool.and_eq_false_iff]; by_cases h' : inP x.f0 0 1023 = true
      ·exact .inr (by simpa [h'] using h)
      ·exact .inl (by simpa using h')
     rw [hx, Bool.not_false]; refine Ev.step (f := fun _ => some 1) (fun k => ?_) (Ev.now 1); simp only [aI.j4]; rw [if_pos trivial]
  refine Ev.step (f := fun k => aI.l2 k l (l.length : Int) (i : Int) q (q.length : Int) ((0 : Nat) : Int)) (fun k => ?_) ?_
  ·simp only [aI.l1]; rw [if_pos (by omega), if_pos (by omega), if_pos (by omega), ZG, ← hq, if_neg (by omega)]; rfl
  ·have := hin q.length 0 (by omega)
   simpa using this
theorem Q9 (l0 : List S66) (a1 a2 a3 : Int) (l4 : List (List S27)) : Ev (fun k => aI.f k l0 a1 a2 a3 l4) (eH l0 a1 a2 a3 l4) := by
 unfold eH; by_cases h1 : l0.length = 0
 ·rw [if_pos h1]; refine Ev.congr (f := fun _ => some 7) (fun k => ?_) (Ev.now 7); simp only [aI.f]; rw [if_pos (by omega)]
 rw [if_neg h1]; by_cases h2 : l0.length > 4
 ·rw [if_pos h2]; refine Ev.congr (f := fun _ => some 6) (fun k => ?_) (Ev.now 6); simp only [aI.f]; rw [if_neg (by omega), if_pos (by omega)]
 rw [if_neg h2]
 have hj : ∀ x, Ev (fun k => aI.j1 k x l0 a1 a2 a3 l4) (if x = true then 1 else if l4.length = 0 then 7 else if l4.length > 8 then 6 else jd l4) := by
  intro x; by_cases h3 : x = true
  ·rw [if_pos h3]; refine Ev.step (f := fun _ => some 1) (fun k => ?_) (Ev.now 1); simp only [aI.j1]; rw [if_pos h3]
  rw [if_neg h3]; by_cases h4 : l4.length = 0
  ·rw [if_pos h4]; refine Ev.step (f := fun _ => some 7) (fun k => ?_) (Ev.now 7); simp only [aI.j1]; rw [if_neg h3, if_pos (by omega)]
  rw [if_neg h4]; by_cases h5 : l4.length > 8
  ·rw [if_pos h5]; refine Ev.step (f := fun _ => some 6) (fun k => ?_) (Ev.now 6); simp only [aI.j1]; rw [if_neg h3, if_neg (by omega), if_pos (by omega)]
  rw [if_neg h5]; refine Ev.step (f := fun k => aI.l1 k l4 (l4.length : Int) ((0 : Nat) : Int)) (fun k => ?_) ?_
  ·simp only [aI.j1]; rw [if_neg h3, if_neg (by omega), if_neg (by omega)]; rfl
  ·have := Jw l4 (by omega) l4.length 0 (by omega)
   simpa using this
 have hl : ∀ (d i : Nat), i + d = l0.length → Ev (fun k => aI.l0 k l0 (l0.length : Int) (i : Int) l0 a1 a2 a3 l4) (if ji (l0.drop i) = 0 then
  (if inP a1 0 10 = true ∧ inP a2 0 10 = true ∧ inP a3 0 40 = true then (if l4.length = 0 then 7 else if l4.length > 8 then 6 else jd l4) else 1) else ji (l0.drop i)) := by
  intro d
  induction d with
  | zero =>
   intro i hi; rw [List.drop_eq_nil_of_le (by omega), ji, if_pos rfl]; refine Ev.step (f := fun k => aI.j1 k (!(inP a1 0 10 && (inP a2 0 10 && inP a3 0 40))) l0 a1 a2 a3 l4) (fun k => ?_) ?_
   ·simp only [aI.l0, Jz, Option.bind_some]; rw [if_neg (by omega)]; by_cases h3 : inP a1 0 10 = true
    ·rw [if_pos h3, h3, Bool.true_and]; by_cases h4 : inP a2 0 10 = true
     ·rw [if_pos h4, h4, Bool.true_and]
     ·rw [if_neg h4]; simp only [Bool.not_eq_true] at h4; rw [h4, Bool.false_and]
    ·rw [if_neg h3]; simp only [Bool.not_eq_true] at h3; rw [h3, Bool.false_and]
   ·have := hj (!(inP a1 0 10 && (inP a2 0 10 && inP a3 0 40))); by_cases h : inP a1 0 10 = true ∧ inP a2 0 10 = true ∧ inP a3 0 40 = true
    ·rw [if_pos h]; rw [h.1, h.2.1, h.2.2] at this ⊢; exact this
    ·rw [if_neg h]
     have hx : (inP a1 0 10 && (inP a2 0 10 && inP a3 0 40)) = false := by
      rw [Bool.eq_false_iff]; intro hh; simp only [Bool.and_eq_true] at hh; exact h hh
     rw [hx] at this ⊢; exact this
  | succ d ih =>
   intro i hi; rw [lw l0 z66 i (by omega), ji]; refine Ev.step (f := fun k => (aA.f k (l0.getD i z66).f0.f0 (l0.getD i z66).f0.f1 (l0.getD i z66).f1).bind fun t => if t = 0 then aI.l0 k l0 (l0.length : Int) ((i + 1 : Nat) : Int) l0 a1 a2 a3 l4 else some t) (fun k => ?_) ?_
   ·simp only [aI.l0]; rw [if_pos (by omega), if_pos (by omega), if_pos (by omega), NR, ym i 8 (by omega) (by omega)]
   ·refine Ev.bind (VV _ _ _) ?_; by_cases h3 : kX (l0.getD i z66).f0.f0 (l0.getD i z66).f0.f1 (l0.getD i z66).f1 = 0
    ·simp only [h3, if_true]; exact ih (i + 1) (by omega)
    ·simp only [h3, if_false]; exact Ev.now _
 have := hl l0.length 0 (by omega); refine Ev.congr (f := fun k => aI.l0 k l0 (l0.length : Int) ((0 : Nat) : Int) l0 a1 a2 a3 l4) (fun k => ?_) (by simpa using this); simp only [aI.f]; rw [if_neg (by omega), if_neg (by omega)]; rfl
theorem kE {l0 : List S66} {a1 a2 a3 : Int} {l4 : List (List S27)} (h : eH l0 a1 a2 a3 l4 = 0) : 0 < l0.length ∧ l0.length ≤ 4 ∧ 0 < l4.length ∧ l4.length ≤ 8 ∧ ji l0 = 0 ∧ jd l4 = 0 ∧ inP a1 0 10 = true ∧ inP a2 0 10 = true ∧ inP a3 0 40 = true := by
 unfold eH at h; split at h
 ·exact absurd h (by decide)
 split at h
 ·exact absurd h (by decide)
 split at h
 ·split at h
  ·split at h
   ·exact absurd h (by decide)
   split at h
   ·exact absurd h (by decide)
   ·rename_i h1 h2 h3 h4 h5 h6; exact ⟨by omega, by omega, by omega, by omega, h3, h, h4⟩
  ·exact absurd h (by decide)
 ·rename_i h1 h2 h3; exact absurd h h3
theorem EH {l0 : List S66} (h : ji l0 = 0) : ∀ x ∈ l0, kX x.f0.f0 x.f0.f1 x.f1 = 0 := by
 induction l0 with
 | nil => intro x hx; cases hx
 | cons y r ih =>
  rw [ji] at h; split at h
  ·rename_i h1; intro x hx; rcases List.mem_cons.1 hx with rfl | hx
   ·exact h1
   ·exact ih h x hx
  ·rename_i h1; exact absurd h h1
theorem AF {a b : Int} {l : List S86} (h : kX a b l = 0) : inP a (-3000) 3000 = true ∧ inP b (-3000) 3000 = true ∧ a ≤ b ∧ 0 < l.length ∧ l.length ≤ 8 ∧ jb none l = 0 := by
 unfold kX at h; split at h
 ·rename_i h0; split at h
  ·exact absurd h (by decide)
  split at h
  ·exact absurd h (by decide)
  split at h
  ·exact absurd h (by decide)
  ·rename_i h1 h2 h3; exact ⟨h0.1, h0.2, by omega, by omega, by omega, h⟩
 ·exact absurd h (by decide)
theorem uL {l0 : List S66} (h : ji l0 = 0) : ∀ i : Nat, i < l0.length → (ah l0 (i : Int)).f1.length ≤ 8 := fun i hi => by
 rw [NR, List.getD_eq_getElem?_getD, List.getElem?_eq_getElem hi]; exact (AF (EH h _ (List.getElem_mem hi))).2.2.2.2.1
theorem zT (eB : Option Addr) (dQ : Nat) (aU : List (S66)) (aX : Int) (bJ : Int) (bT : Int) (dZ : Option Addr) (dP : Nat) (aV : List (List (S27))) (w : World) (mG : Kd.C k66 w eB aU.length aU) (oG : aU.length ≤ dQ) (mH : Kd.C (Kd.slice 27 k27) w dZ aV.length aV) (oC : aV.length ≤ dP) :
 Calls Try.prog 40 #[.agg #[.slice eB aU.length dQ, .int .i64 aX, .int .i64 bJ, .int .i64 bT, .slice dZ aV.length dP]] w fun e w' => e = .returned (.int .i64 (eH aU aX bJ bT aV)) ∧ Below w.heap.size w w' := by
 obtain ⟨k, hk⟩ := (Q9 aU aX bJ bT aV).rounds; exact aI.calls k eB dQ aU aX bJ bT dZ dP aV _ w mG oG mH oC hk
def EvI {α : Type} (g : Nat → Option α) (P : α → Prop) : Prop := ∃ r, Ev g r ∧ P r
theorem EvI.now {α : Type} {P : α → Prop} {r : α} (h : P r) : EvI (fun _ => some r) P := ⟨r, Ev.now r, h⟩
theorem EvI.step {α : Type} {g f : Nat → Option α} {P : α → Prop} (h : ∀ k, g (k + 1) = f k) (k : EvI f P) : EvI g P := by
 obtain ⟨r, hr, hp⟩ := k; exact ⟨r, Ev.step h hr, hp⟩
theorem EvI.bind {α β : Type} {g : Nat → Option α} {f : Nat → α → Option β} {P : α → Prop} {Q : β → Prop} (h : EvI g P) (k : ∀ a, P a → EvI (fun n => f n a) Q) : EvI (fun n => (g n).bind (f n)) Q := by
 obtain ⟨a, ha, hp⟩ := h; obtain ⟨r, hr, hq⟩ := k a hp; exact ⟨r, Ev.bind ha hr, hq⟩
theorem EvI.call {α β : Type} {o : Option α} {f : Nat → α → Option β} {a : α} {Q : β → Prop} (h : o = some a) (k : EvI (fun n => f n a) Q) : EvI (fun n => o.bind (f n)) Q := by
 subst h; exact k
theorem EvI.pos {α : Type} {c : Prop} [Decidable c] {g f : Nat → Option α} {P : α → Prop} (h : c) (k : EvI f P) : EvI (fun n => if c then f n else g n) P := by
 simp only [if_pos h]; exact k
theorem EvI.neg {α : Type} {c : Prop} [Decidable c] {g f : Nat → Option α} {P : α → Prop} (h : ¬ c) (k : EvI g P) : EvI (fun n => if c then f n else g n) P := by
 simp only [if_neg h]; exact k
theorem EvI.ite {α : Type} {c : Prop} [Decidable c] {g f : Nat → Option α} {P : α → Prop} (k1 : c → EvI f P) (k2 : ¬ c → EvI g P) : EvI (fun n => if c then f n else g n) P := by
 by_cases h : c
 ·exact EvI.pos h (k1 h)
 ·exact EvI.neg h (k2 h)
theorem EvI.rounds {α : Type} {g : Nat → Option α} {P : α → Prop} (h : EvI g P) : ∃ r, (∃ k, g k = some r) ∧ P r := by
 obtain ⟨r, hr, hp⟩ := h; exact ⟨r, hr.rounds, hp⟩
theorem eT {x : Int} (h0 : -9223372036854775808 ≤ x) (h1 : x < 9223372036854775808) : wrap64 x = x := by unfold wrap64; omega
theorem V8 (a b : Int) : ∃ r x y, dY.f a b = some (r, x, y) ∧ 0 ≤ r := by
 unfold dY.f; split
 ·exact ⟨_, _, _, rfl, by simp only [IntKind.wrap, IntKind.bits, IntKind.signed, Bool.false_and, Bool.false_eq_true, if_false]; omega⟩
 ·exact ⟨_, _, _, rfl, by simp only [IntKind.wrap, IntKind.bits, IntKind.signed, Bool.false_and, Bool.false_eq_true, if_false]; omega⟩
theorem uw (a b n : Int) (h1 : 1 ≤ n) (h2 : n ≤ 4611686018427387904) : ∃ v x y, aZ.f a b n = some (v, x, y) ∧ 0 ≤ v ∧ v < n := by
 unfold aZ.f; by_cases h : n < 2
 ·rw [if_pos h]; exact ⟨_, _, _, rfl, by omega, by omega⟩
 ·rw [if_neg h]; obtain ⟨r, x, y, hr, h0⟩ := V8 a b; (have hw : IntKind.u64.wrap n = n := by simp only [IntKind.wrap, IntKind.bits, IntKind.signed, Bool.false_and, Bool.false_eq_true, if_false]; omega); rw [hr, Option.bind_some, hw, if_neg (by omega)]; have hm0 : 0 ≤ Int.tmod (r / 2048) n := Int.tmod_nonneg _ (by omega); have hm1 : Int.tmod (r / 2048) n < n := Int.tmod_lt_of_pos _ (by omega); refine ⟨_, _, _, rfl, ?_, ?_⟩
  ·simp only []; rw [eT (by omega) (by omega)]; exact hm0
  ·simp only []; rw [eT (by omega) (by omega)]; exact hm1
theorem xI (a b lo hi : Int) (h : lo ≤ hi) (h1 : -1000000 ≤ lo) (h2 : hi ≤ 1000000) : ∃ v x y, bZ.f a b lo hi = some (v, x, y) ∧ lo ≤ v ∧ v ≤ hi := by
 unfold bZ.f; rw [eT (x := hi - lo) (by omega) (by omega), eT (x := hi - lo + 1) (by omega) (by omega)]; obtain ⟨v, x, y, hv, h3, h4⟩ := uw a b (hi - lo + 1) (by omega) (by omega); rw [hv, Option.bind_some]; refine ⟨_, _, _, rfl, ?_, ?_⟩ <;> (simp only []; rw [eT (by omega) (by omega)]; omega)
theorem Kh (a b n m : Int) (h1 : 1 ≤ m) (h2 : m ≤ 1000000) : ∃ v x y, dA.f a b n m = some (v, x, y) := by
 unfold dA.f; obtain ⟨v, x, y, hv, h3, h4⟩ := uw a b m h1 (by omega); rw [hv, Option.bind_some]; exact ⟨_, _, _, rfl⟩
theorem EG (a b : Int) (l : List Int) (h1 : l ≠ []) (h2 : l.length ≤ 1000) : ∃ v x y, dN.f a b l = some (v, x, y) ∧ v ∈ l := by
 have hl : 0 < l.length := List.length_pos_iff.2 h1; unfold dN.f; rw [if_neg (by omega)]; obtain ⟨v, x, y, hv, h3, h4⟩ := uw a b (l.length : Int) (by omega) (by omega); rw [hv, Option.bind_some]; simp only []; rw [if_pos h3, if_pos h4]; refine ⟨_, _, _, rfl, ?_⟩; obtain ⟨i, rfl⟩ := Int.eq_ofNat_of_zero_le h3; (have hi : i < l.length := by omega); (have : rd l (i : Int) = l[i] := by simp [rd, List.getD_eq_getElem?_getD, hi]); rw [this]; exact List.getElem_mem _
def Asc (l : List S86) : Prop := (∀ s ∈ l, 65 ≤ s.f0 ∧ s.f0 ≤ 90 ∧ 1 ≤ s.f1 ∧ s.f1 ≤ 31) ∧ l.Pairwise (fun a b => a.f0 < b.f0)
theorem Asc.shapes : ∀ {l : List S86} {p : Option Int}, Asc l → (∀ q, p = some q → ∀ s ∈ l, q < s.f0) → jb p l = 0
 | [], _, _, _ => by simp [jb]
 | s :: r, p, h, hp => by
  obtain ⟨h1, h2⟩ := h; have hs := h1 s List.mem_cons_self; rw [jb, if_neg (by omega), if_pos (nR.2 (by omega)), if_neg]
  ·exact Asc.shapes ⟨fun t ht => h1 t (List.mem_cons_of_mem _ ht), (List.pairwise_cons.1 h2).2⟩ (fun q hq t ht => by cases hq; exact (List.pairwise_cons.1 h2).1 t ht)
  ·rintro ⟨q, hq, hle⟩; have := hp q hq s List.mem_cons_self; omega
def pJ (m : Int) (h : S66) : Prop := -600 ≤ h.f0.f0 ∧ h.f0.f0 ≤ h.f0.f1 ∧ h.f0.f1 ≤ 500 ∧ Asc h.f1 ∧ 0 < h.f1.length ∧ (h.f1.length : Int) ≤ m
theorem pJ.valid {m : Int} {h : S66} (hg : pJ m h) (hm : m ≤ 8) : kX h.f0.f0 h.f0.f1 h.f1 = 0 := by
 obtain ⟨h1, h2, h3, h4, h5, h6⟩ := hg; rw [kX, if_pos ⟨nR.2 (by omega), nR.2 (by omega)⟩, if_neg (by omega), if_neg (by omega), if_neg (by omega)]; exact h4.shapes (fun q hq => by cases hq)
theorem TL : ∀ (d : Nat) (x7 x8 a b lo hi : Int) (l : List S86), 0 ≤ x7 → x7 ≤ 26 → 0 ≤ x8 → x8 = (d : Int) → d ≤ 100 → l.length + d ≤ 200 → Asc l → (∀ s ∈ l, s.f0 < 65 + x7) →
 EvI (fun k => aJ.l0 k x7 x8 a b lo hi l) fun r => r.1 = lo ∧ r.2.1 = hi ∧ Asc r.2.2.1 ∧ l.length ≤ r.2.2.1.length ∧ (r.2.2.1.length : Int) ≤ l.length + x8 ∧ (0 < x8 → x7 < 26 → l.length < r.2.2.1.length) := by
 intro d
 induction d with
 | zero =>
  intro x7 x8 a b lo hi l h1 h2 h3 h4 hd hl ha hb; refine EvI.step (f := fun k => aJ.j1 k x7 x8 false a b lo hi l) (fun k => by rw [aJ.l0, if_neg (by omega)]) ?_; refine EvI.step (f := fun k => some (lo, hi, l, a, b)) (fun k => by rw [aJ.j1, if_neg (by simp)]) ?_; refine EvI.now ⟨rfl, rfl, ha, by simp, by simp; omega, fun h => by omega⟩
 | succ d ih =>
  intro x7 x8 a b lo hi l h1 h2 h3 h4 hd hl ha hb; refine EvI.step (f := fun k => aJ.j1 k x7 x8 (decide (x7 < 26)) a b lo hi l) (fun k => by rw [aJ.l0, if_pos (by omega)]) ?_; by_cases h26 : ¬ x7 < 26
  ·refine EvI.step (f := fun k => some (lo, hi, l, a, b)) (fun k => by rw [aJ.j1, if_neg (by simp; omega)]) ?_; refine EvI.now ⟨rfl, rfl, ha, by simp, by simp; omega, fun _ h => by omega⟩
  replace h26 := Decidable.of_not_not h26; obtain ⟨n, x, y, hn, h5, h6⟩ := uw a b (mn 4 (wrap64 (26 - x7))) (by rw [eT (by omega) (by omega)]; unfold mn; split <;> omega) (by rw [eT (by omega) (by omega)]; unfold mn; split <;> omega)
  have h7 : n < 26 - x7 := by
   rw [eT (by omega) (by omega)] at h6; unfold mn at h6; split at h6 <;> omega
  obtain ⟨s, x', y', hs, h8, h9⟩ := xI x y 1 31 (by omega) (by omega) (by omega); have e1 : wrap64 (x7 + n) = x7 + n := eT (by omega) (by omega); (have e2 : wrap64 (65 + (x7 + n)) % 256 = 65 + x7 + n := by rw [eT (by omega) (by omega)]; omega); have e3 : wrap64 (x7 + n + 1) = x7 + n + 1 := eT (by omega) (by omega); have e4 : wrap64 (x8 - 1) = (d : Int) := by rw [eT (by omega) (by omega)]; omega
  refine EvI.step (f := fun k => aJ.l0 k (x7 + n + 1) (d : Int) x' y' lo hi (l ++ [⟨65 + x7 + n, s⟩])) (fun k => by
   rw [aJ.j1, if_pos (decide_eq_true h26), hn, Option.bind_some]; simp only []; rw [hs, Option.bind_some]; simp only []
   rw [if_pos (by omega), e1, e2, e3, e4]) ?_
  obtain ⟨r, hr, r1, r2, r3, r4, r5, r6⟩ := ih (x7 + n + 1) (d : Int) x' y' lo hi (l ++ [⟨65 + x7 + n, s⟩]) (by omega) (by omega) (by omega) rfl (by omega) (by simp; omega) (by
   refine ⟨fun t ht => ?_, ?_⟩
   ·rcases List.mem_append.1 ht with ht | ht
    ·exact ha.1 t ht
    ·rw [List.mem_singleton] at ht; subst ht; exact ⟨by simp only []; omega, by simp only []; omega, h8, h9⟩
   ·refine List.pairwise_append.2 ⟨ha.2, by simp, fun t ht u hu => ?_⟩; rw [List.mem_singleton] at hu; subst hu; have := hb t ht; simp only []
    omega) (fun t ht => by
    rcases List.mem_append.1 ht with ht | ht
    ·have := hb t ht; omega
    ·rw [List.mem_singleton] at ht; subst ht; simp only []
     omega)
  simp only [List.length_append, List.length_cons, List.length_nil] at r4 r5; refine ⟨r, hr, r1, r2, r3, by omega, by push_cast at r5; omega, fun _ _ => by omega⟩
theorem Iy (a b m : Int) (h1 : 1 ≤ m) (h2 : m ≤ 100) : EvI (fun k => aJ.f k a b m) fun r => pJ m ⟨⟨r.1, r.2.1⟩, r.2.2.1⟩ := by
 obtain ⟨lo, x, y, hlo, h3, h4⟩ := xI a b (-600) 300 (by omega) (by omega) (by omega); obtain ⟨u, x', y', hu, h5, h6⟩ := uw x y 200 (by omega) (by omega); obtain ⟨n, x2, y2, hn, h7, h8⟩ := xI x' y' 1 m h1 (by omega) (by omega); have e : wrap64 (lo + u) = lo + u := eT (by omega) (by omega); obtain ⟨d, rfl⟩ := Int.eq_ofNat_of_zero_le (show 0 ≤ n by omega); obtain ⟨r, hr, r1, r2, r3, r4, r5, r6⟩ := TL d 0 (d : Int) x2 y2 lo (lo + u) [] (by omega) (by omega) (by omega) rfl (by omega) (by simp; omega) ⟨fun s hs => absurd hs List.not_mem_nil, List.Pairwise.nil⟩ (fun s hs => absurd hs List.not_mem_nil); have r7 := r6 (by omega) (by omega); simp only [List.length_nil] at r5 r7; simp only [aJ.f]; refine EvI.call hlo (EvI.call hu (EvI.call hn ?_)); simp only [e]; refine ⟨r, hr, ?_⟩; refine ⟨by simp only []; omega, by simp only []; omega, by simp only []; omega, r3, r7, by simp only []; omega⟩
abbrev AP := (List S66) × Int × Int × Int × (List (List S27)) × Int × ByteArray × List Int × Int × Int
def qm (x : S27) : Prop := inP x.f0 0 1023 = true ∧ inP x.f1 0 1023 = true ∧ gp x.f1 x.f0 = 0
def pq (a1 a2 a3 : Int) (r : AP) : Prop :=
 (0 < r.1.length ∧ (r.1.length : Int) ≤ a1 ∧ ∀ h ∈ r.1, pJ a2 h) ∧ (0 ≤ r.2.1 ∧ r.2.1 ≤ 2) ∧ (0 ≤ r.2.2.1 ∧ r.2.2.1 ≤ 2) ∧ (0 ≤ r.2.2.2.1 ∧ r.2.2.2.1 ≤ 40) ∧
  0 < r.2.2.2.2.1.length ∧ (r.2.2.2.2.1.length : Int) ≤ a3 ∧ ∀ q ∈ r.2.2.2.2.1, q.length ≤ 4 ∧ ∀ x ∈ q, qm x
theorem wrap_small {n : Nat} (h : n ≤ 1023) : IntKind.i64.wrap (n : Int) = (n : Int) := by
 have e : wrap64 (n : Int) = IntKind.i64.wrap (n : Int) := by
  simp only [IntKind.wrap, IntKind.bits, IntKind.signed, wrap64]; simp; split <;> omega
 rw [← e, eT (by omega) (by omega)]
theorem En (x : BitVec 64) : BitVec.ofInt IntKind.i64.bits ((x.toNat : Nat) : Int) = x := by
 show BitVec.ofInt 64 ((x.toNat : Nat) : Int) = x; rw [BitVec.ofInt_natCast, BitVec.ofNat_toNat, BitVec.setWidth_eq]
theorem ER (v s : Int) (h0 : 0 ≤ s) (h1 : s ≤ 31) : qm ⟨s, Go.bits .and .i64 v s⟩ := by
 obtain ⟨n, rfl⟩ := Int.eq_ofNat_of_zero_le h0
 have hn : (BitVec.ofInt 64 ((n : Nat) : Int)).toNat = n := by
  rw [BitVec.ofInt_natCast, BitVec.toNat_ofNat]; exact Nat.mod_eq_of_lt (by omega)
 have hle : (BitVec.ofInt 64 v &&& BitVec.ofInt 64 ((n : Nat) : Int)).toNat ≤ 31 := by
  rw [BitVec.toNat_and, hn]; have := @Nat.and_le_right (BitVec.ofInt 64 v).toNat n; omega
 have hb : Go.bits .and .i64 v ((n : Nat) : Int) = ((BitVec.ofInt 64 v &&& BitVec.ofInt 64 ((n : Nat) : Int)).toNat : Int) := wrap_small (n := (BitVec.ofInt 64 v &&& BitVec.ofInt 64 ((n : Nat) : Int)).toNat) (by omega)
 have hz : (BitVec.ofInt 64 v &&& BitVec.ofInt 64 ((n : Nat) : Int)) &&& ~~~(BitVec.ofInt 64 ((n : Nat) : Int)) = (0 : BitVec 64) := by
  rw [BitVec.and_assoc]; simp
 refine ⟨nR.2 ⟨by simp only []; omega, by simp only []; omega⟩, nR.2 ⟨?_, ?_⟩, ?_⟩
 ·simp only []; rw [hb]; omega
 ·simp only []; rw [hb]; omega
 ·simp only []; rw [hb]; unfold gp Go.bits; rw [En]; exact congrArg (fun x : BitVec 64 => IntKind.i64.wrap (x.toNat : Int)) hz
theorem U8 (P : AP → Prop) (x13 : List S86) (x14 x15 x17 : Int) (hs : List S66) (w c t : Int) (sq : List (List S27)) (cut : Int) (txt : ByteArray) (vis : List Int) (y0 y1 : Int)
 (ht : txt.size ≤ 100000) (hv : vis.length ≤ 100000) (hq : sq.length ≤ 100000)
 (K : ∀ (q : List S27) (a b : Int), q.length ≤ 4 → (∀ x ∈ q, qm x) → EvI (fun k => ag.l1 k x13 x14 (wrap64 (x15 - 1)) a b hs w c t (sq ++ [q]) cut (txt ++ strOfNums [y0]) (vis ++ [x17])) P) :
 ∀ (d : Nat) (q : List S27) (a b : Int), q.length + d ≤ 4 → (∀ x ∈ q, qm x) → EvI (fun k => ag.l3 k x13 x14 x15 x17 q (d : Int) a b hs w c t sq cut txt vis y0 y1) P := by
 intro d
 induction d with
 | zero =>
  intro q a b hl hx; refine EvI.step (f := fun k => ag.l1 k x13 x14 (wrap64 (x15 - 1)) a b hs w c t (sq ++ [q]) cut (txt ++ strOfNums [y0]) (vis ++ [x17])) (fun k => ?_) (K q a b (by omega) hx); rw [ag.l3, if_neg (by omega)]; simp only [Option.bind_some]; have e : (strOfNums [y0]).size = 1 := rfl; rw [if_pos (by omega), if_pos (by simp; omega), if_pos (by simp; omega)]
 | succ d ih =>
  intro q a b hl hx; obtain ⟨u, x, y, hu, h3, h4⟩ := uw a b 32 (by omega) (by omega); obtain ⟨s, x', y', hs', hm⟩ := EG x y [31, 15, u] (by simp) (by simp)
  have hs0 : 0 ≤ s ∧ s ≤ 31 := by
   simp only [List.mem_cons, List.not_mem_nil, or_false] at hm; omega
  (have e1 : wrap64 (((d + 1 : Nat) : Int) - 1) = (d : Int) := by rw [eT (by omega) (by omega)]; omega); refine EvI.step (f := fun k => ag.l3 k x13 x14 x15 x17 (q ++ [⟨s, Go.bits .and .i64 x17 s⟩]) (d : Int) x' y' hs w c t sq cut txt vis y0 y1) (fun k => ?_) (ih _ _ _ (by simp; omega) ?_)
  ·rw [ag.l3, if_pos (by omega), hu, Option.bind_some]; simp only []; rw [hs', Option.bind_some]; simp only [Option.bind_some]; rw [if_pos (by simp; omega), e1]
  ·intro z hz; rcases List.mem_append.1 hz with hz | hz
   ·exact hx z hz
   ·rw [List.mem_singleton] at hz; subst hz; exact ER _ _ hs0.1 hs0.2
theorem Vu (P : AP → Prop) (x13 : List S86) (x15 : Int) (hs : List S66) (w c t : Int) (sq : List (List S27)) (cut : Int) (txt : ByteArray) (vis : List Int) (y0 y1 : Int) (m0 : Int) (h0 : 0 ≤ m0) (h1 : m0 ≤ 1000000)
 (K : ∀ (m v a b : Int) (n : Nat), 0 ≤ m → m ≤ m0 + 10 → n ≤ 4 → EvI (fun k => ag.l3 k x13 m x15 v [] (n : Int) a b hs w c t sq cut txt vis y0 y1) P) :
 ∀ (d : Nat) (i m v f g a b : Int), i + d = 5 → 0 ≤ i → 0 ≤ m → m ≤ m0 + 2 * i → EvI (fun k => ag.l2 k x13 m x15 v f g i a b hs w c t sq cut txt vis y0 y1) P := by
 intro d
 induction d with
 | zero =>
  intro i m v f g a b hi hi0 hm hm1; obtain ⟨n, x, y, hn, hmem⟩ := EG a b [0, 1, 1, 2, 3] (by simp) (by simp)
  have hn0 : 0 ≤ n ∧ n ≤ 3 := by
   simp only [List.mem_cons, List.not_mem_nil, or_false] at hmem; omega
  obtain ⟨j, rfl⟩ := Int.eq_ofNat_of_zero_le hn0.1; refine EvI.step (f := fun k => ag.l3 k x13 m x15 v [] (j : Int) x y hs w c t sq cut txt vis y0 y1) (fun k => ?_) (K m v x y j hm (by omega) (by omega)); rw [ag.l2, if_neg (by omega), hn, Option.bind_some]
 | succ d ih =>
  intro i m v f g a b hi hi0 hm hm1
  have J : ∀ (h o : Bool) (a b : Int), EvI (fun k => ag.j3 k x13 m x15 v f g i h o a b hs w c t sq cut txt vis y0 y1) P := by
   intro h o a b; have e1 : wrap64 (i + 1) = i + 1 := eT (by omega) (by omega); have e2 : wrap64 (m + 1) = m + 1 := eT (by omega) (by omega); have e3 : wrap64 (m + 1 + 1) = m + 1 + 1 := eT (by omega) (by omega); obtain ⟨p, x, y, hp⟩ := Kh a b 1 3 (by omega) (by omega); (have I0 : ∀ (v f g a b : Int), EvI (fun k => ag.l2 k x13 m x15 v f g (i + 1) a b hs w c t sq cut txt vis y0 y1) P := fun v f g a b => ih (i + 1) m v f g a b (by omega) (by omega) hm (by omega)); (have I1 : ∀ (v f g a b : Int), EvI (fun k => ag.l2 k x13 (m + 1) x15 v f g (i + 1) a b hs w c t sq cut txt vis y0 y1) P := fun v f g a b => ih (i + 1) (m + 1) v f g a b (by omega) (by omega) (by omega) (by omega)); (have I2 : ∀ (v f g a b : Int), EvI (fun k => ag.l2 k x13 (m + 1 + 1) x15 v f g (i + 1) a b hs w c t sq cut txt vis y0 y1) P := fun v f g a b => ih (i + 1) (m + 1 + 1) v f g a b (by omega) (by omega) (by omega) (by omega)); refine EvI.step (fun k => by rw [ag.j3, e1, e2, e3]) ?_; refine EvI.ite (fun _ => EvI.pos hi0 (EvI.ite (fun _ => I1 ..) (fun _ => EvI.ite (fun _ => EvI.call hp (EvI.ite (fun _ => I2 ..) (fun _ => I1 ..))) (fun _ => I1 ..)))) (fun _ => EvI.ite (fun _ => I0 ..) (fun _ => EvI.ite (fun _ => EvI.call hp (EvI.ite (fun _ => EvI.pos hi0 (I1 ..)) (fun _ => I0 ..))) (fun _ => I0 ..)))
  obtain ⟨p, x, y, hp⟩ := Kh a b 1 3 (by omega) (by omega); refine EvI.step (fun k => by rw [ag.l2, if_pos (by omega), if_pos hi0]) ?_; exact EvI.ite (fun _ => EvI.ite (fun _ => EvI.call hp (J ..)) (fun _ => J ..)) (fun _ => J ..)
theorem UX (a1 a2 a3 : Int) (x13 : List S86) (hx : 0 < x13.length) (hx' : x13.length ≤ 1000) (hs : List S66) (w c t : Int) (hh : 0 < hs.length ∧ (hs.length : Int) ≤ a1 ∧ ∀ h ∈ hs, pJ a2 h) (hw : 0 ≤ w ∧ w ≤ 2) (hc : 0 ≤ c ∧ c ≤ 2) (cut : Int) :
 ∀ (d : Nat) (m a b : Int) (sq : List (List S27)) (txt : ByteArray) (vis : List Int), d ≤ 1000 → 0 ≤ m → m + 10 * d ≤ 100000 → ((sq.length : Int) + d ≤ a3) → (0 < sq.length + d) → txt.size + d ≤ 100000 → vis.length + d ≤ 100000 → sq.length + d ≤ 100000 → (∀ q ∈ sq, q.length ≤ 4 ∧ ∀ x ∈ q, qm x) →
  EvI (fun k => ag.l1 k x13 m (d : Int) a b hs w c t sq cut txt vis) (pq a1 a2 a3) := by
 intro d
 induction d with
 | zero =>
  intro m a b sq txt vis hd hm hm1 h3 h4 h5 h6 h7 hq; obtain ⟨n, x, y, hn, hmem⟩ := EG a b [0, 0, 1, 2] (by simp) (by simp)
  have hn0 : 0 ≤ n ∧ n ≤ 2 := by
   simp only [List.mem_cons, List.not_mem_nil, or_false] at hmem; omega
  refine EvI.step (f := fun k => some (hs, w, c, mn 40 (wrap64 (m + n)), sq, cut, txt, vis, x, y)) (fun k => ?_) (EvI.now ⟨hh, hw, hc, ?_, by simpa using h4, by simp only []; omega, hq⟩)
  ·rw [ag.l1, if_neg (by omega), hn, Option.bind_some]
  ·simp only []; rw [eT (by omega) (by omega)]; unfold mn; split <;> omega
 | succ d ih =>
  intro m a b sq txt vis hd hm hm1 h3 h4 h5 h6 h7 hq; obtain ⟨u, x, y, hu, h8, h9⟩ := uw a b (x13.length : Int) (by omega) (by omega); have ew : wrap64 (w + 1) = w + 1 := eT (by omega) (by omega); have ec : wrap64 (c + 1) = c + 1 := eT (by omega) (by omega); obtain ⟨f, x1, y1, hf, _, _⟩ := uw x y (w + 1) (by omega) (by omega); obtain ⟨g, x2, y2, hg, _, _⟩ := uw x1 y1 (c + 1) (by omega) (by omega); refine EvI.step (f := fun k => ag.l2 k x13 m ((d + 1 : Nat) : Int) ((ai x13 u).f1) f g 0 x2 y2 hs w c t sq cut txt vis ((ai x13 u).f0) ((ai x13 u).f1)) (fun k => ?_) ?_
  ·rw [ag.l1, if_pos (by omega), hu, Option.bind_some]; simp only []; rw [if_pos h8, if_pos h9, ew, hf, Option.bind_some]; simp only []; rw [ec, hg, Option.bind_some]
  refine Vu _ x13 _ hs w c t sq cut txt vis _ _ m hm (by omega) (fun m' v a b n hm0 hm1 hn => ?_) 5 0 m _ f g x2 y2 (by omega) (by omega) hm (by omega); refine U8 _ x13 m' _ v hs w c t sq cut txt vis _ _ (by omega) (by omega) (by omega) (fun q a b hq1 hq2 => ?_) n [] a b (by simpa using hn) (fun x hx => absurd hx List.not_mem_nil); (have e1 : wrap64 (((d + 1 : Nat) : Int) - 1) = (d : Int) := by rw [eT (by omega) (by omega)]; omega); rw [e1]; refine ih m' a b (sq ++ [q]) _ _ (by omega) hm0 (by omega) (by simp; omega) (by simp; omega) ?_ (by simp; omega) (by simp; omega) ?_
  ·have : (strOfNums [(ai x13 u).f0]).size = 1 := rfl; rw [ByteArray.size_append]; omega
  ·intro z hz; rcases List.mem_append.1 hz with hz | hz
   ·exact hq z hz
   ·rw [List.mem_singleton] at hz; subst hz; exact ⟨hq1, hq2⟩
theorem VN (a1 a2 a3 : Int) (h2 : 1 ≤ a2) (h2' : a2 ≤ 100) (h3 : 1 ≤ a3) (h3' : a3 ≤ 100) (w c : Int) (hw : 0 ≤ w ∧ w ≤ 2) (hc : 0 ≤ c ∧ c ≤ 2) :
 ∀ (d : Nat) (a b : Int) (hs : List S66), 0 < hs.length + d → (hs.length : Int) + d ≤ a1 → hs.length + d ≤ 1000 → (∀ h ∈ hs, pJ a2 h) → EvI (fun k => ag.l0 k a2 a3 (d : Int) a b hs w c 0) (pq a1 a2 a3) := by
 intro d
 induction d with
 | zero =>
  intro a b hs h4 h5 h6 hh; obtain ⟨u, x, y, hu, h8, h9⟩ := uw a b (hs.length : Int) (by omega) (by omega); obtain ⟨n, x1, y1, hn, h10, h11⟩ := xI x y 1 a3 h3 (by omega) (by omega); obtain ⟨j, rfl⟩ := Int.eq_ofNat_of_zero_le (show 0 ≤ n by omega)
  have hg := hh (ah hs u) (by
   obtain ⟨i, rfl⟩ := Int.eq_ofNat_of_zero_le h8; rw [NR, List.getD_eq_getElem?_getD, List.getElem?_eq_getElem (by omega)]
   exact List.getElem_mem _)
  refine EvI.step (f := fun k => ag.l1 k ((ah hs u).f1) 0 (j : Int) x1 y1 hs w c 0 [] u ⟨#[]⟩ []) (fun k => ?_) ?_
  ·rw [ag.l0, if_neg (by omega), hu, Option.bind_some]; simp only []; rw [if_pos h8, if_pos h9, hn, Option.bind_some]
  ·refine UX a1 a2 a3 _ hg.2.2.2.2.1 (by have := hg.2.2.2.2.2; omega) hs w c 0 ⟨by omega, by omega, hh⟩ hw hc u j 0 x1 y1 [] _ [] (by omega) (by omega) (by omega) (by simp; omega) (by simp; omega) ?_ (by simp; omega) (by simp; omega) (fun q hq => absurd hq List.not_mem_nil); have : (ByteArray.mk #[]).size = 0 := rfl; omega
 | succ d ih =>
  intro a b hs h4 h5 h6 hh; (have e1 : wrap64 (((d + 1 : Nat) : Int) - 1) = (d : Int) := by rw [eT (by omega) (by omega)]; omega); refine EvI.step (fun k => by rw [ag.l0, if_pos (by omega), e1]) ?_; refine EvI.bind (Iy a b a2 h2 h2') (fun r hr => ?_); refine EvI.call rfl (EvI.pos ?_ ?_)
  ·simp; omega
  ·refine ih _ _ _ (by simp; omega) (by simp; omega) (by simp; omega) (fun h hm => ?_); rcases List.mem_append.1 hm with hm | hm
   ·exact hh h hm
   ·rw [List.mem_singleton] at hm; subst hm; exact hr
theorem Tn (a b a1 a2 a3 : Int) (h1 : 1 ≤ a1) (h1' : a1 ≤ 100) (h2 : 1 ≤ a2) (h2' : a2 ≤ 100) (h3 : 1 ≤ a3) (h3' : a3 ≤ 100) : EvI (fun k => ag.f k a b a1 a2 a3) (pq a1 a2 a3) := by
 obtain ⟨w, x, y, hw, h4, h5⟩ := uw a b 3 (by omega) (by omega); obtain ⟨c, x1, y1, hc, h6, h7⟩ := uw x y 3 (by omega) (by omega); obtain ⟨n, x2, y2, hn, h8, h9⟩ := xI x1 y1 1 a1 h1 (by omega) (by omega); obtain ⟨j, rfl⟩ := Int.eq_ofNat_of_zero_le (show 0 ≤ n by omega); simp only [ag.f]; refine EvI.call hw (EvI.call hc (EvI.call hn ?_)); exact VN a1 a2 a3 h2 h2' h3 h3' w c (by omega) (by omega) j x2 y2 [] (by simp; omega) (by simp; omega) (by simp; omega) (fun h hm => absurd hm List.not_mem_nil)
theorem Dx {m : Int} (hm : m ≤ 8) : ∀ {l : List S66}, (∀ h ∈ l, pJ m h) → ji l = 0
 | [], _ => rfl
 | h :: r, hh => by
  rw [ji, if_pos ((hh h List.mem_cons_self).valid hm)]; exact Dx hm fun x hx => hh x (List.mem_cons_of_mem _ hx)
theorem zY : ∀ {l : List S27}, (∀ x ∈ l, qm x) → ko l = 0
 | [], _ => rfl
 | x :: r, hh => by
  have h := hh x List.mem_cons_self; rw [ko, if_pos ⟨h.1, h.2.1⟩, if_pos h.2.2]; exact zY fun x hx => hh x (List.mem_cons_of_mem _ hx)
theorem zf : ∀ {l : List (List S27)}, (∀ q ∈ l, q.length ≤ 4 ∧ ∀ x ∈ q, qm x) → jd l = 0
 | [], _ => rfl
 | q :: r, hh => by
  have h := hh q List.mem_cons_self; rw [jd, if_neg (by omega), if_pos (zY h.2)]; exact zf fun x hx => hh x (List.mem_cons_of_mem _ hx)
theorem pq.check {a1 a2 a3 : Int} {r : AP} (h : pq a1 a2 a3 r) (h1 : a1 ≤ 4) (h2 : a2 ≤ 8) (h3 : a3 ≤ 8) {t : Int} (h4 : 0 ≤ t) (h5 : t ≤ 40) {sq : List (List S27)} (h6 : sq.length = r.2.2.2.2.1.length) (h7 : ∀ q ∈ sq, q.length ≤ 4 ∧ ∀ x ∈ q, qm x) : eH r.1 r.2.1 r.2.2.1 t sq = 0 := by
 obtain ⟨⟨g1, g2, g3⟩, g4, g5, g6, g7, g8, g9⟩ := h; rw [eH, if_neg (by omega), if_neg (by omega), if_pos (Dx h2 g3), if_pos ⟨nR.2 (by omega), nR.2 (by omega), nR.2 (by omega)⟩, if_neg (by omega), if_neg (by omega)]; exact zf h7
set_option maxRecDepth 100000
theorem Pk : ∀ a b : Fin 32, Go.bits .and .i64 (a.1 : Int) (b.1 : Int) = ((a.1 &&& b.1 : Nat) : Int) := by decide +kernel
theorem acw : ∀ a b : Fin 32, Go.bits .or .i64 (a.1 : Int) (b.1 : Int) = ((a.1 ||| b.1 : Nat) : Int) := by decide +kernel
theorem XG : ∀ a b : Fin 32, gp (a.1 : Int) (b.1 : Int) = ((a.1 &&& (31 ^^^ b.1) : Nat) : Int) := by decide +kernel
def pop (a : Nat) : Nat := (a.testBit 0).toNat + (a.testBit 1).toNat + (a.testBit 2).toNat + (a.testBit 3).toNat + (a.testBit 4).toNat
theorem Qn : ∀ a : Fin 32, nH (a.1 : Int) = (pop a.1 : Int) := by decide +kernel
def lost (s v : Nat) : Nat := pop (s &&& (31 ^^^ v))
def made (s v : Nat) : Nat := pop (v &&& (31 ^^^ s))
theorem ZM : ∀ s v h : Fin 32, pop ((s.1 &&& h.1) &&& (31 ^^^ (v.1 &&& h.1))) ≤ lost s.1 v.1 ∧ pop ((v.1 &&& h.1) &&& (31 ^^^ s.1)) ≤ made s.1 v.1 := by decide +kernel
theorem VK : ∀ (s : Fin 32) (i : Fin 5), Go.bits .and .i64 (shr .i64 (s.1 : Int) (i.1 : Int)) 1 = (if s.1.testBit i.1 then 1 else 0) := by decide +kernel
theorem Tv : ∀ (i : Fin 5), shl .i64 1 (i.1 : Int) = ((2 ^ i.1 : Nat) : Int) := by decide +kernel
def Agree (s v i : Nat) : Bool := (s ^^^ v) / 2 ^ i == 0
theorem Nt : ∀ (s v : Fin 32) (i : Fin 5), Agree s.1 v.1 i.1 = true → s.1.testBit i.1 = true → 2 ^ i.1 ≤ v.1 ∧ Agree s.1 (v.1 - 2 ^ i.1) (i.1 + 1) = true ∧ lost s.1 (v.1 - 2 ^ i.1) = lost s.1 v.1 + 1 ∧ made s.1 (v.1 - 2 ^ i.1) = made s.1 v.1 := by decide +kernel
theorem MQ : ∀ (s v : Fin 32) (i : Fin 5), Agree s.1 v.1 i.1 = true → s.1.testBit i.1 = false → v.1 + 2 ^ i.1 < 32 ∧ Agree s.1 (v.1 + 2 ^ i.1) (i.1 + 1) = true ∧ lost s.1 (v.1 + 2 ^ i.1) = lost s.1 v.1 ∧ made s.1 (v.1 + 2 ^ i.1) = made s.1 v.1 + 1 := by decide +kernel
theorem NS : ∀ (s v : Fin 32) (i : Fin 5), Agree s.1 v.1 i.1 = true → Agree s.1 v.1 (i.1 + 1) = true := by decide +kernel
theorem JI : ∀ s : Fin 32, Agree s.1 s.1 0 = true ∧ lost s.1 s.1 = 0 ∧ made s.1 s.1 = 0 := by decide +kernel
theorem Xe : ∀ a b : Fin 32, a.1 ||| b.1 < 32 := by decide +kernel
theorem af0 : ∀ a b : Fin 32, a.1 &&& (b.1 ||| a.1) = a.1 := by decide +kernel
theorem af4 : ∀ v a b : Fin 32, (v.1 &&& a.1) ||| (v.1 &&& b.1) = v.1 &&& (a.1 ||| b.1) := by decide +kernel
theorem aec : ∀ v h x : Fin 32, x.1 &&& h.1 = x.1 → (v.1 &&& h.1) &&& x.1 = v.1 &&& x.1 := by decide +kernel
theorem Pv : ∀ a : Fin 32, pop a.1 ≤ 5 := by decide +kernel
def Ep (v : Nat) (x : S27) : Prop := ∃ a : Nat, a < 32 ∧ x = ⟨(a : Int), ((v &&& a : Nat) : Int)⟩
theorem Ep.ok {v : Nat} (hv : v < 32) {x : S27} (h : Ep v x) : qm x := by
 obtain ⟨a, ha, rfl⟩ := h; have := ER (v : Int) (a : Int) (by omega) (by omega); rw [Pk ⟨v, hv⟩ ⟨a, ha⟩] at this; exact this
def fI (sh : List S86) (k : Nat) : Nat := (sh.getD k z86).f1.toNat
def P6 (W S : Int) (sh : List S86) (q : List S27) (m c : Int) : Prop :=
 ∃ k v : Nat, k < sh.length ∧ v < 32 ∧ (∀ x ∈ q, Ep v x) ∧ (lost (fI sh k) v : Int) ≤ W ∧ (made (fI sh k) v : Int) ≤ S ∧ ((lost (fI sh k) v : Int) + (made (fI sh k) v : Int)) ≤ m ∧ (sh.getD k z86).f0 = c
def zi (W S : Int) (sh : List S86) (sq : List (List S27)) (ms cs : List Int) : Prop := ms.length = sq.length ∧ cs.length = sq.length ∧ ∀ i (h : i < sq.length), P6 W S sh sq[i] (ms.getD i 0) (cs.getD i 0)
theorem zi.snoc {W S : Int} {sh : List S86} {sq : List (List S27)} {ms cs : List Int} (h : zi W S sh sq ms cs) {q : List S27} {m c : Int} (hq : P6 W S sh q m c) : zi W S sh (sq ++ [q]) (ms ++ [m]) (cs ++ [c]) := by
 obtain ⟨h1, h0, h2⟩ := h; refine ⟨by simp [h1], by simp [h0], fun i hi => ?_⟩; by_cases hi' : i < sq.length
 ·have e1 : (sq ++ [q])[i] = sq[i] := List.getElem_append_left hi'; (have e2 : (ms ++ [m]).getD i 0 = ms.getD i 0 := by simp [List.getD_eq_getElem?_getD, List.getElem?_append_left (show i < ms.length by omega)]); (have e3 : (cs ++ [c]).getD i 0 = cs.getD i 0 := by simp [List.getD_eq_getElem?_getD, List.getElem?_append_left (show i < cs.length by omega)]); rw [e1, e2, e3]; exact h2 i hi'
 ·(have e : i = sq.length := by simp at hi; omega); subst e; (have e1 : (sq ++ [q])[sq.length] = q := by simp); (have e2 : (ms ++ [m]).getD sq.length 0 = m := by rw [← h1]; simp [List.getD_eq_getElem?_getD]); (have e3 : (cs ++ [c]).getD sq.length 0 = c := by rw [← h0]; simp [List.getD_eq_getElem?_getD]); rw [e1, e2, e3]; exact hq
def Hu (sq : List (List S27)) (vis : List Int) : Prop := vis.length = sq.length ∧ ∀ i (h : i < sq.length), ∃ v : Nat, v < 32 ∧ vis.getD i 0 = (v : Int) ∧ ∀ x ∈ sq[i], Ep v x
theorem Hu.snoc {sq : List (List S27)} {vis : List Int} (h : Hu sq vis) {q : List S27} {v : Nat} (hv : v < 32) (hq : ∀ x ∈ q, Ep v x) : Hu (sq ++ [q]) (vis ++ [(v : Int)]) := by
 obtain ⟨h1, h2⟩ := h; refine ⟨by simp [h1], fun i hi => ?_⟩; by_cases hi' : i < sq.length
 ·have e1 : (sq ++ [q])[i] = sq[i] := List.getElem_append_left hi'; (have e2 : (vis ++ [(v : Int)]).getD i 0 = vis.getD i 0 := by simp [List.getD_eq_getElem?_getD, List.getElem?_append_left (show i < vis.length by omega)]); rw [e1, e2]; exact h2 i hi'
 ·(have e : i = sq.length := by simp at hi; omega); subst e; (have e1 : (sq ++ [q])[sq.length] = q := by simp); (have e2 : (vis ++ [(v : Int)]).getD sq.length 0 = v := by rw [← h1]; simp [List.getD_eq_getElem?_getD]); rw [e1]; exact ⟨v, hv, e2, hq⟩
def Mt (r : AP) : Prop := 0 ≤ r.2.2.2.2.2.1 ∧ r.2.2.2.2.2.1 < (r.1.length : Int) ∧ ∃ ms cs : List Int, zi r.2.1 r.2.2.1 (ah r.1 r.2.2.2.2.2.1).f1 r.2.2.2.2.1 ms cs ∧ ms.sum ≤ r.2.2.2.1 ∧ r.2.2.2.2.2.2.1 = strOfNums cs ∧ Hu r.2.2.2.2.1 r.2.2.2.2.2.2.2.1
theorem Dk (l : List Int) (y : Int) : strOfNums (l ++ [y]) = strOfNums l ++ strOfNums [y] := ByteArray.ext (by rw [ByteArray.data_append]; simp [strOfNums])
theorem Uw (P : AP → Prop) (x13 : List S86) (x14 x15 : Int) (v : Nat) (hv32 : v < 32) (hs : List S66) (w c t : Int) (sq : List (List S27)) (cut : Int) (txt : ByteArray) (vis : List Int) (y0 y1 : Int)
 (ht : txt.size ≤ 100000) (hv : vis.length ≤ 100000) (hq : sq.length ≤ 100000)
 (K : ∀ (q : List S27) (a b : Int), q.length ≤ 4 → (∀ x ∈ q, Ep v x) → EvI (fun k => ag.l1 k x13 x14 (wrap64 (x15 - 1)) a b hs w c t (sq ++ [q]) cut (txt ++ strOfNums [y0]) (vis ++ [(v : Int)])) P) :
 ∀ (d : Nat) (q : List S27) (a b : Int), q.length + d ≤ 4 → (∀ x ∈ q, Ep v x) → EvI (fun k => ag.l3 k x13 x14 x15 (v : Int) q (d : Int) a b hs w c t sq cut txt vis y0 y1) P := by
 intro d
 induction d with
 | zero =>
  intro q a b hl hx; refine EvI.step (f := fun k => ag.l1 k x13 x14 (wrap64 (x15 - 1)) a b hs w c t (sq ++ [q]) cut (txt ++ strOfNums [y0]) (vis ++ [(v : Int)])) (fun k => ?_) (K q a b (by omega) hx); rw [ag.l3, if_neg (by omega)]; simp only [Option.bind_some]; have e : (strOfNums [y0]).size = 1 := rfl; rw [if_pos (by omega), if_pos (by simp; omega), if_pos (by simp; omega)]
 | succ d ih =>
  intro q a b hl hx; obtain ⟨u, x, y, hu, h3, h4⟩ := uw a b 32 (by omega) (by omega); obtain ⟨s, x', y', hs', hm⟩ := EG x y [31, 15, u] (by simp) (by simp)
  have hs0 : 0 ≤ s ∧ s ≤ 31 := by
   simp only [List.mem_cons, List.not_mem_nil, or_false] at hm; omega
  obtain ⟨n, rfl⟩ := Int.eq_ofNat_of_zero_le hs0.1; (have e1 : wrap64 (((d + 1 : Nat) : Int) - 1) = (d : Int) := by rw [eT (by omega) (by omega)]; omega); refine EvI.step (f := fun k => ag.l3 k x13 x14 x15 (v : Int) (q ++ [⟨(n : Int), Go.bits .and .i64 (v : Int) (n : Int)⟩]) (d : Int) x' y' hs w c t sq cut txt vis y0 y1) (fun k => ?_) (ih _ _ _ (by simp; omega) ?_)
  ·rw [ag.l3, if_pos (by omega), hu, Option.bind_some]; simp only []; rw [hs', Option.bind_some]; simp only [Option.bind_some]; rw [if_pos (by simp; omega), e1]
  ·intro z hz; rcases List.mem_append.1 hz with hz | hz
   ·exact hx z hz
   ·rw [List.mem_singleton] at hz; subst hz; exact ⟨n, by omega, by rw [Pk ⟨v, hv32⟩ ⟨n, by omega⟩]⟩
theorem Uh (P : AP → Prop) (x13 : List S86) (x15 : Int) (hs : List S66) (w c t : Int) (sq : List (List S27)) (cut : Int) (txt : ByteArray) (vis : List Int) (y0 : Int) (s : Nat) (hs32 : s < 32) (m0 w0 c0 : Int) (h0 : 0 ≤ m0) (h1 : m0 ≤ 1000000) (hw0 : w0 ≤ 100) (hc0 : c0 ≤ 100)
 (K : ∀ (v : Nat) (a b : Int) (n : Nat), v < 32 → (lost s v : Int) ≤ w0 → (made s v : Int) ≤ c0 → n ≤ 4 → EvI (fun k => ag.l3 k x13 (m0 + (lost s v : Int) + (made s v : Int)) x15 (v : Int) [] (n : Int) a b hs w c t sq cut txt vis y0 (s : Int)) P) :
 ∀ (d i v : Nat) (a b : Int), i + d = 5 → v < 32 → Agree s v i = true → (lost s v : Int) ≤ w0 → (made s v : Int) ≤ c0 →
  EvI (fun k => ag.l2 k x13 (m0 + (lost s v : Int) + (made s v : Int)) x15 (v : Int) (w0 - (lost s v : Int)) (c0 - (made s v : Int)) (i : Int) a b hs w c t sq cut txt vis y0 (s : Int)) P := by
 intro d
 induction d with
 | zero =>
  intro i v a b hi hv ha hl hm; obtain ⟨n, x, y, hn, hmem⟩ := EG a b [0, 1, 1, 2, 3] (by simp) (by simp)
  have hn0 : 0 ≤ n ∧ n ≤ 3 := by
   simp only [List.mem_cons, List.not_mem_nil, or_false] at hmem; omega
  obtain ⟨j, rfl⟩ := Int.eq_ofNat_of_zero_le hn0.1; refine EvI.step (f := fun k => ag.l3 k x13 (m0 + (lost s v : Int) + (made s v : Int)) x15 (v : Int) [] (j : Int) x y hs w c t sq cut txt vis y0 (s : Int)) (fun k => ?_) (K v x y j hv hl hm (by omega)); rw [ag.l2, if_neg (by omega), hn, Option.bind_some]
 | succ d ih =>
  intro i v a b hi hv ha hl hm; (have hi5 : i < 5 := by omega); (have e1 : wrap64 ((i : Int) + 1) = ((i + 1 : Nat) : Int) := by rw [eT (by omega) (by omega)]; omega); have esh := Tv ⟨i, hi5⟩; have ehas := VK ⟨s, hs32⟩ ⟨i, hi5⟩; simp only [] at esh ehas; have same := NS ⟨s, hs32⟩ ⟨v, hv⟩ ⟨i, hi5⟩ ha; obtain ⟨p, x, y, hp⟩ := Kh a b 1 3 (by omega) (by omega); have I0 : ∀ (a b : Int), EvI (fun k => ag.l2 k x13 (m0 + (lost s v : Int) + (made s v : Int)) x15 (v : Int) (w0 - (lost s v : Int)) (c0 - (made s v : Int)) ((i + 1 : Nat) : Int) a b hs w c t sq cut txt vis y0 (s : Int)) P := fun a b => ih (i + 1) v a b (by omega) hv same hl hm
  cases hb : s.testBit i with
  | true =>
   rw [hb, if_pos rfl] at ehas; obtain ⟨g1, g2, g3, g4⟩ := Nt ⟨s, hs32⟩ ⟨v, hv⟩ ⟨i, hi5⟩ ha hb; simp only [] at g1 g2 g3 g4; generalize hz : 2 ^ i = z at g1 g2 g3 g4 esh; have hz1 : 1 ≤ z := by rw [← hz]; exact Nat.one_le_two_pow
   have JF : ∀ (a b : Int), EvI (fun k => ag.j3 k x13 (m0 + (lost s v : Int) + (made s v : Int)) x15 (v : Int) (w0 - (lost s v : Int)) (c0 - (made s v : Int)) (i : Int) true false a b hs w c t sq cut txt vis y0 (s : Int)) P := fun a b => by
    refine EvI.step (fun k => ?_) (I0 a b); rw [ag.j3, if_neg (by simp), if_pos rfl, e1]
   have JT : (lost s v : Int) < w0 → ∀ (a b : Int), EvI (fun k => ag.j3 k x13 (m0 + (lost s v : Int) + (made s v : Int)) x15 (v : Int) (w0 - (lost s v : Int)) (c0 - (made s v : Int)) (i : Int) true true a b hs w c t sq cut txt vis y0 (s : Int)) P := fun hlt a b => by
    have q := ih (i + 1) (v - z) a b (by omega) (by omega) g2 (by rw [g3]; push_cast; omega) (by rw [g4]; exact hm); (have e2 : wrap64 (m0 + (lost s v : Int) + (made s v : Int) + 1) = m0 + (lost s (v - z) : Int) + (made s (v - z) : Int) := by rw [eT (by omega) (by omega), g3, g4]; push_cast; omega); (have e3 : wrap64 ((v : Int) - (z : Int)) = ((v - z : Nat) : Int) := by rw [eT (by omega) (by omega)]; omega); (have e4 : wrap64 (w0 - (lost s v : Int) - 1) = w0 - (lost s (v - z) : Int) := by rw [eT (by omega) (by omega), g3]; push_cast; omega); refine EvI.step (fun k => ?_) q; rw [ag.j3, if_pos rfl, if_pos (by omega), if_pos rfl, e1, e2, esh, e3, e4, g4]
   by_cases hf : w0 - (lost s v : Int) > 0
   ·cases p with
    | false =>
     refine EvI.step (fun k => ?_) (JF x y); rw [ag.l2, if_pos (by omega), if_pos (by omega), if_pos ehas, if_pos hf, hp, Option.bind_some, ehas]; rfl
    | true =>
     refine EvI.step (fun k => ?_) (JT (by omega) x y); rw [ag.l2, if_pos (by omega), if_pos (by omega), if_pos ehas, if_pos hf, hp, Option.bind_some, ehas]; rfl
   ·refine EvI.step (fun k => ?_) (JF a b); rw [ag.l2, if_pos (by omega), if_pos (by omega), if_pos ehas, if_neg hf, ehas]; rfl
  | false =>
   rw [hb, if_neg (by simp)] at ehas; obtain ⟨g1, g2, g3, g4⟩ := MQ ⟨s, hs32⟩ ⟨v, hv⟩ ⟨i, hi5⟩ ha hb; simp only [] at g1 g2 g3 g4; generalize hz : 2 ^ i = z at g1 g2 g3 g4 esh; have hz1 : 1 ≤ z := by rw [← hz]; exact Nat.one_le_two_pow
   have J : EvI (fun k => ag.j3 k x13 (m0 + (lost s v : Int) + (made s v : Int)) x15 (v : Int) (w0 - (lost s v : Int)) (c0 - (made s v : Int)) (i : Int) false false a b hs w c t sq cut txt vis y0 (s : Int)) P := by
    by_cases hg : c0 - (made s v : Int) > 0
    ·cases p with
     | false =>
      refine EvI.step (fun k => ?_) (I0 x y); rw [ag.j3, if_neg (by simp), if_neg (by simp), if_pos hg, hp, Option.bind_some, if_neg (by simp), e1]
     | true =>
      have q := ih (i + 1) (v + z) x y (by omega) g1 g2 (by rw [g3]; exact hl) (by rw [g4]; push_cast; omega); (have e2 : wrap64 (m0 + (lost s v : Int) + (made s v : Int) + 1) = m0 + (lost s (v + z) : Int) + (made s (v + z) : Int) := by rw [eT (by omega) (by omega), g3, g4]; push_cast; omega); (have e3 : wrap64 ((v : Int) + (z : Int)) = ((v + z : Nat) : Int) := by rw [eT (by omega) (by omega)]; omega); (have e4 : wrap64 (c0 - (made s v : Int) - 1) = c0 - (made s (v + z) : Int) := by rw [eT (by omega) (by omega), g4]; push_cast; omega); refine EvI.step (fun k => ?_) q; rw [ag.j3, if_neg (by simp), if_neg (by simp), if_pos hg, hp, Option.bind_some, if_pos rfl, if_pos (by omega), e1, e2, esh, e3, e4, g3]
    ·refine EvI.step (fun k => ?_) (I0 a b); rw [ag.j3, if_neg (by simp), if_neg (by simp), if_neg hg, e1]
   refine EvI.step (fun k => ?_) J; rw [ag.l2, if_pos (by omega), if_pos (by omega), if_neg (by rw [ehas]; decide), ehas]; rfl
theorem Ru (ms : List Int) (m : Int) : (ms ++ [m]).sum = ms.sum + m := by simp [List.sum_append]
theorem UB (a1 a2 a3 : Int) (sh : List S86) (hx : 0 < sh.length) (hx' : sh.length ≤ 1000) (hasc : Asc sh) (hs : List S66) (w c t : Int) (hh : 0 < hs.length ∧ (hs.length : Int) ≤ a1 ∧ ∀ h ∈ hs, pJ a2 h) (hw : 0 ≤ w ∧ w ≤ 2) (hc : 0 ≤ c ∧ c ≤ 2) (cut : Int) (hcut0 : 0 ≤ cut) (hcut1 : cut < (hs.length : Int)) (hsh : (ah hs cut).f1 = sh) (h8 : a3 ≤ 8) :
 ∀ (d : Nat) (m a b : Int) (sq : List (List S27)) (txt : ByteArray) (vis : List Int) (ms cs : List Int), 0 ≤ m → ms.sum ≤ m → m ≤ 4 * sq.length → ((sq.length : Int) + d ≤ a3) → (0 < sq.length + d) → txt.size + d ≤ 1000 → vis.length + d ≤ 1000 → (∀ q ∈ sq, q.length ≤ 4 ∧ ∀ x ∈ q, qm x) → zi w c sh sq ms cs → txt = strOfNums cs → Hu sq vis →
  EvI (fun k => ag.l1 k sh m (d : Int) a b hs w c t sq cut txt vis) (fun r => pq a1 a2 a3 r ∧ Mt r) := by
 intro d
 induction d with
 | zero =>
  intro m a b sq txt vis ms cs hm hms hm1 h3 h4 h5 h6 hq hT htx hvs; obtain ⟨n, x, y, hn, hmem⟩ := EG a b [0, 0, 1, 2] (by simp) (by simp)
  have hn0 : 0 ≤ n ∧ n ≤ 2 := by
   simp only [List.mem_cons, List.not_mem_nil, or_false] at hmem; omega
  (have et : mn 40 (wrap64 (m + n)) = mn 40 (m + n) := by rw [eT (by omega) (by omega)]); refine EvI.step (f := fun k => some (hs, w, c, mn 40 (m + n), sq, cut, txt, vis, x, y)) (fun k => ?_) (EvI.now ⟨⟨hh, hw, hc, ?_, by simpa using h4, by simp only []; omega, hq⟩, hcut0, hcut1, ms, cs, ?_, ?_, htx, hvs⟩)
  ·rw [ag.l1, if_neg (by omega), hn, Option.bind_some, et]
  ·simp only []; unfold mn; split <;> omega
  ·simp only []; rw [hsh]; exact hT
  ·simp only []; unfold mn; split <;> omega
 | succ d ih =>
  intro m a b sq txt vis ms cs hm hms hm1 h3 h4 h5 h6 hq hT htx hvs; obtain ⟨u, x, y, hu, h9, h10⟩ := uw a b (sh.length : Int) (by omega) (by omega); have ew : wrap64 (w + 1) = w + 1 := eT (by omega) (by omega); have ec : wrap64 (c + 1) = c + 1 := eT (by omega) (by omega); obtain ⟨f, x1, y1, hf, hf0, hf1⟩ := uw x y (w + 1) (by omega) (by omega); obtain ⟨g, x2, y2, hg, hg0, hg1⟩ := uw x1 y1 (c + 1) (by omega) (by omega); obtain ⟨i, rfl⟩ := Int.eq_ofNat_of_zero_le h9; have hi : i < sh.length := by omega
  have hmem : sh.getD i z86 ∈ sh := by
   rw [List.getD_eq_getElem?_getD, List.getElem?_eq_getElem hi]; exact List.getElem_mem _
  have hst := hasc.1 _ hmem; (have hs32 : fI sh i < 32 := by unfold fI; omega); (have es : (sh.getD i z86).f1 = (fI sh i : Int) := by unfold fI; omega); have hself := JI ⟨fI sh i, hs32⟩; simp only [] at hself; refine EvI.step (f := fun k => ag.l2 k sh (m + (lost (fI sh i) (fI sh i) : Int) + (made (fI sh i) (fI sh i) : Int)) ((d + 1 : Nat) : Int) (fI sh i : Int) (f - (lost (fI sh i) (fI sh i) : Int)) (g - (made (fI sh i) (fI sh i) : Int)) ((0 : Nat) : Int) x2 y2 hs w c t sq cut txt vis ((sh.getD i z86).f0) (fI sh i : Int)) (fun k => ?_) ?_
  ·rw [ag.l1, if_pos (by omega), hu, Option.bind_some]; simp only []; rw [if_pos h9, if_pos h10, ew, hf, Option.bind_some]; simp only []; rw [ec, hg, Option.bind_some, Kg, es, hself.2.1, hself.2.2]; simp
  refine Uh _ sh _ hs w c t sq cut txt vis _ (fI sh i) hs32 m f g hm (by omega) (by omega) (by omega) (fun v a b n hv hl hm' hn => ?_) 5 0 (fI sh i) x2 y2 (by omega) hs32 hself.1 (by rw [hself.2.1]; exact hf0) (by rw [hself.2.2]; exact hg0); refine Uw _ sh _ _ v hv hs w c t sq cut txt vis _ _ (by omega) (by omega) (by omega) (fun q a b hq1 hq2 => ?_) n [] a b (by simpa using hn) (fun x hx => absurd hx List.not_mem_nil); (have e1 : wrap64 (((d + 1 : Nat) : Int) - 1) = (d : Int) := by rw [eT (by omega) (by omega)]; omega); rw [e1]; refine ih _ a b (sq ++ [q]) _ _ (ms ++ [(lost (fI sh i) v : Int) + (made (fI sh i) v : Int)]) (cs ++ [(sh.getD i z86).f0]) (by omega) (by rw [Ru]; omega) (by simp; omega) (by simp; omega) (by simp; omega) ?_ (by simp; omega) ?_ (hT.snoc ⟨i, v, hi, hv, hq2, by omega, by omega, Int.le_refl _, rfl⟩) (by rw [htx, Dk]) (hvs.snoc hv hq2)
  ·have : (strOfNums [(sh.getD i z86).f0]).size = 1 := rfl; rw [ByteArray.size_append]; omega
  ·intro z hz; rcases List.mem_append.1 hz with hz | hz
   ·exact hq z hz
   ·rw [List.mem_singleton] at hz; subst hz; exact ⟨hq1, fun x hx => (hq2 x hx).ok hv⟩
theorem TG (a1 a2 a3 : Int) (h2 : 1 ≤ a2) (h2' : a2 ≤ 100) (h3 : 1 ≤ a3) (h3' : a3 ≤ 8) (w c : Int) (hw : 0 ≤ w ∧ w ≤ 2) (hc : 0 ≤ c ∧ c ≤ 2) :
 ∀ (d : Nat) (a b : Int) (hs : List S66), 0 < hs.length + d → (hs.length : Int) + d ≤ a1 → hs.length + d ≤ 1000 → (∀ h ∈ hs, pJ a2 h) → EvI (fun k => ag.l0 k a2 a3 (d : Int) a b hs w c 0) (fun r => pq a1 a2 a3 r ∧ Mt r) := by
 intro d
 induction d with
 | zero =>
  intro a b hs h4 h5 h6 hh; obtain ⟨u, x, y, hu, h8, h9⟩ := uw a b (hs.length : Int) (by omega) (by omega); obtain ⟨n, x1, y1, hn, h10, h11⟩ := xI x y 1 a3 h3 (by omega) (by omega); obtain ⟨j, rfl⟩ := Int.eq_ofNat_of_zero_le (show 0 ≤ n by omega)
  have hg := hh (ah hs u) (by
   obtain ⟨i, rfl⟩ := Int.eq_ofNat_of_zero_le h8; rw [NR, List.getD_eq_getElem?_getD, List.getElem?_eq_getElem (by omega)]
   exact List.getElem_mem _)
  refine EvI.step (f := fun k => ag.l1 k ((ah hs u).f1) 0 (j : Int) x1 y1 hs w c 0 [] u ⟨#[]⟩ []) (fun k => ?_) ?_
  ·rw [ag.l0, if_neg (by omega), hu, Option.bind_some]; simp only []; rw [if_pos h8, if_pos h9, hn, Option.bind_some]
  ·refine UB a1 a2 a3 _ hg.2.2.2.2.1 (by have := hg.2.2.2.2.2; omega) hg.2.2.2.1 hs w c 0 ⟨by omega, by omega, hh⟩ hw hc u h8 h9 rfl h3' j 0 x1 y1 [] _ [] [] [] (by omega) (by simp) (by simp) (by simp; omega) (by simp; omega) ?_ (by simp; omega) (fun q hq => absurd hq List.not_mem_nil) ⟨rfl, rfl, fun i hi => absurd hi (by simp)⟩ rfl ⟨rfl, fun i hi => absurd hi (by simp)⟩; have : (ByteArray.mk #[]).size = 0 := rfl; omega
 | succ d ih =>
  intro a b hs h4 h5 h6 hh; (have e1 : wrap64 (((d + 1 : Nat) : Int) - 1) = (d : Int) := by rw [eT (by omega) (by omega)]; omega); refine EvI.step (fun k => by rw [ag.l0, if_pos (by omega), e1]) ?_; refine EvI.bind (Iy a b a2 h2 h2') (fun r hr => ?_); refine EvI.call rfl (EvI.pos ?_ ?_)
  ·simp; omega
  ·refine ih _ _ _ (by simp; omega) (by simp; omega) (by simp; omega) (fun h hm => ?_); rcases List.mem_append.1 hm with hm | hm
   ·exact hh h hm
   ·rw [List.mem_singleton] at hm; subst hm; exact hr
theorem afS (a b a1 a2 a3 : Int) (h1 : 1 ≤ a1) (h1' : a1 ≤ 100) (h2 : 1 ≤ a2) (h2' : a2 ≤ 100) (h3 : 1 ≤ a3) (h3' : a3 ≤ 8) : EvI (fun k => ag.f k a b a1 a2 a3) (fun r => pq a1 a2 a3 r ∧ Mt r) := by
 obtain ⟨w, x, y, hw, h4, h5⟩ := uw a b 3 (by omega) (by omega); obtain ⟨c, x1, y1, hc, h6, h7⟩ := uw x y 3 (by omega) (by omega); obtain ⟨n, x2, y2, hn, h8, h9⟩ := xI x1 y1 1 a1 h1 (by omega) (by omega); obtain ⟨j, rfl⟩ := Int.eq_ofNat_of_zero_le (show 0 ≤ n by omega); simp only [ag.f]; refine EvI.call hw (EvI.call hc (EvI.call hn ?_)); exact TG a1 a2 a3 h2 h2' h3 h3' w c (by omega) (by omega) j x2 y2 [] (by simp; omega) (by simp; omega) (by simp; omega) (fun h hm => absurd hm List.not_mem_nil)
end Go.Proofs.Ytihedeofkhapiaa.Pr
end
section
namespace Go.Proofs.Ytihedeofkhapiaa.Pr
open Go.RowKit Go.Proofs.YtihedeofkhapiaaW.PrintWords Go.Proofs.YtihedeofkhapiaaW.PrintLast Go.Proofs.YtihedeofkhapiaaW.PrintMore
attribute [local go_sem] nM nP ql qj ow oM qp qx
def cK.l0 : Nat → Int → List Int → Int → Int → Option (Int)
 | 0, _, _, _, _ => none
 | k + 1, x0, x7, x8, x9 => if x9 < x8 then (if 0 ≤ x9 then (if x9 < (x7.length : Int) then (cK.l0 k (mn x0 (rd x7 x9)) x7 x8 (wrap64 (x9 + 1))) else (none)) else (none)) else (some x0)
def cK.f (k : Nat) (a0 : Int) (l1 : List Int) : Option (Int) := cK.l0 k a0 l1 (l1.length : Int) 0
theorem cK.gJ : ∀ k, (∀ y0 y1 y2 y3, LeO (cK.l0 k y0 y1 y2 y3) (cK.l0 (k + 1) y0 y1 y2 y3))
 | 0 => fun _ _ _ _ r h => by simp [cK.l0] at h
 | k + 1 => by
  have ih0 := cK.gJ k
  ·intro y0 y1 y2 y3; unfold cK.l0
   repeat' first | (with_reducible exact ih0 _ _ _ _) | (with_reducible exact LeO.refl _) | (with_reducible refine LeO.ite ?_ ?_)
theorem cK.mono : ∀ a0 a1 k, LeO (cK.f k a0 a1) (cK.f (k + 1) a0 a1) := by
 intro a0 a1 k; have ih0 := cK.gJ k; unfold cK.f
 repeat' (with_reducible exact ih0 _ _ _ _)
set_option maxHeartbeats 8000000 in
set_option maxRecDepth 100000 in
theorem cK.calls (k : Nat) (a0 : Int) (A1 : Option Addr) (c1 : Nat) (l1 : List Int) (r : Int) (w : World) (hr1 : Kd.C (Kd.int .i64) w A1 l1.length l1) (hc1 : l1.length ≤ c1) (h : cK.f k a0 l1 = some r) :
 Calls Try.prog 56 #[.int .i64 a0, .slice A1 l1.length c1] w fun e w' => e = .returned (.int .i64 r) ∧ Below w.heap.size w w' := by
 have HR1 := aa.mk hr1; have HC1 := aa.mk hc1; clear hr1 hc1; have HB := aa.mk (Below.refl w.heap.size w); have H : (cK.l0 k a0 l1 (l1.length : Int) 0) = some r := h; clear h; have H' := aa.mk H; clear H; go_enter Try.func56, Try.ntmps56; go_wp2; (go_loopg [0, 9] k (fun kq v0 v9 w' => ∃ (Ny : Int) (vg : Int), v0 = .int .i64 Ny ∧ v9 = .int .i64 vg ∧ aa (cK.l0 kq Ny l1 (l1.length : Int) vg = some r) ∧ aa (kq ≤ k) ∧ aa (Below w.heap.size w w'))); case atStart => exact ⟨(a0), (0), (by rfl), (by rfl), H', ⟨Nat.le_refl _⟩, ⟨by exact HB.out⟩⟩
 case round =>
  clear H'; obtain ⟨Ny, vg, rfl, rfl, HA, HK1, HB⟩ := hrel
  cases gk with
  | zero => exact absurd HA.out (by simp [cK.l0])
  | succ k1 =>
   have H := HA.out; clear HA; simp only [cK.l0] at H; by_cases c3 : vg < (l1.length : Int)
   ·rw [if_pos c3] at H; have xM : decide (vg < (l1.length : Int)) = true := decide_eq_true c3; clear c3; by_cases c4 : 0 ≤ vg
    ·rw [if_pos c4] at H; have IZ : decide (0 ≤ vg) = true := decide_eq_true c4; clear c4; by_cases c5 : vg < (l1.length : Int)
     ·rw [if_pos c5] at H; have KU : decide (vg < (l1.length : Int)) = true := decide_eq_true c5; clear c5; obtain ⟨ji6, ac6⟩ : ∃ j_ : Int, (mn Ny (rd l1 vg)) = j_ := ⟨_, rfl⟩; (replace H : (cK.l0 k1 ji6 l1 (l1.length : Int) (wrap64 (vg + 1))) = some r := by (rw [ac6] at H; exact H)); have ai3 : (if (rd l1 vg) < Ny then (rd l1 vg) else Ny) = ji6 := ac6; have H' := aa.mk H; clear H; have Yb : 0 ≤ (vg : Int) := of_decide_eq_true (by with_reducible assumption); have Zm : vg < (l1.length : Int) := of_decide_eq_true (by with_reducible assumption); obtain ⟨aim, e124, FN⟩ := Kd.GA HR1.out vg Yb Zm; cases e124; replace FN := (HB.out.cell (World.block_lt_of_cell? w _ FN)).trans FN; replace Yb := eq_true Yb; replace Zm := eq_true Zm; go_wp2; go_roundg k1; (case measure => have := HK1.out; omega); case rel => exact ⟨(ji6), (wrap64 (vg + 1)), (by rfl), (by rfl), H', ⟨by have := HK1.out; omega⟩, ⟨by exact HB.out⟩⟩
     ·rw [if_neg c5] at H; exact absurd H (by simp)
    ·rw [if_neg c4] at H; exact absurd H (by simp)
   ·rw [if_neg c3] at H; have xM : decide (vg < (l1.length : Int)) = false := decide_eq_false c3; clear c3; obtain rfl := Option.some.inj H; go_wp2
    go_ret
    exact ⟨by rfl, by exact HB.out⟩
def nT.f (gu : Int) (aX : Int) (a1 : Int) (KH : Int) (Q6 : Int) : Option (Bool) := if gu = a1 then (some (KH == aX)) else (some true)
set_option maxHeartbeats 8000000 in
set_option maxRecDepth 100000 in
theorem nT.calls (gu : Int) (aX : Int) (a1 : Int) (KH : Int) (Q6 : Int) (r : Bool) (w : World) (h : nT.f gu aX a1 KH Q6 = some r) :
 Calls Try.prog 75 #[.agg #[.int .i64 gu, .int .u8 aX], .int .i64 a1, .agg #[.int .u8 KH, .int .i64 Q6]] w fun e w' => e = .returned (.bool r) ∧ Below w.heap.size w w' := by
 have hu100 := Try.underlying100; have hu86 := Try.underlying86; have HB := aa.mk (Below.refl w.heap.size w); have H : (if gu = a1 then (some (KH == aX)) else (some true)) = some r := h; clear h; by_cases c4 : gu = a1
 ·rw [if_pos c4] at H; have IZ : (gu == a1) = true := beq_iff_eq.mpr c4; have agi : (gu != a1) = false := bne_eq_false_iff_eq.mpr c4; clear c4; obtain rfl := Option.some.inj H; go_enter Try.func75, Try.ntmps75; go_wp2_with (first | ((with_reducible refine dm (N := 3) rfl ?_); refine dC ?hg (N := 3) ?hd (cs := #[.int .i64 gu, .int .u8 aX]) (t := 100) ?hr ?_; (case hd => rfl); (case hg => rfl); (case hr => (go_simp; done)); intro ul hg w5 hbox hb; have vL := aa.mk (hbox); have ack := aa.mk ((by rw [hg]; exact (az (by exact HB.out)) : w.heap.size ≤ ul)); have ab4 := aa.mk ((by rw [hg]; exact (az (by exact HB.out)) : w.heap.size ≤ ul)); replace HB := aa.mk (ax (by exact HB.out) hb); clear hb hbox hg) | ((with_reducible refine dm (N := 5) rfl ?_); refine dC ?hg (N := 5) ?hd (cs := #[.int .u8 KH, .int .i64 Q6]) (t := 86) ?hr ?_; (case hd => rfl); (case hg => rfl); (case hr => (go_simp; done)); intro yL hg w6 hbox hb; have WJ := aa.mk (hbox); have aaF := aa.mk ((by rw [hg]; exact (az (by exact HB.out)) : w.heap.size ≤ yL)); have acv := aa.mk ((by rw [hg]; exact (az (by exact HB.out)) : w.heap.size ≤ yL)); replace HB := aa.mk (ax (by exact HB.out) hb); have zq := aa.mk ((by rw [hg]; exact Nat.ne_of_lt (bW (g := ul) (o := .cells #[.int .i64 gu, .int .u8 aX] 100 (0, 0)) (bU vL.out)) : ul ≠ yL)); have zu := aa.mk ((by rw [hg]; exact Nat.ne_of_gt (bW (g := ul) (o := .cells #[.int .i64 gu, .int .u8 aX] 100 (0, 0)) (bU vL.out)) : yL ≠ ul)); replace vL := aa.mk (au (bU vL.out) hb); clear hb hbox hg; have ajU := zq.out; have aj8 := zu.out; obtain ⟨Cy, CU, CK, Dq⟩ := mE vL.out; obtain ⟨PZ, Pp, Qm, Pj⟩ := mE WJ.out))
  go_ret
  exact ⟨by rfl, by exact HB.out⟩
 ·rw [if_neg c4] at H; have IZ : (gu == a1) = false := beq_eq_false_iff_ne.mpr c4; have agi : (gu != a1) = true := bne_iff_ne.mpr c4; obtain rfl := Option.some.inj H; go_enter Try.func75, Try.ntmps75; go_wp2_with (first | ((with_reducible refine dm (N := 3) rfl ?_); refine dC ?hg (N := 3) ?hd (cs := #[.int .i64 gu, .int .u8 aX]) (t := 100) ?hr ?_; (case hd => rfl); (case hg => rfl); (case hr => (go_simp; done)); intro ul hg w10 hbox hb; have vL := aa.mk (hbox); have ack := aa.mk ((by rw [hg]; exact (az (by exact HB.out)) : w.heap.size ≤ ul)); have ab4 := aa.mk ((by rw [hg]; exact (az (by exact HB.out)) : w.heap.size ≤ ul)); replace HB := aa.mk (ax (by exact HB.out) hb); clear hb hbox hg) | ((with_reducible refine dm (N := 5) rfl ?_); refine dC ?hg (N := 5) ?hd (cs := #[.int .u8 KH, .int .i64 Q6]) (t := 86) ?hr ?_; (case hd => rfl); (case hg => rfl); (case hr => (go_simp; done)); intro yL hg w11 hbox hb; have WJ := aa.mk (hbox); have aaF := aa.mk ((by rw [hg]; exact (az (by exact HB.out)) : w.heap.size ≤ yL)); have acv := aa.mk ((by rw [hg]; exact (az (by exact HB.out)) : w.heap.size ≤ yL)); replace HB := aa.mk (ax (by exact HB.out) hb); have zq := aa.mk ((by rw [hg]; exact Nat.ne_of_lt (bW (g := ul) (o := .cells #[.int .i64 gu, .int .u8 aX] 100 (0, 0)) (bU vL.out)) : ul ≠ yL)); have zu := aa.mk ((by rw [hg]; exact Nat.ne_of_gt (bW (g := ul) (o := .cells #[.int .i64 gu, .int .u8 aX] 100 (0, 0)) (bU vL.out)) : yL ≠ ul)); replace vL := aa.mk (au (bU vL.out) hb); clear hb hbox hg; have aco := zq.out; have abL := zu.out; obtain ⟨Wh, Va, S9, Sy⟩ := mE vL.out))
  go_ret
  exact ⟨by rfl, by exact HB.out⟩
theorem aa9 (d : Nat) (w : World) (x0 y0 : Int) (x1 y1 : Int) :
 (Op.equalIn (d + 2) 27 (.agg #[.int .i64 x0, .int .i64 x1]) (.agg #[.int .i64 y0, .int .i64 y1])).run Try.prog w = .ok (x0 == y0 && (x1 == y1)) w := by
 refine Jy Try.underlying27 (by kernel_rfl) ?_; refine DW (by rfl) (by go_simp; rfl) (by go_simp; rfl) (by go_simp) ?_; exact Dp (by rfl) (by go_simp; rfl) (by go_simp; rfl) (by go_simp)
theorem aak (d : Nat) (w : World) (x0 y0 : Int) (x1 y1 : Int) :
 (Op.equalIn (d + 2) 63 (.agg #[.int .i64 x0, .int .i64 x1]) (.agg #[.int .i64 y0, .int .i64 y1])).run Try.prog w = .ok (x0 == y0 && (x1 == y1)) w := by
 refine Jy Try.underlying63 (by kernel_rfl) ?_; refine DW (by rfl) (by go_simp; rfl) (by go_simp; rfl) (by go_simp) ?_; exact Dp (by rfl) (by go_simp; rfl) (by go_simp; rfl) (by go_simp)
theorem aav (d : Nat) (w : World) (x0 y0 : Int) (x1 y1 : Int) :
 (Op.equalIn (d + 2) 86 (.agg #[.int .u8 x0, .int .i64 x1]) (.agg #[.int .u8 y0, .int .i64 y1])).run Try.prog w = .ok (x0 == y0 && (x1 == y1)) w := by
 refine Jy Try.underlying86 (by kernel_rfl) ?_; refine DW (by rfl) (by go_simp; rfl) (by go_simp; rfl) (by go_simp) ?_; exact Dp (by rfl) (by go_simp; rfl) (by go_simp; rfl) (by go_simp)
end Go.Proofs.Ytihedeofkhapiaa.Pr
end
