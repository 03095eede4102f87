/- Part 21 of 35 of the proof of: SightPrints: for every line, light, number and slice of numbers, the law returns true: the program prints a line, and tells its least marks, as the reference does, with the same errors, and changes nothing; no condition beyond the statement's own. -/
import Derived.Test.YtihedeofkhapiaaProg
import Derived.Below
import Derived.Deep.Draws
import Derived.Deep.AppendLies
import Derived.Maps.AppendAt
import Derived.OwnWalk
import Derived.Laws.BytesArg
import Derived.Laws.MakeOwn
import Derived.Laws.OwnMore
import Derived.Deep.OwnRows
import Derived.Tactics
import Derived.Lib.ConvBytes
import Derived.Laws.Slices
import Derived.WalkKit
import Derived.KernelRfl
import Derived.RowKit3
import Derived.Deep.LoopGhost
import Derived.Deep.QuietTactic
import Derived.BigQuiet
import Derived.WideLaws
import Derived.Deep.DeepCutAuto
import Derived.Deep.CutBlock
import Derived.Deep.RegionHeld3
import Derived.Laws.Rows
import Derived.Lib.AppendStr
import Derived.ArgAppend
import Derived.Laws.IdiomCopy
import Derived.OrdersHeld
import Derived.Laws.BitsLemmas
import Derived.RowKit
import Derived.Test.YtihedeofkhapiaaSP4
import Derived.Test.YtihedeofkhapiaaSP18
import Derived.Test.YtihedeofkhapiaaSP19
import Derived.Test.YtihedeofkhapiaaSP20
set_option linter.unusedVariables false
set_option linter.unusedSimpArgs false
section
namespace Go.Proofs.Ytihedeofkhapiaa.Pr
open Go.RowKit Go.Proofs.YtihedeofkhapiaaW.PrintWords Go.Proofs.YtihedeofkhapiaaW.PrintLast Go.Proofs.YtihedeofkhapiaaW.PrintMore
attribute [local go_sem] oz nZ qp qA pG oV qN qX
def Zd : Option Int → Value
 | none => .nilIface
 | some c => .iface 0 (.int .i64 c)
theorem Lm : Zd none = .nilIface := rfl
theorem Ll (c : Int) : Zd (some c) = .iface 0 (.int .i64 c) := rfl
theorem info3 : (Try.prog.info? 3).map (fun i => (i.zero, i.size, i.bytes)) = some (some (.int .i64 0), 1, 8) := by kernel_rfl
theorem info5 : (Try.prog.info? 5).map (fun i => (i.zero, i.size, i.bytes)) = some (some (.int .u8 0), 1, 1) := by kernel_rfl
theorem U8 : (Try.prog.info? 9).map (fun i => (i.zero, i.size, i.bytes)) = some (some (.string ⟨#[]⟩), 1, 16) := by kernel_rfl
theorem NT : (Try.prog.info? 27).map (fun i => (i.zero, i.size, i.bytes)) = some (some (.agg #[(.int .i64 0), (.int .i64 0)]), 2, 16) := by kernel_rfl
theorem Pq : (Try.prog.info? 39).map (fun i => (i.zero, i.size, i.bytes)) = some (some (.slice none 0 0), 1, 24) := by kernel_rfl
theorem Qc : (Try.prog.info? 66).map (fun i => (i.zero, i.size, i.bytes)) = some (some (.agg #[(.int .i64 0), (.int .i64 0), (.slice none 0 0)]), 3, 40) := by kernel_rfl
theorem P7 : (Try.prog.info? 86).map (fun i => (i.zero, i.size, i.bytes)) = some (some (.agg #[(.int .u8 0), (.int .i64 0)]), 2, 16) := by kernel_rfl
theorem zZ : (Try.prog.info? 126).map (fun i => (i.zero, i.size, i.bytes)) = some (some (.agg #[(.int .i64 0), (.int .u8 0)]), 2, 16) := by kernel_rfl
structure S63 where
 f0 : Int
 f1 : Int
def z63 : S63 := ⟨(0 : Int), (0 : Int)⟩
def k63 : Kd S63 := Kd.iso (Kd.pair (Kd.int .i64) (Kd.int .i64)) (fun x : S63 => (x.f0, x.f1))
theorem FR {w : World} {x : S63} {cs : List Value} (h : k63.K w x cs) : cs = [.int .i64 x.f0, .int .i64 x.f1] := by
 obtain ⟨_, _, rfl, rfl, rfl⟩ := h; exact rfl
theorem LX {w : World} {base : Nat} {ok : Nat → Prop} {x : S63} {cs : List Value} (h : k63.M w base ok x cs) : cs = [.int .i64 x.f0, .int .i64 x.f1] := by
 obtain ⟨_, _, rfl, rfl, rfl⟩ := h; exact rfl
theorem Nh (w : World) (x : S63)  : k63.K w x [.int .i64 x.f0, .int .i64 x.f1] := ⟨[.int .i64 x.f0], [.int .i64 x.f1], rfl, rfl, rfl⟩
theorem TL (w : World) (base : Nat) (ok : Nat → Prop) (x : S63)  : k63.M w base ok x [.int .i64 x.f0, .int .i64 x.f1] := ⟨[.int .i64 x.f0], [.int .i64 x.f1], rfl, rfl, rfl⟩
theorem aeA (W : World) (ok : Nat → Prop) (x : S63) : Kd.FK k63 W ok x [.int .i64 x.f0, .int .i64 x.f1] := fun W2 _ => Nh W2 x
def Pw (xs : List S63) (i : Int) : S63 := xs.getD i.toNat z63
theorem af8 {w : World} {A : Option Addr} {n : Nat} {xs : List S63} (h : Kd.C k63 w A n xs) (i : Int) (h0 : 0 ≤ i) (h1 : i < n) : ∃ ad , A = some ad ∧ w.cell? (ad.add (i.toNat * 2)) = some (.int .i64 (Pw xs i).f0) ∧ w.cell? ⟨(ad.add (i.toNat * 2)).block, (ad.add (i.toNat * 2)).off + 1, none⟩ = some (.int .i64 (Pw xs i).f1) := by
 obtain ⟨ad, c, e, _, hK, hc0⟩ := Kd.uR h z63 i h0 h1; have hc : ∀ j u, c[j]? = some u → w.cell? (ad.add (i.toNat * 2 + j)) = some u := hc0; obtain rfl := FR hK; exact ⟨ad, e, hc 0 _ rfl, by rw [← pg _ _ 1 (by omega)]; exact hc 1 _ rfl⟩
structure S86 where
 f0 : Int
 f1 : Int
def z86 : S86 := ⟨(0 : Int), (0 : Int)⟩
def k86 : Kd S86 := Kd.iso (Kd.pair (Kd.int .u8) (Kd.int .i64)) (fun x : S86 => (x.f0, x.f1))
theorem Qw {w : World} {x : S86} {cs : List Value} (h : k86.K w x cs) : cs = [.int .u8 x.f0, .int .i64 x.f1] := by
 obtain ⟨_, _, rfl, rfl, rfl⟩ := h; exact rfl
theorem Yo {w : World} {base : Nat} {ok : Nat → Prop} {x : S86} {cs : List Value} (h : k86.M w base ok x cs) : cs = [.int .u8 x.f0, .int .i64 x.f1] := by
 obtain ⟨_, _, rfl, rfl, rfl⟩ := h; exact rfl
theorem Qq (w : World) (x : S86)  : k86.K w x [.int .u8 x.f0, .int .i64 x.f1] := ⟨[.int .u8 x.f0], [.int .i64 x.f1], rfl, rfl, rfl⟩
theorem um (w : World) (base : Nat) (ok : Nat → Prop) (x : S86)  : k86.M w base ok x [.int .u8 x.f0, .int .i64 x.f1] := ⟨[.int .u8 x.f0], [.int .i64 x.f1], rfl, rfl, rfl⟩
theorem acW (W : World) (ok : Nat → Prop) (x : S86) : Kd.FK k86 W ok x [.int .u8 x.f0, .int .i64 x.f1] := fun W2 _ => Qq W2 x
def ai (xs : List S86) (i : Int) : S86 := xs.getD i.toNat z86
theorem mF {w : World} {A : Option Addr} {n : Nat} {xs : List S86} (h : Kd.C k86 w A n xs) (i : Int) (h0 : 0 ≤ i) (h1 : i < n) : ∃ ad , A = some ad ∧ w.cell? (ad.add (i.toNat * 2)) = some (.int .u8 (ai xs i).f0) ∧ w.cell? ⟨(ad.add (i.toNat * 2)).block, (ad.add (i.toNat * 2)).off + 1, none⟩ = some (.int .i64 (ai xs i).f1) := by
 obtain ⟨ad, c, e, _, hK, hc0⟩ := Kd.uR h z86 i h0 h1; have hc : ∀ j u, c[j]? = some u → w.cell? (ad.add (i.toNat * 2 + j)) = some u := hc0; obtain rfl := Qw hK; exact ⟨ad, e, hc 0 _ rfl, by rw [← pg _ _ 1 (by omega)]; exact hc 1 _ rfl⟩
def Ky (xs : List (List S86)) (i : Int) : (List S86) := xs.getD i.toNat ([] : List S86)
theorem ahA {w : World} {A : Option Addr} {n : Nat} {xs : List (List S86)} (h : Kd.C (Kd.slice 86 k86) w A n xs) (i : Int) (h0 : 0 ≤ i) (h1 : i < n) : ∃ ad A0 c0, A = some ad ∧ w.cell? (ad.add i.toNat) = some (.slice A0 (Ky xs i).length c0) ∧ (Ky xs i).length ≤ c0 ∧ k86.C w A0 (Ky xs i).length (Ky xs i) := by
 obtain ⟨ad, c, e, _, hK, hc0⟩ := Kd.uR h ([] : List S86) i h0 h1; have hc : ∀ j u, c[j]? = some u → w.cell? (ad.add (i.toNat * 1 + j)) = some u := hc0; obtain ⟨A0, c0, rfl, l0, g0⟩ := hK; exact ⟨ad, A0, c0, e, by have hq := hc 0 _ rfl; rwa [Nat.mul_one, Nat.add_zero] at hq, l0, g0⟩
structure S66 where
 f0 : S63
 f1 : (List S86)
def z66 : S66 := ⟨z63, ([] : List S86)⟩
def k66 : Kd S66 := Kd.iso (Kd.pair k63 (Kd.slice 86 k86)) (fun x : S66 => (x.f0, x.f1))
theorem AC {w : World} {x : S66} {cs : List Value} (h : k66.K w x cs) : ∃ A2 c2, cs = [.int .i64 x.f0.f0, .int .i64 x.f0.f1, .slice A2 x.f1.length c2] ∧ x.f1.length ≤ c2 ∧ k86.C w A2 x.f1.length x.f1 := by
 obtain ⟨_, _, rfl, s0, ⟨A2, c2, rfl, l2, g2⟩⟩ := h; obtain rfl := FR s0; exact ⟨A2, c2, rfl, l2, g2⟩
theorem Yn {w : World} {base : Nat} {ok : Nat → Prop} {x : S66} {cs : List Value} (h : k66.M w base ok x cs) : ∃ v2, cs = [.int .i64 x.f0.f0, .int .i64 x.f0.f1, v2] ∧ k86.R 86 w base ok v2 x.f1 := by
 obtain ⟨_, _, rfl, s0, ⟨v2, rfl, g2⟩⟩ := h; obtain rfl := LX s0; exact ⟨v2, rfl, g2⟩
theorem NQ (w : World) (x : S66) {A2 : Option Addr} {c2 : Nat} (l2 : x.f1.length ≤ c2) (g2 : k86.C w A2 x.f1.length x.f1) : k66.K w x [.int .i64 x.f0.f0, .int .i64 x.f0.f1, .slice A2 x.f1.length c2] := ⟨[.int .i64 x.f0.f0, .int .i64 x.f0.f1], [.slice A2 x.f1.length c2], rfl, (Nh w x.f0 ), ⟨A2, c2, rfl, l2, g2⟩⟩
theorem QQ (w : World) (base : Nat) (ok : Nat → Prop) (x : S66) {v2 : Value} (g2 : k86.R 86 w base ok v2 x.f1) : k66.M w base ok x [.int .i64 x.f0.f0, .int .i64 x.f0.f1, v2] := ⟨[.int .i64 x.f0.f0, .int .i64 x.f0.f1], [v2], rfl, (TL w base ok x.f0 ), ⟨v2, rfl, g2⟩⟩
theorem Mf {W : World} {ok : Nat → Prop} {x : S66} {cs : List Value} (h : Kd.FK k66 W ok x cs) : ∃ A2 c2, cs = [.int .i64 x.f0.f0, .int .i64 x.f0.f1, .slice A2 x.f1.length c2] ∧ x.f1.length ≤ c2 ∧ Kd.F k86 W ok A2 x.f1.length x.f1 := by
 obtain ⟨A2, c2, rfl, l2, _⟩ := AC (Kd.pI h); exact ⟨A2, c2, rfl, l2, (fun W' hW => by obtain ⟨A2_, c2_, he, l2_, g2_⟩ := AC (h W' hW); injection (Option.some.inj (show some (Value.slice A2 x.f1.length c2) = some (Value.slice A2_ x.f1.length c2_) from congrArg (fun l => l[2]?) he)) with ha_ _ _; rw [ha_]; exact g2_)⟩
theorem EH (W : World) (ok : Nat → Prop) (x : S66) {A2 : Option Addr} {c2 : Nat} (l2 : x.f1.length ≤ c2) (g2 : Kd.F k86 W ok A2 x.f1.length x.f1) : Kd.FK k66 W ok x [.int .i64 x.f0.f0, .int .i64 x.f0.f1, .slice A2 x.f1.length c2] := fun W2 hW => NQ W2 x l2 (g2 W2 hW)
def ah (xs : List S66) (i : Int) : S66 := xs.getD i.toNat z66
theorem oC {w : World} {A : Option Addr} {n : Nat} {xs : List S66} (h : Kd.C k66 w A n xs) (i : Int) (h0 : 0 ≤ i) (h1 : i < n) : ∃ ad A2 c2, A = some ad ∧ w.cell? (ad.add (i.toNat * 3)) = some (.int .i64 (ah xs i).f0.f0) ∧ w.cell? ⟨(ad.add (i.toNat * 3)).block, (ad.add (i.toNat * 3)).off + 1, none⟩ = some (.int .i64 (ah xs i).f0.f1) ∧ w.cell? ⟨(ad.add (i.toNat * 3)).block, (ad.add (i.toNat * 3)).off + 2, none⟩ = some (.slice A2 (ah xs i).f1.length c2) ∧ (ah xs i).f1.length ≤ c2 ∧ k86.C w A2 (ah xs i).f1.length (ah xs i).f1 := by
 obtain ⟨ad, c, e, _, hK, hc0⟩ := Kd.uR h z66 i h0 h1; have hc : ∀ j u, c[j]? = some u → w.cell? (ad.add (i.toNat * 3 + j)) = some u := hc0; obtain ⟨A2, c2, rfl, l2, g2⟩ := AC hK; exact ⟨ad, A2, c2, e, hc 0 _ rfl, by rw [← pg _ _ 1 (by omega)]; exact hc 1 _ rfl, by rw [← pg _ _ 2 (by omega)]; exact hc 2 _ rfl, l2, g2⟩
structure S27 where
 f0 : Int
 f1 : Int
def z27 : S27 := ⟨(0 : Int), (0 : Int)⟩
def k27 : Kd S27 := Kd.iso (Kd.pair (Kd.int .i64) (Kd.int .i64)) (fun x : S27 => (x.f0, x.f1))
theorem FZ {w : World} {x : S27} {cs : List Value} (h : k27.K w x cs) : cs = [.int .i64 x.f0, .int .i64 x.f1] := by
 obtain ⟨_, _, rfl, rfl, rfl⟩ := h; exact rfl
theorem Yj {w : World} {base : Nat} {ok : Nat → Prop} {x : S27} {cs : List Value} (h : k27.M w base ok x cs) : cs = [.int .i64 x.f0, .int .i64 x.f1] := by
 obtain ⟨_, _, rfl, rfl, rfl⟩ := h; exact rfl
theorem Nw (w : World) (x : S27)  : k27.K w x [.int .i64 x.f0, .int .i64 x.f1] := ⟨[.int .i64 x.f0], [.int .i64 x.f1], rfl, rfl, rfl⟩
theorem vV (w : World) (base : Nat) (ok : Nat → Prop) (x : S27)  : k27.M w base ok x [.int .i64 x.f0, .int .i64 x.f1] := ⟨[.int .i64 x.f0], [.int .i64 x.f1], rfl, rfl, rfl⟩
theorem adL (W : World) (ok : Nat → Prop) (x : S27) : Kd.FK k27 W ok x [.int .i64 x.f0, .int .i64 x.f1] := fun W2 _ => Nw W2 x
def dV (xs : List S27) (i : Int) : S27 := xs.getD i.toNat z27
theorem uN {w : World} {A : Option Addr} {n : Nat} {xs : List S27} (h : Kd.C k27 w A n xs) (i : Int) (h0 : 0 ≤ i) (h1 : i < n) : ∃ ad , A = some ad ∧ w.cell? (ad.add (i.toNat * 2)) = some (.int .i64 (dV xs i).f0) ∧ w.cell? ⟨(ad.add (i.toNat * 2)).block, (ad.add (i.toNat * 2)).off + 1, none⟩ = some (.int .i64 (dV xs i).f1) := by
 obtain ⟨ad, c, e, _, hK, hc0⟩ := Kd.uR h z27 i h0 h1; have hc : ∀ j u, c[j]? = some u → w.cell? (ad.add (i.toNat * 2 + j)) = some u := hc0; obtain rfl := FZ hK; exact ⟨ad, e, hc 0 _ rfl, by rw [← pg _ _ 1 (by omega)]; exact hc 1 _ rfl⟩
def cZ (xs : List (List S27)) (i : Int) : (List S27) := xs.getD i.toNat ([] : List S27)
theorem wG {w : World} {A : Option Addr} {n : Nat} {xs : List (List S27)} (h : Kd.C (Kd.slice 27 k27) w A n xs) (i : Int) (h0 : 0 ≤ i) (h1 : i < n) : ∃ ad A0 c0, A = some ad ∧ w.cell? (ad.add i.toNat) = some (.slice A0 (cZ xs i).length c0) ∧ (cZ xs i).length ≤ c0 ∧ k27.C w A0 (cZ xs i).length (cZ xs i) := by
 obtain ⟨ad, c, e, _, hK, hc0⟩ := Kd.uR h ([] : List S27) i h0 h1; have hc : ∀ j u, c[j]? = some u → w.cell? (ad.add (i.toNat * 1 + j)) = some u := hc0; obtain ⟨A0, c0, rfl, l0, g0⟩ := hK; exact ⟨ad, A0, c0, e, by have hq := hc 0 _ rfl; rwa [Nat.mul_one, Nat.add_zero] at hq, l0, g0⟩
def vk (xs : List (List Int)) (i : Int) : (List Int) := xs.getD i.toNat ([] : List Int)
theorem ZM {w : World} {A : Option Addr} {n : Nat} {xs : List (List Int)} (h : Kd.C (Kd.slice 5 (Kd.int .u8)) w A n xs) (i : Int) (h0 : 0 ≤ i) (h1 : i < n) : ∃ ad A0 c0, A = some ad ∧ w.cell? (ad.add i.toNat) = some (.slice A0 (vk xs i).length c0) ∧ (vk xs i).length ≤ c0 ∧ (Kd.int .u8).C w A0 (vk xs i).length (vk xs i) := by
 obtain ⟨ad, c, e, _, hK, hc0⟩ := Kd.uR h ([] : List Int) i h0 h1; have hc : ∀ j u, c[j]? = some u → w.cell? (ad.add (i.toNat * 1 + j)) = some u := hc0; obtain ⟨A0, c0, rfl, l0, g0⟩ := hK; exact ⟨ad, A0, c0, e, by have hq := hc 0 _ rfl; rwa [Nat.mul_one, Nat.add_zero] at hq, l0, g0⟩
structure lX where
 f0 : Int
 f1 : Int
def O9 : lX := ⟨(0 : Int), (0 : Int)⟩
def rf : Kd lX := Kd.iso (Kd.pair (Kd.int .i64) (Kd.int .u8)) (fun x : lX => (x.f0, x.f1))
theorem L6 {w : World} {x : lX} {cs : List Value} (h : rf.K w x cs) : cs = [.int .i64 x.f0, .int .u8 x.f1] := by
 obtain ⟨_, _, rfl, rfl, rfl⟩ := h; exact rfl
theorem WW {w : World} {base : Nat} {ok : Nat → Prop} {x : lX} {cs : List Value} (h : rf.M w base ok x cs) : cs = [.int .i64 x.f0, .int .u8 x.f1] := by
 obtain ⟨_, _, rfl, rfl, rfl⟩ := h; exact rfl
theorem RV (w : World) (x : lX)  : rf.K w x [.int .i64 x.f0, .int .u8 x.f1] := ⟨[.int .i64 x.f0], [.int .u8 x.f1], rfl, rfl, rfl⟩
theorem Bw (w : World) (base : Nat) (ok : Nat → Prop) (x : lX)  : rf.M w base ok x [.int .i64 x.f0, .int .u8 x.f1] := ⟨[.int .i64 x.f0], [.int .u8 x.f1], rfl, rfl, rfl⟩
theorem abf (W : World) (ok : Nat → Prop) (x : lX) : Kd.FK rf W ok x [.int .i64 x.f0, .int .u8 x.f1] := fun W2 _ => RV W2 x
def vH (xs : List lX) (i : Int) : lX := xs.getD i.toNat O9
theorem Ru {w : World} {A : Option Addr} {n : Nat} {xs : List lX} (h : Kd.C rf w A n xs) (i : Int) (h0 : 0 ≤ i) (h1 : i < n) : ∃ ad , A = some ad ∧ w.cell? (ad.add (i.toNat * 2)) = some (.int .i64 (vH xs i).f0) ∧ w.cell? ⟨(ad.add (i.toNat * 2)).block, (ad.add (i.toNat * 2)).off + 1, none⟩ = some (.int .u8 (vH xs i).f1) := by
 obtain ⟨ad, c, e, _, hK, hc0⟩ := Kd.uR h O9 i h0 h1; have hc : ∀ j u, c[j]? = some u → w.cell? (ad.add (i.toNat * 2 + j)) = some u := hc0; obtain rfl := L6 hK; exact ⟨ad, e, hc 0 _ rfl, by rw [← pg _ _ 1 (by omega)]; exact hc 1 _ rfl⟩
end Go.Proofs.Ytihedeofkhapiaa.Pr
end
section
namespace Go.Proofs.Ytihedeofkhapiaa.Pr
open Go.RowKit Go.Proofs.YtihedeofkhapiaaW.PrintWords Go.Proofs.YtihedeofkhapiaaW.PrintLast Go.Proofs.YtihedeofkhapiaaW.PrintMore
def ba (n k : Nat) : Array Bool := ((List.range n).map k.testBit).toArray
variable {P : Program} {ops : Array Oper} {Q : Exit → Act → World → Prop} {md : Region.Mode} {S : World → Prop} {ds : List Nat} {T : Bool × List (List Nat × List Nat)} {B : List Nat} {oi oj : Oper} {v : Value} {fuel : Nat} {l : Array Bool} {a a' : Act} {w : World}
theorem jS (i : Nat) (N : Tmp) (l' : Array Bool) (hT : mH md ops = T) (h : bJ P md ops Q S ds fuel l' a' w)
 (hi : ops[i]? = some oi := by exact rfl) (hN : oi.dst = some N := by exact rfl) (hc : XO T l.toList l'.toList i = true := by kernel_rfl)
 (hQ : ∀ c a w, Q (.panic c) (a.put oi.dst v) w → Q (.panic c) a w := by exact fun _ _ _ h => h) (hw : Region.wanted oi (yielded ops a.tmps) = true := by rfl)
 (hv : ∀ w, (execOp a.eval oi).run P w = .ok (.value v) w := by intro w'; go_simp; with_reducible rfl)
 (ha : a.put (some N) v = a' := by simp only [Act.put, List.setIfInBounds_toArray, List.set_cons_zero, List.set_cons_succ, oU, sZ]; rfl) : bJ P md ops Q S ds (fuel + 1) l a w :=
 FX l' hi hN (XD hT hc) hQ (Or.inl ⟨hw, hv⟩) ha h
theorem wO (i : Nat) (N : Tmp) (l' : Array Bool) (hT : mH md ops = T) (hB : nk T.2 B = true) (hS : S w) (h : bJ P md ops Q S ds fuel l' a' w)
 (hi : ops[i]? = some oi := by exact rfl) (hN : oi.dst = some N := by exact rfl) (hc : QD T B ds l.toList l'.toList i = true := by kernel_rfl)
 (hQ : ∀ c a w, Q (.panic c) (a.put oi.dst v) w → Q (.panic c) a w := by exact fun _ _ _ h => h) (hw : Region.wanted oi (yielded ops a.tmps) = true := by rfl)
 (hv : ∀ w, S w → (execOp a.eval oi).run P w = .ok (.value v) w := by intro w'; try simp only [and_imp]; intros; go_simp; with_reducible rfl)
 (ha : a.put (some N) v = a' := by simp only [Act.put, List.setIfInBounds_toArray, List.set_cons_zero, List.set_cons_succ, oU, sZ]; rfl) : bJ P md ops Q S ds (fuel + 1) l a w :=
 BB l' hi hN (Oq hT hB hc) hQ (Or.inl ⟨hw, hv⟩) hS ha h
theorem on_ (i : Nat) (N : Option Tmp) (l' : Array Bool) (hT : mH md ops = T)
 (h : ∀ K : Act → World → Prop, Shut (∀ a' w', S w' → (S w' → bJ P md ops Q S ds fuel l' a' w') → K a' w') → if Region.wanted oi (yielded ops a.tmps) = true then Oper.wp P oi a w K Q else K (a.put N undef) w)
 (hi : ops[i]? = some oi := by exact rfl) (hN : oi.dst = N := by exact rfl) (hc : (su T.2 l.toList == [i] && l.toList.set i true == l'.toList) = true := by kernel_rfl) (hd : i ∉ ds := by decide) : bJ P md ops Q S ds (fuel + 1) l a w :=
 Xa l' hi hN (M3 hT hc) hd h
theorem Ir (i : Nat) (N : Option Tmp) (l' : Array Bool) (hT : mH md ops = T)
 (h : ∀ K : Act → World → Prop, Shut (∀ a' w', bJ P md ops Q S ds fuel l' a' w' → K a' w') → if Region.wanted oi (yielded ops a.tmps) = true then Oper.wp P oi a w K Q else K (a.put N undef) w)
 (hi : ops[i]? = some oi := by exact rfl) (hN : oi.dst = N := by exact rfl) (hc : (su T.2 l.toList == [i] && l.toList.set i true == l'.toList) = true := by kernel_rfl) (hd : i ∈ ds := by decide) : bJ P md ops Q S ds (fuel + 1) l a w :=
 Y7 l' hi hN (M3 hT hc) hd h
theorem BU (i j : Nat) (Ni Nj : Tmp) (li lj : Array Bool) (hT : mH md ops = T)
 (h1 : ∀ K : Act → World → Prop, Shut (∀ a' w', S w' → (S w' → bJ P md ops Q S ds fuel li a' w') → K a' w') → if Region.wanted oi (yielded ops a.tmps) = true then Oper.wp P oi a w K Q else K (a.put (some Ni) undef) w)
 (h2 : ∀ K : Act → World → Prop, Shut (∀ a' w', S w' → (S w' → bJ P md ops Q S ds fuel lj a' w') → K a' w') → if Region.wanted oj (yielded ops a.tmps) = true then Oper.wp P oj a w K Q else K (a.put (some Nj) undef) w)
 (hi : ops[i]? = some oi := by exact rfl) (hj : ops[j]? = some oj := by exact rfl) (hNi : oi.dst = some Ni := by exact rfl) (hNj : oj.dst = some Nj := by exact rfl)
 (hc : (su T.2 l.toList == [i, j] && l.toList.set i true == li.toList && l.toList.set j true == lj.toList) = true := by kernel_rfl) (hdi : i ∉ ds := by decide) (hdj : j ∉ ds := by decide) : bJ P md ops Q S ds (fuel + 1) l a w :=
 afo li lj hi hj hNi hNj (Wo hT hc) hdi hdj h1 h2
theorem mZ (h : bJ P md ops Q S ds fuel l a' w) (ha : a = a' := by show Act.put _ (some _) _ = _; simp only [Act.put, List.setIfInBounds_toArray, List.set_cons_zero, List.set_cons_succ, oU, sZ]; rfl) : bJ P md ops Q S ds fuel l a w := Kt ha h
theorem ahX (h : bJ P md ops Q S ds fuel l a' w) (ha : a = a' := by simp only [Act.put, List.setIfInBounds_toArray, List.set_cons_zero, List.set_cons_succ, oU, sZ]; rfl) : bJ P md ops Q S ds fuel l a w := Kt ha h
theorem CF (h : bJ P md ops Q S ds fuel l a' w) (ha : a = a' := by simp only [Bg, Act.put, List.setIfInBounds_toArray, List.set_cons_zero, List.set_cons_succ, oU, sZ]; rfl) : bJ P md ops Q S ds fuel l a w := Kt ha h
theorem zQ (h : bJ P md ops Q S ds fuel l a' w) (ha : a = a' := by simp only [Bg, Act.put, List.setIfInBounds_toArray, List.set_cons_zero, List.set_cons_succ]; done) : bJ P md ops Q S ds fuel l a w := Kt ha h
theorem I9 {n : Nat} (hT : mH md ops = T) (h : Q .normal a w) (hc : (su T.2 l.toList == []) = true := by kernel_rfl) : bJ P md ops Q S ds n l a w := Ow (RH hT hc) h
theorem nb_ {w : World} {g gb : Nat} {o : Obj} (hg : gb = w.heap.size) (h : w.heap[g]? = some o) : g ≠ gb := by rw [hg]; exact Nat.ne_of_lt (bQ h)
end Go.Proofs.Ytihedeofkhapiaa.Pr
end
section
namespace Go.Proofs.Ytihedeofkhapiaa.Pr
open Go.RowKit Go.Proofs.YtihedeofkhapiaaW.PrintWords Go.Proofs.YtihedeofkhapiaaW.PrintLast Go.Proofs.YtihedeofkhapiaaW.PrintMore
attribute [local go_sem] oz nZ qp qA pG oV qN qX
def aQ (w0 W : World) (g : Nat) (f0 : Int) (f1 : Int) : Prop := W.heap[g]? = some (.cells #[.int .u64 f0, .int .u64 f1] 91 (0, 0)) ∧ w0.heap.size ≤ g
theorem aQ.grown {w0 W : World} {g : Nat} {f0 : Int} {f1 : Int} {W1 : World} {row : Option Nat} (h : aQ w0 W g f0 f1) (hw : W.grownBy W1 row) (hne : some g ≠ row) : aQ w0 W1 g f0 f1 := by
 obtain ⟨hb, hg⟩ := h; exact ⟨bK hb hw hne, hg⟩
theorem aQ.JS {w0 W : World} {g : Nat} {f0 : Int} {f1 : Int} {α : Type} {d : Kd α} {e : Nat} {base : Nat} {ok : Nat → Prop} {v : Value} {xs : List α} (h : aQ w0 W g f0 f1) (ho : Kd.N d e W base ok v xs) (ht : e ≠ 91) : some g ≠ v.ownBlock := by
 obtain ⟨hb, hg⟩ := h; exact Kd.BC ho hb ht
theorem aQ.fresh {w0 W : World} {g : Nat} {f0 : Int} {f1 : Int} (h : aQ w0 W g f0 f1) : ∀ k, W.heap.size ≤ k → k ≠ g := by
 obtain ⟨hb, hg⟩ := h; exact Kd.jZ hb
theorem aQ.below {w0 W : World} {g : Nat} {f0 : Int} {f1 : Int} {W1 : World} (h : aQ w0 W g f0 f1) (hw : Below W.heap.size W W1) : aQ w0 W1 g f0 f1 := h.grown (je hw none) (by simp)
theorem aQ.alloc {w0 W : World} {g : Nat} {f0 : Int} {f1 : Int} (h : aQ w0 W g f0 f1) (o : Obj) : aQ w0 (W.alloc o) g f0 f1 := h.below (ax (Below.refl _ _) o)
theorem aQ.drewN {w0 W : World} {g : Nat} {f0 : Int} {f1 : Int} (h : aQ w0 W g f0 f1) (m : Nat) : aQ w0 (W.drewN m) g f0 f1 := h
theorem aQ.drew {w0 W : World} {g : Nat} {f0 : Int} {f1 : Int} (h : aQ w0 W g f0 f1) : aQ w0 W.drew g f0 f1 := h
theorem aQ.at_ {w0 W : World} {g : Nat} {f0 : Int} {f1 : Int} {w' : World} {m : Nat} (hq : W.drewN m = w') (h : aQ w0 W g f0 f1) : aQ w0 w' g f0 f1 := by subst hq; exact aQ.drewN h m
theorem aQ.apart {w0 W : World} {g : Nat} {f0 : Int} {f1 : Int} {α : Type} {d : Kd α} {e : Nat} {base : Nat} {ok : Nat → Prop} {v : Value} {xs : List α} (h : aQ w0 W g f0 f1) (ho : d.R e W base ok v xs) (ht : ∀ q, q ∈ e :: d.E → q ≠ 91) : d.R e W base (fun k => ok k ∧ k ≠ g) v xs := by
 obtain ⟨hb, hg⟩ := h; exact Kd.dP ho hb ht
theorem aQ.own_ne {w0 W : World} {g : Nat} {f0 : Int} {f1 : Int} {α : Type} {d : Kd α} {e : Nat} {base : Nat} {ok : Nat → Prop} {v : Value} {xs : List α} (h : aQ w0 W g f0 f1) (ho : d.R e W base ok v xs) (ht : e ≠ 91) : some g ≠ v.ownBlock := by
 obtain ⟨hb, hg⟩ := h; exact Kd.ma ho hb ht
theorem aQ.ae9 {w0 W : World} {g : Nat} {f0 : Int} {f1 : Int} {α : Type} {d : Kd α} {e : Nat} {base : Nat} {ok : Nat → Prop} {v : Value} {xs : List α} (h : aQ w0 W g f0 f1) (ho : d.S e W base ok v xs) (ht : ∀ q, q ∈ e :: d.E → q ≠ 91) : d.S e W base (fun k => ok k ∧ k ≠ g) v xs := by
 obtain ⟨hb, hg⟩ := h; exact Kd.tL ho hb ht
theorem aQ.ady {w0 W : World} {g : Nat} {f0 : Int} {f1 : Int} {α : Type} {d : Kd α} {e : Nat} {base : Nat} {ok : Nat → Prop} {v : Value} {xs : List α} (h : aQ w0 W g f0 f1) (ho : d.S e W base ok v xs) (ht : e ≠ 91) : some g ≠ v.ownBlock := by
 obtain ⟨hb, hg⟩ := h; exact Kd.NC ho hb ht
theorem aQ.lt {w0 W : World} {g : Nat} {f0 : Int} {f1 : Int} (h : aQ w0 W g f0 f1) : g < W.heap.size := by
 obtain ⟨hb, hg⟩ := h; exact bQ hb
theorem aQ.ge {w0 W : World} {g : Nat} {f0 : Int} {f1 : Int} (h : aQ w0 W g f0 f1) : w0.heap.size ≤ g := by
 obtain ⟨hb, hg⟩ := h; exact hg
theorem aQ.af2 {w0 W : World} {g : Nat} {f0 : Int} {f1 : Int} {a : Nat} {cs : Array Value} {t : TypeId} {fr : Nat × Nat} (h : aQ w0 W g f0 f1) (hb2 : W.heap[a]? = some (.cells cs t fr)) (ht : t ≠ 91) : g ≠ a := by
 obtain ⟨hb, hg⟩ := h; rintro rfl; rw [hb] at hb2; injection hb2 with hb2; injection hb2 with _ ht2; exact ht ht2.symm
theorem aQ.far {w0 W : World} {g : Nat} {f0 : Int} {f1 : Int} {p : Addr} (h : aQ w0 W g f0 f1) (hne : g ≠ p.block) (u : Value) : aQ w0 (W.setCell p u) g f0 f1 := by
 obtain ⟨hb, hg⟩ := h; exact ⟨bu hb hne u, hg⟩
theorem yN {W : World} {g : Nat} {f0 : Int} {f1 : Int} (h : W.heap[g]? = some (.cells #[.int .u64 f0, .int .u64 f1] 91 (0, 0))) : W.cell? ⟨g, 0, none⟩ = some (.int .u64 f0) := (ae h 0).trans rfl
theorem aQ.Zh {w0 W : World} {g : Nat} {f0 : Int} {f1 : Int} (h : aQ w0 W g f0 f1) (x : Int) : aQ w0 (W.setCell ⟨g, 0, none⟩ (.int .u64 x)) g x f1 := by
 obtain ⟨hb, hg⟩ := h; exact ⟨by simpa using zW hb 0 (.int .u64 x), hg⟩
theorem yR {W : World} {g : Nat} {f0 : Int} {f1 : Int} (h : W.heap[g]? = some (.cells #[.int .u64 f0, .int .u64 f1] 91 (0, 0))) : W.cell? ⟨g, 1, none⟩ = some (.int .u64 f1) := (ae h 1).trans rfl
theorem aQ.OW {w0 W : World} {g : Nat} {f0 : Int} {f1 : Int} (h : aQ w0 W g f0 f1) (x : Int) : aQ w0 (W.setCell ⟨g, 1, none⟩ (.int .u64 x)) g f0 x := by
 obtain ⟨hb, hg⟩ := h; exact ⟨by simpa using zW hb 1 (.int .u64 x), hg⟩
theorem aQ.new (w0 W : World) (f0 : Int) (f1 : Int) (hB : Below w0.heap.size w0 W) : aQ w0 (W.alloc (.cells #[.int .u64 f0, .int .u64 f1] 91)) W.heap.size f0 f1 := ⟨by simpa using heap_alloc_new W _, hB.size⟩
end Go.Proofs.Ytihedeofkhapiaa.Pr
end
section
namespace Go.Proofs.Ytihedeofkhapiaa.Pr
open Go.RowKit Go.Proofs.YtihedeofkhapiaaW.PrintWords Go.Proofs.YtihedeofkhapiaaW.PrintLast Go.Proofs.YtihedeofkhapiaaW.PrintMore
theorem lZ {w : World} {g : Nat} {t : TypeId} {a0 a1 : Value} (h : w.heap[g]? = some (.cells #[a0, a1] t (0, 0))) : w.cell? ⟨g, 0, none⟩ = some a0 ∧ w.cell? ⟨g, 1, none⟩ = some a1 ∧ w.frozen? ⟨g, 0, none⟩ = false ∧ w.frozen? ⟨g, 1, none⟩ = false := ⟨(ae h 0).trans rfl, (ae h 1).trans rfl, aN h 0, aN h 1⟩
theorem cells3 {w : World} {g : Nat} {t : TypeId} {a0 a1 a2 : Value} (h : w.heap[g]? = some (.cells #[a0, a1, a2] t (0, 0))) : w.cell? ⟨g, 0, none⟩ = some a0 ∧ w.cell? ⟨g, 1, none⟩ = some a1 ∧ w.cell? ⟨g, 2, none⟩ = some a2 ∧ w.frozen? ⟨g, 0, none⟩ = false ∧ w.frozen? ⟨g, 1, none⟩ = false ∧ w.frozen? ⟨g, 2, none⟩ = false := ⟨(ae h 0).trans rfl, (ae h 1).trans rfl, (ae h 2).trans rfl, aN h 0, aN h 1, aN h 2⟩
theorem afX {w : World} {g : Nat} {t : TypeId} {a0 a1 a2 a3 : Value} (h : w.heap[g]? = some (.cells #[a0, a1, a2, a3] t (0, 0))) : w.cell? ⟨g, 0, none⟩ = some a0 ∧ w.cell? ⟨g, 1, none⟩ = some a1 ∧ w.cell? ⟨g, 2, none⟩ = some a2 ∧ w.cell? ⟨g, 3, none⟩ = some a3 ∧ w.frozen? ⟨g, 0, none⟩ = false ∧ w.frozen? ⟨g, 1, none⟩ = false ∧ w.frozen? ⟨g, 2, none⟩ = false ∧ w.frozen? ⟨g, 3, none⟩ = false := ⟨(ae h 0).trans rfl, (ae h 1).trans rfl, (ae h 2).trans rfl, (ae h 3).trans rfl, aN h 0, aN h 1, aN h 2, aN h 3⟩
theorem cells5 {w : World} {g : Nat} {t : TypeId} {a0 a1 a2 a3 a4 : Value} (h : w.heap[g]? = some (.cells #[a0, a1, a2, a3, a4] t (0, 0))) : w.cell? ⟨g, 0, none⟩ = some a0 ∧ w.cell? ⟨g, 1, none⟩ = some a1 ∧ w.cell? ⟨g, 2, none⟩ = some a2 ∧ w.cell? ⟨g, 3, none⟩ = some a3 ∧ w.cell? ⟨g, 4, none⟩ = some a4 ∧ w.frozen? ⟨g, 0, none⟩ = false ∧ w.frozen? ⟨g, 1, none⟩ = false ∧ w.frozen? ⟨g, 2, none⟩ = false ∧ w.frozen? ⟨g, 3, none⟩ = false ∧ w.frozen? ⟨g, 4, none⟩ = false := ⟨(ae h 0).trans rfl, (ae h 1).trans rfl, (ae h 2).trans rfl, (ae h 3).trans rfl, (ae h 4).trans rfl, aN h 0, aN h 1, aN h 2, aN h 3, aN h 4⟩
theorem afE {w : World} {g : Nat} {t : TypeId} {a0 a1 a2 a3 a4 a5 : Value} (h : w.heap[g]? = some (.cells #[a0, a1, a2, a3, a4, a5] t (0, 0))) : w.cell? ⟨g, 0, none⟩ = some a0 ∧ w.cell? ⟨g, 1, none⟩ = some a1 ∧ w.cell? ⟨g, 2, none⟩ = some a2 ∧ w.cell? ⟨g, 3, none⟩ = some a3 ∧ w.cell? ⟨g, 4, none⟩ = some a4 ∧ w.cell? ⟨g, 5, none⟩ = some a5 ∧ w.frozen? ⟨g, 0, none⟩ = false ∧ w.frozen? ⟨g, 1, none⟩ = false ∧ w.frozen? ⟨g, 2, none⟩ = false ∧ w.frozen? ⟨g, 3, none⟩ = false ∧ w.frozen? ⟨g, 4, none⟩ = false ∧ w.frozen? ⟨g, 5, none⟩ = false := ⟨(ae h 0).trans rfl, (ae h 1).trans rfl, (ae h 2).trans rfl, (ae h 3).trans rfl, (ae h 4).trans rfl, (ae h 5).trans rfl, aN h 0, aN h 1, aN h 2, aN h 3, aN h 4, aN h 5⟩
class inductive UpC : World → World → Prop
 | refl (w : World) : UpC w w
 | alloc {w w' : World} (o : Obj) (h : UpC w w') : UpC w (w'.alloc o)
 | drewN {w w' : World} (n : Nat) (h : UpC w w') : UpC w (w'.drewN n)
 | drew {w w' : World} (h : UpC w w') : UpC w w'.drew
instance UpC.iA {w w' : World} {o : Obj} [h : UpC w w'] : UpC w (w'.alloc o) := .alloc o h
instance UpC.iN {w w' : World} {n : Nat} [h : UpC w w'] : UpC w (w'.drewN n) := .drewN n h
instance UpC.iD {w w' : World} [h : UpC w w'] : UpC w w'.drew := .drew h
instance (priority := high) UpC.iR {w : World} : UpC w w := .refl w
theorem bU {w w' : World} {g : Nat} {o : Obj} (hb : w.heap[g]? = some o) [h : UpC w w'] : w'.heap[g]? = some o := by
 induction h with
 | refl => exact hb
 | alloc o _ ih => exact bT ih _
 | drewN n _ ih => exact eX ih _
 | drew _ ih => exact dK ih
theorem rU {α : Type} {d : Kd α} {e : Nat} {w w' : World} {base : Nat} {ok : Nat → Prop} {v : Value} {xs : List α} (hb : Kd.R d e w base ok v xs) [h : UpC w w'] : Kd.R d e w' base ok v xs := by
 induction h with
 | refl => exact hb
 | alloc o _ ih => exact Kd.Q8 ih _
 | drewN n _ ih => exact Kd.TM ih _
 | drew _ ih => exact Kd.tJ ih
theorem nU {α : Type} {d : Kd α} {e : Nat} {w w' : World} {base : Nat} {ok : Nat → Prop} {v : Value} {xs : List α} (hb : Kd.N d e w base ok v xs) [h : UpC w w'] : Kd.N d e w' base ok v xs := by
 induction h with
 | refl => exact hb
 | alloc o _ ih => exact Kd.Sm ih _
 | drewN n _ ih => exact Kd.Su ih _
 | drew _ ih => exact Kd.uI ih
theorem vU {α : Type} {d : Kd α} {e : Nat} {w w' : World} {base : Nat} {ok : Nat → Prop} {v : Value} {xs : List α} (hb : Kd.V d e w base ok v xs) [h : UpC w w'] : Kd.V d e w' base ok v xs := by
 induction h with
 | refl => exact hb
 | alloc o _ ih => exact Kd.Uy ih _
 | drewN n _ ih => exact Kd.Ty ih _
 | drew _ ih => exact Kd.ER ih
theorem iU {w0 w w' : World} {g : Nat} {x y : Int} (hb : aQ w0 w g x y) [h : UpC w w'] : aQ w0 w' g x y := by
 induction h with
 | refl => exact hb
 | alloc o _ ih => exact aQ.alloc ih _
 | drewN n _ ih => exact aQ.drewN ih _
 | drew _ ih => exact aQ.drew ih
theorem kU {w0 w w' : World} {g : Nat} (hb : aj w0 w g none) [h : UpC w w'] : aj w0 w' g none := by
 induction h with
 | refl => exact hb
 | alloc o _ ih => exact Ja ih _
 | drewN n _ ih => exact tT ih _
 | drew _ ih => exact qE ih
theorem lU {w0 w w' : World} (hb : Below w0.heap.size w0 w) [h : UpC w w'] : Below w0.heap.size w0 w' := by
 induction h with
 | refl => exact hb
 | alloc o _ ih => exact ax ih _
 | drewN n _ ih => exact df ih _
 | drew _ ih => exact gI ih
def Dj (s0_0 s0_1 : Int) : Int := Go.bits .xor .u64 (Go.bits .xor .u64 (Go.bits .xor .u64 (Go.bits .xor .u64 s0_0 (IntKind.u64.wrap (s0_0 * 8388608))) s0_1) ((Go.bits .xor .u64 s0_0 (IntKind.u64.wrap (s0_0 * 8388608))) / 131072)) (s0_1 / 67108864)
def dU.f (s0_0 : Int) (s0_1 : Int) : Option (Int × Int × Int) := if Go.bits .or .u64 s0_1 (Dj s0_0 s0_1) = 0 then some (IntKind.u64.wrap (1 + s0_1), s0_1, 1) else some (IntKind.u64.wrap (Dj s0_0 s0_1 + s0_1), s0_1, Dj s0_0 s0_1)
def Cq (s0_0 s0_1 : Int) : Int × Int := (s0_1, if Go.bits .or .u64 s0_1 (Dj s0_0 s0_1) = 0 then 1 else Dj s0_0 s0_1)
theorem Mv (a b : Int) : ∃ r, dU.f a b = some (r, (Cq a b).1, (Cq a b).2) := by
 unfold dU.f Cq; split
 ·exact ⟨_, rfl⟩
 ·exact ⟨_, rfl⟩
theorem Hd {P : Program} {c : Code} {Q : Exit → Act → World → Prop} {a : Act} {w0 w W : World} {g : Nat} {x y : Int} (hI : aQ w0 W g x y) (hB : Below w0.heap.size w0 W) (hK : aj w W g none)
 (k : ∀ W', aQ w0 W' g x y → Below w0.heap.size w0 W' → aj w W' g none → Code.wp P c Q a W') : Code.wp P c Q a W := k W hI hB hK
set_option maxHeartbeats 8000000 in
set_option maxRecDepth 100000 in
theorem dU.calls (g : Nat) (s0_0 : Int) (s0_1 : Int) (r1 : Int) (r2 : Int) (r3 : Int) (w0 w : World) (hI : aQ w0 w g s0_0 s0_1) (hB : Below w0.heap.size w0 w) (h : dU.f s0_0 s0_1 = some (r1, r2, r3)) :
 Calls Try.prog 53 #[.pointer (some ⟨g, 0, none⟩)] w fun e w' => e = .returned (.int .u64 r1) ∧ aQ w0 w' g r2 r3 ∧ Below w0.heap.size w0 w' ∧ aj w w' g none := by
 have HI0 := aa.mk hI; have HK := aa.mk (aj.refl w g none); have HB := aa.mk hB; obtain ⟨HGz3, hgz3⟩ := hI; have QE := yN HGz3; have PK := yR HGz3; have QL := aN HGz3 0; have NJ := aN HGz3 1; clear HGz3 hgz3 hB; simp only [dU.f] at h; have Hh := aa.mk h; clear h; go_enter Try.func53, Try.ntmps53; go_wp2; go_quiet (fail); go_wp2; obtain ⟨X, hX⟩ : ∃ X, X = Dj s0_0 s0_1 := ⟨_, rfl⟩; rw [show (Go.bits .xor .u64 (Go.bits .xor .u64 (Go.bits .xor .u64 (Go.bits .xor .u64 s0_0 (IntKind.u64.wrap (s0_0 * 8388608))) s0_1) ((Go.bits .xor .u64 s0_0 (IntKind.u64.wrap (s0_0 * 8388608))) / 131072)) (s0_1 / 67108864)) = X from hX.symm]; rw [← hX] at Hh; clear hX; refine Hd (x := s0_1) (y := X) (w0 := w0) (w := w) (g := g) ?_ ?_ ?_ ?_
 ·exact aQ.OW (aQ.Zh (aQ.drewN HI0.out _) _) _
 ·exact bZ (bZ (df HB.out _) (aQ.ge HI0.out)) (aQ.ge HI0.out)
 ·exact aj.R9 (aj.R9 (tT HK.out _) _ _) _ _
 intro W hI2 hB2 hK2; clear QE PK QL NJ HI0 HB HK; have HI := aa.mk hI2; have HB := aa.mk hB2; have HK := aa.mk hK2; obtain ⟨HGz3, hgz3⟩ := hI2; have QE := yN HGz3; have PK := yR HGz3; have QL := aN HGz3 0; have NJ := aN HGz3 1; clear HGz3 hgz3 hB2 hK2; by_cases c2 : Go.bits .or .u64 s0_1 X = 0
 ·have h := Hh.out; rw [if_pos c2] at h; have Jv : (Go.bits .or .u64 s0_1 X == 0) = true := beq_iff_eq.mpr c2; clear c2 Hh; simp only [Option.some.injEq, Prod.mk.injEq] at h; obtain ⟨rfl, rfl, rfl⟩ := h; go_quiet (fail); go_wp2
  go_ret
  exact ⟨rfl, aQ.OW (aQ.drewN HI.out _) _, bZ (df HB.out _) (aQ.ge HI.out), aj.R9 (tT HK.out _) _ _⟩
 ·have h := Hh.out; rw [if_neg c2] at h; have Jv : (Go.bits .or .u64 s0_1 X == 0) = false := beq_eq_false_iff_ne.mpr c2; clear c2 Hh; simp only [Option.some.injEq, Prod.mk.injEq] at h; obtain ⟨rfl, rfl, rfl⟩ := h; go_quiet (fail); go_wp2
  go_ret
  exact ⟨rfl, aQ.drewN HI.out _, df HB.out _, tT HK.out _⟩
end Go.Proofs.Ytihedeofkhapiaa.Pr
end
section
namespace Go.Proofs.Ytihedeofkhapiaa.Pr
open Go.RowKit Go.Proofs.YtihedeofkhapiaaW.PrintWords Go.Proofs.YtihedeofkhapiaaW.PrintLast Go.Proofs.YtihedeofkhapiaaW.PrintMore
attribute [local go_sem] oz nZ qp qA pG oV qN qX
def aW.f (s0_0 : Int) (s0_1 : Int) (a1 : Int) : Option (Int × Int × Int) := if a1 < 2 then (some (0, s0_0, s0_1)) else ((dU.f s0_0 s0_1).bind fun Am => (if (IntKind.u64.wrap (a1)) = 0 then (none) else (some (wrap64 (Int.tmod (Am.1 / 2048) (IntKind.u64.wrap (a1))), Am.2.1, Am.2.2))))
set_option maxHeartbeats 8000000 in
set_option maxRecDepth 100000 in
theorem aW.calls (g : Nat) (s0_0 : Int) (s0_1 : Int) (a1 : Int) (r1 : Int) (r2 : Int) (r3 : Int) (w0 w : World) (hI : aQ w0 w g s0_0 s0_1) (hB : Below w0.heap.size w0 w) (h : aW.f s0_0 s0_1 a1 = some (r1, r2, r3)) :
 Calls Try.prog 33 #[.pointer (some ⟨g, 0, none⟩), .int .i64 a1] w fun e w' => e = .returned (.int .i64 r1) ∧ aQ w0 w' g r2 r3 ∧ Below w0.heap.size w0 w' ∧ aj w w' g none := by
 have HI0 := aa.mk hI; have HK := aa.mk (aj.refl w g none); have HL := aa.mk hB.size; clear hI; have HW0 := aa.mk hB.size; have HB := aa.mk hB; clear hB; have H : (if a1 < 2 then (some (0, s0_0, s0_1)) else ((dU.f s0_0 s0_1).bind fun Am => (if (IntKind.u64.wrap (a1)) = 0 then (none) else (some (wrap64 (Int.tmod (Am.1 / 2048) (IntKind.u64.wrap (a1))), Am.2.1, Am.2.2))))) = some (r1, r2, r3) := h; clear h; by_cases c3 : a1 < 2
 ·rw [if_pos c3] at H; have wu : decide (a1 < 2) = true := decide_eq_true c3; clear c3; simp only [Option.some.injEq, Prod.mk.injEq] at H; obtain ⟨rfl, rfl, rfl⟩ := H; go_enter Try.func33, Try.ntmps33; go_wp2
  go_ret
  exact ⟨by rfl, by exact HI0.out, by exact HB.out, by exact HK.out⟩
 ·rw [if_neg c3] at H; have wu : decide (a1 < 2) = false := decide_eq_false c3; clear c3; replace H := Option.bind_eq_some_iff.mp H; obtain ⟨⟨afK, agu, agt⟩, A40, H⟩ := H; dsimp only at H; have A4 := aa.mk A40; clear A40; by_cases c5 : (IntKind.u64.wrap (a1)) = 0
  ·rw [if_pos c5] at H; exact absurd H (by simp)
  ·rw [if_neg c5] at H; have EK : ((IntKind.u64.wrap (a1)) == 0) = false := beq_eq_false_iff_ne.mpr c5; have O6 : ((IntKind.u64.wrap (a1)) != 0) = true := bne_iff_ne.mpr c5; simp only [Option.some.injEq, Prod.mk.injEq] at H; obtain ⟨rfl, rfl, rfl⟩ := H; go_enter Try.func33, Try.ntmps33; go_wp2_with (((with_reducible refine bM (f := 53) rfl ?_); refine eU (some 8) rfl rfl Try.func53 (by kernel_rfl) rfl #[.pointer (some ⟨g, 0, none⟩)] rfl (by (simp only [List.map_toArray, List.map_cons, List.map_nil]); rfl) ?_; (with_reducible refine (dU.calls g s0_0 s0_1 afK agu agt w0 _ ?side1 ?side2 A4.out).mono ?_); (case side1 => exact HI0.out); (case side2 => exact HB.out); rintro e w6 ⟨rfl, hi, hb, hk⟩; refine ⟨_, rfl, ?_⟩; replace HK := aa.mk (aj.trans (by exact HK.out) hk (.inl rfl)); replace HB := aa.mk (hb); replace HI0 := aa.mk (hi); clear hb; clear hk; (clear hi)))
   go_ret
   exact ⟨by rfl, by exact HI0.out, by exact HB.out, by exact HK.out⟩
def dw.f (s0_0 : Int) (s0_1 : Int) (a1 : Int) (a2 : Int) : Option (Bool × Int × Int) := (aW.f s0_0 s0_1 a2).bind fun Ai => (some (decide (Ai.1 < a1), Ai.2.1, Ai.2.2))
set_option maxHeartbeats 8000000 in
set_option maxRecDepth 100000 in
theorem dw.calls (g : Nat) (s0_0 : Int) (s0_1 : Int) (a1 : Int) (a2 : Int) (r1 : Bool) (r2 : Int) (r3 : Int) (w0 w : World) (hI : aQ w0 w g s0_0 s0_1) (hB : Below w0.heap.size w0 w) (h : dw.f s0_0 s0_1 a1 a2 = some (r1, r2, r3)) :
 Calls Try.prog 32 #[.pointer (some ⟨g, 0, none⟩), .int .i64 a1, .int .i64 a2] w fun e w' => e = .returned (.bool r1) ∧ aQ w0 w' g r2 r3 ∧ Below w0.heap.size w0 w' ∧ aj w w' g none := by
 have HI0 := aa.mk hI; have HK := aa.mk (aj.refl w g none); have HL := aa.mk hB.size; clear hI; have HW0 := aa.mk hB.size; have HB := aa.mk hB; clear hB; have H : ((aW.f s0_0 s0_1 a2).bind fun Ai => (some (decide (Ai.1 < a1), Ai.2.1, Ai.2.2))) = some (r1, r2, r3) := h; clear h; replace H := Option.bind_eq_some_iff.mp H; obtain ⟨⟨aeN, age, afu⟩, A40, H⟩ := H; dsimp only at H; have A4 := aa.mk A40; clear A40; simp only [Option.some.injEq, Prod.mk.injEq] at H; obtain ⟨rfl, rfl, rfl⟩ := H; go_enter Try.func32, Try.ntmps32; go_wp2_with (((with_reducible refine bM (f := 33) rfl ?_); refine eU (some 9) rfl rfl Try.func33 (by kernel_rfl) rfl #[.pointer (some ⟨g, 0, none⟩), .int .i64 a2] rfl (by (simp only [List.map_toArray, List.map_cons, List.map_nil]); rfl) ?_; (with_reducible refine (aW.calls g s0_0 s0_1 a2 aeN age afu w0 _ ?side1 ?side2 A4.out).mono ?_); (case side1 => exact HI0.out); (case side2 => exact HB.out); rintro e w5 ⟨rfl, hi, hb, hk⟩; refine ⟨_, rfl, ?_⟩; replace HK := aa.mk (aj.trans (by exact HK.out) hk (.inl rfl)); replace HB := aa.mk (hb); replace HI0 := aa.mk (hi); clear hb; clear hk; (clear hi)))
 go_ret
 exact ⟨by rfl, by exact HI0.out, by exact HB.out, by exact HK.out⟩
def bW.f (s0_0 : Int) (s0_1 : Int) (a1 : Int) (a2 : Int) : Option (Int × Int × Int) := (aW.f s0_0 s0_1 (wrap64 ((wrap64 (a2 - a1)) + 1))).bind fun Be => (some (wrap64 (a1 + Be.1), Be.2.1, Be.2.2))
set_option maxHeartbeats 8000000 in
set_option maxRecDepth 100000 in
theorem bW.calls (g : Nat) (s0_0 : Int) (s0_1 : Int) (a1 : Int) (a2 : Int) (r1 : Int) (r2 : Int) (r3 : Int) (w0 w : World) (hI : aQ w0 w g s0_0 s0_1) (hB : Below w0.heap.size w0 w) (h : bW.f s0_0 s0_1 a1 a2 = some (r1, r2, r3)) :
 Calls Try.prog 50 #[.pointer (some ⟨g, 0, none⟩), .int .i64 a1, .int .i64 a2] w fun e w' => e = .returned (.int .i64 r1) ∧ aQ w0 w' g r2 r3 ∧ Below w0.heap.size w0 w' ∧ aj w w' g none := by
 have HI0 := aa.mk hI; have HK := aa.mk (aj.refl w g none); have HL := aa.mk hB.size; clear hI; have HW0 := aa.mk hB.size; have HB := aa.mk hB; clear hB; have H : ((aW.f s0_0 s0_1 (wrap64 ((wrap64 (a2 - a1)) + 1))).bind fun Be => (some (wrap64 (a1 + Be.1), Be.2.1, Be.2.2))) = some (r1, r2, r3) := h; clear h; replace H := Option.bind_eq_some_iff.mp H; obtain ⟨⟨afJ, agl, afS⟩, A40, H⟩ := H; dsimp only at H; have A4 := aa.mk A40; clear A40; simp only [Option.some.injEq, Prod.mk.injEq] at H; obtain ⟨rfl, rfl, rfl⟩ := H; go_enter Try.func50, Try.ntmps50; go_wp2_with (((with_reducible refine bM (f := 33) rfl ?_); refine eU (some 13) rfl rfl Try.func33 (by kernel_rfl) rfl #[.pointer (some ⟨g, 0, none⟩), .int .i64 (wrap64 ((wrap64 (a2 - a1)) + 1))] rfl (by (simp only [List.map_toArray, List.map_cons, List.map_nil]); rfl) ?_; (with_reducible refine (aW.calls g s0_0 s0_1 (wrap64 ((wrap64 (a2 - a1)) + 1)) afJ agl afS w0 _ ?side1 ?side2 A4.out).mono ?_); (case side1 => exact HI0.out); (case side2 => exact HB.out); rintro e w5 ⟨rfl, hi, hb, hk⟩; refine ⟨_, rfl, ?_⟩; replace HK := aa.mk (aj.trans (by exact HK.out) hk (.inl rfl)); replace HB := aa.mk (hb); replace HI0 := aa.mk (hi); clear hb; clear hk; (clear hi)))
 go_ret
 exact ⟨by rfl, by exact HI0.out, by exact HB.out, by exact HK.out⟩
mutual
def aJ.l0 : Nat → Int → Int → Int → Int → Int → Int → List (S86) → Option (Int × Int × (List (S86)) × Int × Int)
 | 0, _, _, _, _, _, _, _ => none
 | k + 1, x7, x8, lu, ll, xz, xS, vP => if x8 > 0 then (aJ.j1 k x7 x8 (decide (x7 < 26)) lu ll xz xS vP) else (aJ.j1 k x7 x8 false lu ll xz xS vP)
def aJ.j1 : Nat → Int → Int → Bool → Int → Int → Int → Int → List (S86) → Option (Int × Int × (List (S86)) × Int × Int)
 | 0, _, _, _, _, _, _, _, _ => none
 | k + 1, x7, x8, x27, lu, ll, xz, xS, vP => if x27 = true then ((aW.f lu ll (mn 4 (wrap64 (26 - x7)))).bind fun xL => ((bW.f xL.2.1 xL.2.2 1 31).bind fun Cm => (if vP.length < 8796093022208 then (aJ.l0 k (wrap64 ((wrap64 (x7 + xL.1)) + 1)) (wrap64 (x8 - 1)) Cm.2.1 Cm.2.2 xz xS (vP ++ [(⟨(wrap64 (65 + (wrap64 (x7 + xL.1)))) % 256, Cm.1⟩ : S86)])) else (none)))) else (some (xz, xS, vP, lu, ll))
end
def aJ.f (k : Nat) (s0_0 : Int) (s0_1 : Int) (a1 : Int) : Option (Int × Int × (List (S86)) × Int × Int) := (bW.f s0_0 s0_1 (-600) 300).bind fun xH => ((aW.f xH.2.1 xH.2.2 200).bind fun Bq => ((bW.f Bq.2.1 Bq.2.2 1 a1).bind fun BP => (aJ.l0 k 0 BP.1 BP.2.1 BP.2.2 xH.1 (wrap64 (xH.1 + Bq.1)) ([] : List (S86)))))
theorem aJ.gM : ∀ k, (∀ y0 y1 y2 y3 y4 y5 y6, LeO (aJ.l0 k y0 y1 y2 y3 y4 y5 y6) (aJ.l0 (k + 1) y0 y1 y2 y3 y4 y5 y6)) ∧ (∀ y0 y1 y2 y3 y4 y5 y6 y7, LeO (aJ.j1 k y0 y1 y2 y3 y4 y5 y6 y7) (aJ.j1 (k + 1) y0 y1 y2 y3 y4 y5 y6 y7))
 | 0 => ⟨fun _ _ _ _ _ _ _ r h => by simp [aJ.l0] at h, fun _ _ _ _ _ _ _ _ r h => by simp [aJ.j1] at h⟩
 | k + 1 => by
  obtain ⟨ih0, ih1⟩ := aJ.gM k; refine ⟨?_, ?_⟩
  ·intro y0 y1 y2 y3 y4 y5 y6; unfold aJ.l0
   repeat' first | (with_reducible exact ih1 _ _ _ _ _ _ _ _) | (with_reducible refine LeO.ite ?_ ?_)
  ·intro y0 y1 y2 y3 y4 y5 y6 y7; unfold aJ.j1
   repeat' first | (with_reducible exact ih0 _ _ _ _ _ _ _) | (with_reducible exact LeO.refl _) | (with_reducible refine LeO.ite ?_ ?_) | (with_reducible refine LeO.bind ?_ (fun _ => ?_))
theorem aJ.mono : ∀ a0 a1 a2 k, LeO (aJ.f k a0 a1 a2) (aJ.f (k + 1) a0 a1 a2) := by
 intro a0 a1 a2 k; obtain ⟨ih0, ih1⟩ := aJ.gM k; unfold aJ.f
 repeat' first | (with_reducible exact ih0 _ _ _ _ _ _ _) | (with_reducible exact LeO.refl _) | (with_reducible refine LeO.bind ?_ (fun _ => ?_))
def aJ.T8 : Bool × List (List Nat × List Nat) := (true, [([], []), ([0], [0]), ([], []), ([2], [2]), ([3], [3]), ([], []), ([5], [5]), ([4, 6], [4, 6]), ([7], [7]), ([1, 8, 6], [1, 8]), ([0, 1, 2, 3, 4, 5, 6, 7, 8, 9], []), ([10, 9, 9, 0, 1, 2, 3, 4, 5, 6, 7, 8, 9], [9, 10])])
def aJ.B8 : List Nat := [0, 1, 0, 4, 12, 0, 32, 124, 252, 511, 1023, 2047]
theorem aJ.af6 : mH .any (opsOf Try.f51 8) = aJ.T8 := by kernel_rfl
theorem aJ.YC : nk aJ.T8.2 aJ.B8 = true := by kernel_rfl
set_option maxHeartbeats 8000000 in
set_option maxRecDepth 100000 in
theorem aJ.calls (k : Nat) (g : Nat) (s0_0 : Int) (s0_1 : Int) (a1 : Int) (r1 : Int) (r2 : Int) (r3 : List (S86)) (r4 : Int) (r5 : Int) (w0 w : World) (hI : aQ w0 w g s0_0 s0_1) (hB : Below w0.heap.size w0 w) (h : aJ.f k s0_0 s0_1 a1 = some (r1, r2, r3, r4, r5)) :
 Calls Try.prog 51 #[.pointer (some ⟨g, 0, none⟩), .int .i64 a1] w fun e w' => ∃ v2_ : Value, e = .returned (.agg #[.int .i64 r1, .int .i64 r2, v2_]) ∧ Kd.R k86 86 w' w.heap.size (fun _ => True) v2_ r3 ∧ aQ w0 w' g r4 r5 ∧ Below w0.heap.size w0 w' ∧ aj w w' g none := by
 have hu66 := Try.underlying66; have hu63 := Try.underlying63; have hu86 := Try.underlying86; have HI0 := aa.mk hI; have HK := aa.mk (aj.refl w g none); have HL := aa.mk hB.size; clear hI; have HW0 := aa.mk hB.size; have HB := aa.mk hB; clear hB; have H : ((bW.f s0_0 s0_1 (-600) 300).bind fun xH => ((aW.f xH.2.1 xH.2.2 200).bind fun Bq => ((bW.f Bq.2.1 Bq.2.2 1 a1).bind fun BP => (aJ.l0 k 0 BP.1 BP.2.1 BP.2.2 xH.1 (wrap64 (xH.1 + Bq.1)) ([] : List (S86)))))) = some (r1, r2, r3, r4, r5) := h; clear h; replace H := Option.bind_eq_some_iff.mp H; obtain ⟨⟨oD, YJ, aak⟩, A30, H⟩ := H; dsimp only at H; have A3 := aa.mk A30; clear A30; replace H := Option.bind_eq_some_iff.mp H; obtain ⟨⟨xg, WN, Wu⟩, A40, H⟩ := H; dsimp only at H; have A4 := aa.mk A40; clear A40; replace H := Option.bind_eq_some_iff.mp H; obtain ⟨⟨abg, abS, ZK⟩, A50, H⟩ := H; dsimp only at H; have A5 := aa.mk A50; clear A50; have H' := aa.mk H; clear H; go_enter Try.func51, Try.ntmps51; (go_wp2_with (first | ((with_reducible refine dm (N := 4) rfl ?_); refine dE ?hg (N := 4) ?hd (cs := #[.int .i64 0, .int .i64 0, .slice none 0 0]) (t := 66) ?hr ?_; (case hd => rfl); (case hg => rfl); (case hr => (go_simp; done)); intro uJ hg w6 hbox hb; replace HB := aa.mk (aC (by exact HB.out) hb); have kD := aa.mk (hbox); have abG := aa.mk ((by rw [hg]; exact (bR (w := w) (g := g) (row := none) (by exact HK.out)) : w.heap.size ≤ uJ)); have aaX := aa.mk ((Nat.le_trans HW0.out (by rw [hg]; exact (bR (w := w) (g := g) (row := none) (by exact HK.out)) : w.heap.size ≤ uJ) : w0.heap.size ≤ uJ)); replace HK := aa.mk (aj.trans (by exact HK.out) (aj.of_below hb g none) (.inl rfl)); have DR := aa.mk ((by rw [hg]; exact Nat.ne_of_lt (aQ.lt (show aQ w0 _ g s0_0 s0_1 from by exact HI0.out)) : g ≠ uJ)); have vT := aa.mk DR.out.symm; replace HI0 := aa.mk (aQ.below (by exact HI0.out) hb); clear hb hbox hg) | ((with_reducible refine bM (f := 50) rfl ?_); refine eU (some 11) rfl rfl Try.func50 (by kernel_rfl) rfl #[.pointer (some ⟨g, 0, none⟩), .int .i64 (-600), .int .i64 300] rfl (by (simp only [List.map_toArray, List.map_cons, List.map_nil]); rfl) ?_; (with_reducible refine (bW.calls g s0_0 s0_1 (-600) 300 oD YJ aak w0 _ ?side1 ?side2 A3.out).mono ?_); (case side1 => exact HI0.out); (case side2 => exact HB.out); rintro e w7 ⟨rfl, hi, hb, hk⟩; refine ⟨_, rfl, ?_⟩; replace kD := aa.mk (aj.blk hk (bU kD.out) vT.out (by simp)); replace HK := aa.mk (aj.trans (by exact HK.out) hk (.inl rfl)); replace HB := aa.mk (hb); replace HI0 := aa.mk (hi); clear hb; clear hk; (clear hi)) | ((with_reducible refine bM (f := 33) rfl ?_); refine eU (some 15) rfl rfl Try.func33 (by kernel_rfl) rfl #[.pointer (some ⟨g, 0, none⟩), .int .i64 200] rfl (by (simp only [List.map_toArray, List.map_cons, List.map_nil]); rfl) ?_; (with_reducible refine (aW.calls g YJ aak 200 xg WN Wu w0 _ ?side1 ?side2 A4.out).mono ?_); (case side1 => exact HI0.out); (case side2 => exact HB.out); rintro e w8 ⟨rfl, hi, hb, hk⟩; refine ⟨_, rfl, ?_⟩; replace kD := aa.mk (aj.blk hk (bU kD.out) vT.out (by simp)); replace HK := aa.mk (aj.trans (by exact HK.out) hk (.inl rfl)); replace HB := aa.mk (hb); replace HI0 := aa.mk (hi); clear hb; clear hk; (clear hi)) | ((with_reducible refine dm (N := 6) rfl ?_); refine dE ?hg (N := 6) ?hd (cs := #[.int .i64 0, .int .i64 0, .slice none 0 0]) (t := 66) ?hr ?_; (case hd => rfl); (case hg => rfl); (case hr => (go_simp; done)); intro uz hg w9 hbox hb; replace HB := aa.mk (aC (by exact HB.out) hb); have jc := aa.mk (hbox); have Vk := aa.mk ((by rw [hg]; exact (bR (w := w) (g := g) (row := none) (by exact HK.out)) : w.heap.size ≤ uz)); have VV := aa.mk ((Nat.le_trans HW0.out (by rw [hg]; exact (bR (w := w) (g := g) (row := none) (by exact HK.out)) : w.heap.size ≤ uz) : w0.heap.size ≤ uz)); replace HK := aa.mk (aj.trans (by exact HK.out) (aj.of_below hb g none) (.inl rfl)); have nC := aa.mk (nb_ hg (bU kD.out)); have yI := aa.mk nC.out.symm; replace kD := aa.mk (au (bU kD.out) hb); have xq := aa.mk ((by rw [hg]; exact Nat.ne_of_lt (aQ.lt (show aQ w0 _ g WN Wu from by exact HI0.out)) : g ≠ uz)); have xY := aa.mk xq.out.symm; replace HI0 := aa.mk (aQ.below (by exact HI0.out) hb); clear hb hbox hg; have ahV := yI.out; have ahh := nC.out; have Yz := xY.out; have Zt := xq.out; obtain ⟨D7, Ew, KH, Ey, Er, JX⟩ := cells3 jc.out) | ((with_reducible refine bM (f := 50) rfl ?_); refine eU (some 21) rfl rfl Try.func50 (by kernel_rfl) rfl #[.pointer (some ⟨g, 0, none⟩), .int .i64 1, .int .i64 a1] rfl (by (simp only [List.map_toArray, List.map_cons, List.map_nil]); rfl) ?_; (with_reducible refine (bW.calls g WN Wu 1 a1 abg abS ZK w0 _ ?side1 ?side2 A5.out).mono ?_); (case side1 => repeat ((with_reducible first | exact HI0.out | refine aQ.far ?_ xq.out _))); (case side2 => repeat ((with_reducible first | exact HB.out | refine bZ ?_ VV.out))); rintro e w13 ⟨rfl, hi, hb, hk⟩; refine ⟨_, rfl, ?_⟩; replace kD := aa.mk (aj.blk hk (g' := uJ) (o := .cells #[.int .i64 0, .int .i64 0, .slice none 0 0] 66 (0, 0)) (by refine bu ?_ nC.out _; refine bu ?_ nC.out _; refine bu ?_ nC.out _; exact kD.out) vT.out (by simp)); replace jc := aa.mk (aj.blk hk (g' := uz) (o := .cells #[.int .i64 oD, .int .i64 (wrap64 (oD + xg)), .slice none 0 0] 66 (0, 0)) (by refine bP (cs := #[.int .i64 oD, .int .i64 (wrap64 (oD + xg)), .slice none 0 0]) ?_ 2 _ rfl; refine bP (cs := #[.int .i64 oD, .int .i64 0, .slice none 0 0]) ?_ 1 _ rfl; refine bP (cs := #[.int .i64 0, .int .i64 0, .slice none 0 0]) ?_ 0 _ rfl; exact jc.out) xY.out (by simp)); replace HK := aa.mk (aj.trans (by repeat ((with_reducible first | exact HK.out | refine lV ?_ Vk.out _))) hk (.inl rfl)); replace HB := aa.mk (hb); replace HI0 := aa.mk (hi); clear hb; clear hk; (clear hi)))); (go_loopg [7, 8] k (fun kq v7 v8 w' => ∃ (wm : Int) (CK : Int) (kG : Int) (kH : Int) (kr : List (S86)) (qy : Value), v7 = .int .i64 wm ∧ v8 = .int .i64 CK ∧ aa (aJ.l0 kq wm CK kG kH oD (wrap64 (oD + xg)) kr = some (r1, r2, r3, r4, r5)) ∧ aa (kq ≤ k) ∧ aa (Kd.R k86 86 w' w.heap.size (fun _ => True) qy kr) ∧ aa (w'.heap[uJ]? = some (.cells #[.int .i64 0, .int .i64 0, (.slice none 0 0)] 66 (0, 0))) ∧ aa (w'.heap[uz]? = some (.cells #[.int .i64 oD, .int .i64 (wrap64 (oD + xg)), qy] 66 (0, 0))) ∧ aa (aQ w0 w' g kG kH) ∧ aa (aj w w' g none) ∧ aa (Below w0.heap.size w0 w'))); case atStart => exact ⟨(0), (abg), (abS), (ZK), (([] : List (S86))), (.slice none 0 0), (by rfl), (by rfl), H', ⟨Nat.le_refl _⟩, ⟨by exact Kd.qL _ _ _ _ _⟩, ⟨by exact kD.out⟩, ⟨by exact jc.out⟩, ⟨by exact HI0.out⟩, ⟨by exact HK.out⟩, ⟨by exact HB.out⟩⟩
 case round =>
  clear H' D7 Ew KH Ey Er JX; obtain ⟨wm, CK, kG, kH, kr, qy, rfl, rfl, HA, HK1, gJ, kD, jc, HI0, HK, HB⟩ := hrel
  cases gk with
  | zero => exact absurd HA.out (by simp [aJ.l0])
  | succ k1 =>
   have H := HA.out; clear HA; simp only [aJ.l0] at H; have Wl := aa.mk H; clear H; (go_upto_region 5 with (fail)); go_cut [27] (fun v27 wc => ∃ (kq : Nat) (EX : Bool), v27 = .bool EX ∧ aa (aJ.j1 kq wm CK EX kG kH oD (wrap64 (oD + xg)) kr = some (r1, r2, r3, r4, r5)) ∧ aa (kq ≤ k1) ∧ aa (Kd.R k86 86 wc w.heap.size (fun _ => True) qy kr) ∧ aa (wc.heap[uJ]? = some (.cells #[.int .i64 0, .int .i64 0, (.slice none 0 0)] 66 (0, 0))) ∧ aa (wc.heap[uz]? = some (.cells #[.int .i64 oD, .int .i64 (wrap64 (oD + xg)), qy] 66 (0, 0))) ∧ aa (aQ w0 wc g kG kH) ∧ aa (aj w wc g none) ∧ aa (Below w0.heap.size w0 wc))
   case first =>
    have H := Wl.out; clear Wl; by_cases c15 : CK > 0
    ·rw [if_pos c15] at H; have V3 : decide (0 < CK) = true := decide_eq_true c15; clear c15; (skip); have H' := aa.mk H; clear H; go_wp2; go_meet; case rel => exact ⟨_, (decide (wm < 26)), (by rfl), H', ⟨by have := HK1.out; omega⟩, ⟨by exact gJ.out⟩, ⟨by exact kD.out⟩, ⟨by exact jc.out⟩, ⟨by exact HI0.out⟩, ⟨by exact HK.out⟩, ⟨by exact HB.out⟩⟩
    ·rw [if_neg c15] at H; have V3 : decide (0 < CK) = false := decide_eq_false c15; clear c15; (skip); have H' := aa.mk H; clear H; go_wp2; go_meet; case rel => exact ⟨_, (false), (by rfl), H', ⟨by have := HK1.out; omega⟩, ⟨by exact gJ.out⟩, ⟨by exact kD.out⟩, ⟨by exact jc.out⟩, ⟨by exact HI0.out⟩, ⟨by exact HK.out⟩, ⟨by exact HB.out⟩⟩
   case rest =>
    clear Wl; obtain ⟨kq, EX, rfl, HA, HJ13, gJ, kD, jc, HI0, HK, HB⟩ := hcut
    cases kq with
    | zero => exact absurd HA.out (by simp [aJ.j1])
    | succ kj13 =>
     have H := HA.out; clear HA; simp only [aJ.j1] at H; by_cases c16 : EX = true
     ·subst c16; rw [if_pos rfl] at H; obtain ⟨Rw, VT⟩ : ∃ j_ : Int, (mn 4 (wrap64 (26 - wm))) = j_ := ⟨_, rfl⟩; (replace H : ((aW.f kG kH (Rw)).bind fun xL => ((bW.f xL.2.1 xL.2.2 1 31).bind fun Cm => (if kr.length < 8796093022208 then (aJ.l0 kj13 (wrap64 ((wrap64 (wm + xL.1)) + 1)) (wrap64 (CK - 1)) Cm.2.1 Cm.2.2 oD (wrap64 (oD + xg)) (kr ++ [(⟨(wrap64 (65 + (wrap64 (wm + xL.1)))) % 256, Cm.1⟩ : S86)])) else (none)))) = some (r1, r2, r3, r4, r5) := by (rw [VT] at H; exact H)); have ae0 : (if (wrap64 (26 - wm)) < 4 then (wrap64 (26 - wm)) else 4) = Rw := VT; replace H := Option.bind_eq_some_iff.mp H; obtain ⟨⟨Hr, WM, Xt⟩, abd, H⟩ := H; dsimp only at H; have A18 := aa.mk abd; clear abd; replace H := Option.bind_eq_some_iff.mp H; obtain ⟨⟨Nk, X7, WT⟩, NF, H⟩ := H; dsimp only at H; have A19 := aa.mk NF; clear NF; by_cases c20 : kr.length < 8796093022208
      ·rw [if_pos c20] at H; have ND := aa.mk c20; clear c20; obtain ⟨QV, Mx⟩ : ∃ y_ : List (S86), y_ = (kr ++ [(⟨(wrap64 (65 + (wrap64 (wm + Hr)))) % 256, Nk⟩ : S86)]) := ⟨_, rfl⟩; (replace H : (aJ.l0 kj13 (wrap64 ((wrap64 (wm + Hr)) + 1)) (wrap64 (CK - 1)) X7 WT oD (wrap64 (oD + xg)) QV) = some (r1, r2, r3, r4, r5) := by (rw [Mx]; with_reducible exact H)); have abE := aa.mk Mx; clear Mx; have H' := aa.mk H; clear H; (go_wp2_with (((with_reducible refine bM (f := 33) rfl ?_); refine eU (some 35) rfl rfl Try.func33 (by kernel_rfl) rfl #[.pointer (some ⟨g, 0, none⟩), .int .i64 Rw] rfl (by (simp only [List.map_toArray, List.map_cons, List.map_nil]); rfl) ?_; (with_reducible refine (aW.calls g kG kH Rw Hr WM Xt w0 _ ?side1 ?side2 A18.out).mono ?_); (case side1 => exact HI0.out); (case side2 => exact HB.out); rintro e w21 ⟨rfl, hi, hb, hk⟩; refine ⟨_, rfl, ?_⟩; replace gJ := aa.mk (Kd.bY (Kd.lN (aQ.apart (show aQ w0 _ g kG kH from by exact HI0.out) (rU gJ.out) (by decide)) hk (fun _ h => h.2)) (fun _ h => h.1)); replace kD := aa.mk (aj.blk hk (bU kD.out) vT.out (by simp)); replace jc := aa.mk (aj.blk hk (bU jc.out) xY.out (by simp)); replace HK := aa.mk (aj.trans (by exact HK.out) hk (.inl rfl)); replace HB := aa.mk (hb); replace HI0 := aa.mk (hi); clear hb; clear hk; (clear hi)))); replace gJ := aa.mk (Kd.tJ gJ.out); replace kD := aa.mk (dK kD.out); replace jc := aa.mk (dK jc.out); replace HI0 := aa.mk (aQ.drew HI0.out); replace HK := aa.mk (qE HK.out); replace HB := aa.mk (gI HB.out); refine tV (n := 12) (S := fun w' => w'.cell? ⟨uz, 0, none⟩ = some (.int .i64 oD) ∧ w'.cell? ⟨uz, 1, none⟩ = some (.int .i64 (wrap64 (oD + xg))) ∧ w'.cell? ⟨uz, 2, none⟩ = some (qy)) (ds := [11]) (ba 12 0) (by kernel_rfl) rfl rfl ⟨(ae jc.out 0).trans rfl, (ae jc.out 1).trans rfl, (ae jc.out 2).trans rfl⟩ (fun cz => ?_); refine pq aJ.af6 aJ.YC (fun HT_ HW_ => ?_); generalize w21.drew = w22 at gJ kD jc HI0 HK HB cz ⊢; refine jS 0 37 (ba 12 1) HT_.out ?_
       refine jS 2 39 (ba 12 5) HT_.out ?_
       refine jS 3 40 (ba 12 13) HT_.out ?_
       refine jS 4 41 (ba 12 29) HT_.out ?_
       refine jS 5 42 (ba 12 61) HT_.out ?_
       refine wO 1 38 (ba 12 63) HT_.out HW_.out cz ?_
       refine on_ 6 (some 43) (ba 12 127) HT_.out (fun K hK => ?_); refine FP Try.func50 (by kernel_rfl) rfl #[.pointer (some ⟨g, 0, none⟩), .int .i64 1, .int .i64 31] (by rfl) rfl rfl (by (simp only [List.map_toArray, List.map_cons, List.map_nil]); rfl) ?_; (with_reducible refine (bW.calls g WM Xt 1 31 Nk X7 WT w0 _ ?side1 ?side2 A19.out).mono ?_); (case side1 => exact HI0.out); (case side2 => exact HB.out); rintro e w23 ⟨rfl, hi, hb, hk⟩; refine ⟨_, rfl, ?_⟩; replace gJ := aa.mk (Kd.bY (Kd.lN (aQ.apart (show aQ w0 _ g WM Xt from by exact HI0.out) (rU gJ.out) (by decide)) hk (fun _ h => h.2)) (fun _ h => h.1)); replace kD := aa.mk (aj.blk hk (bU kD.out) vT.out (by simp)); replace jc := aa.mk (aj.blk hk (bU jc.out) xY.out (by simp)); replace HK := aa.mk (aj.trans (by exact HK.out) hk (.inl rfl)); replace HB := aa.mk (hb); replace HI0 := aa.mk (hi); (clear hb); (skip); (clear hk); (clear hi); refine hK.out _ _ ⟨(ae jc.out 0).trans rfl, (ae jc.out 1).trans rfl, (ae jc.out 2).trans rfl⟩ (fun cz => ?_); clear hK K; refine mZ ?_
       refine jS 7 44 (ba 12 255) HT_.out ?_
       refine on_ 8 (some 45) (ba 12 511) HT_.out (fun K hK => ?_); refine Cg (w1 := ?_) (v := ?_) (by rfl) rfl ?_ ?_; rotate_left 2
       ·go_simp; constructor
        ·rfl
        ·rfl
       refine hK.out _ _ ⟨(ae (bT jc.out _) 0).trans rfl, (ae (bT jc.out _) 1).trans rfl, (ae (bT jc.out _) 2).trans rfl⟩ (fun cz => ?_); clear hK K; refine mZ ?_
       refine on_ 9 (some 46) (ba 12 1023) HT_.out (fun K hK => ?_); refine Kd.wD k86 w.heap.size (by rfl) (.tmp 38) (.tmp 45) 64 86 (.agg #[(.int .u8 0), (.int .i64 0)]) 16 rfl Try.underlying64 P7 rfl (by decide) (by omega) qy kr (⟨(wrap64 (65 + (wrap64 (wm + Hr)))) % 256, Nk⟩ : S86) [.int .u8 ((wrap64 (65 + (wrap64 (wm + Hr)))) % 256), .int .i64 Nk] (fun _ => True) (fun _ => False) rfl rfl ?aP (fun _ hk => hk.elim) ?aF ?aO (Below.refl _ _) ?aS ?aL ?_; (case aP => exact um _ _ _ (⟨(wrap64 (65 + (wrap64 (wm + Hr)))) % 256, Nk⟩ : S86)); (case aF => exact (fun _ _ => trivial)); (case aO => exact (rU gJ.out)); (case aS => exact (bR (w := w) (g := g) (row := none) (by exact HK.out))); (case aL => have := ND.out; omega); intro ahZ w24 ho hb hg hat; rw [← abE.out] at ho; replace kD := aa.mk (bK (bU kD.out) hg (Kd.ma gJ.out kD.out (by decide))); replace jc := aa.mk (bK (bU jc.out) hg (Kd.ma gJ.out jc.out (by decide))); replace HI0 := aa.mk (aQ.grown (by exact HI0.out) hg (aQ.own_ne HI0.out gJ.out (by decide))); replace HB := aa.mk (lI (by exact HB.out) HL.out hb); replace HK := aa.mk (aj.trans (by exact HK.out) (aj.nS hg g) (Kd.vE gJ.out)); have V7 := aa.mk (ho); clear gJ ho hb hg hat; obtain ⟨UU, SV, XB⟩ := Kd.fq V7.out; (subst XB); refine hK.out _ _ ⟨(ae jc.out 0).trans rfl, (ae jc.out 1).trans rfl, (ae jc.out 2).trans rfl⟩ (fun cz => ?_); clear hK K; refine mZ ?_
       refine jS 10 47 (ba 12 2047) HT_.out ?_
       refine Ir 11 none (ba 12 4095) HT_.out (fun K hK => ?_); have hs26 : w24.cell? ⟨uz, 2, none⟩ = some (qy) := (ae jc.out 2).trans rfl; have hfs26 := aN jc.out 2; have hns26_0 := nC.out; have hms26_0 := yI.out; refine yn (w1 := ?_) (by rfl) rfl ?_ ?_; rotate_left
       ·go_simp; rfl
       refine hK.out _ _ ?_; clear hK K; refine I9 HT_.out ?_; go_wp2; go_roundg kj13; (case measure => have := HK1.out; have := HJ13.out; omega); case rel => exact ⟨(wrap64 ((wrap64 (wm + Hr)) + 1)), (wrap64 (CK - 1)), (X7), (WT), (QV), (.slice UU QV.length SV), (by rfl), (by rfl), H', ⟨by have := HK1.out; have := HJ13.out; omega⟩, ⟨by exact Kd.bY (Kd.kZ (p := ⟨uz, 2, none⟩) (Kd.dP V7.out jc.out (by decide)) (fun _ hk => hk.2) (.slice UU QV.length SV)) (fun _ hk => trivial)⟩, ⟨by refine bu ?_ nC.out _; exact kD.out⟩, ⟨by refine bP (cs := #[.int .i64 oD, .int .i64 (wrap64 (oD + xg)), qy]) ?_ 2 _ rfl; exact jc.out⟩, ⟨by repeat ((with_reducible first | exact HI0.out | refine aQ.far ?_ xq.out _))⟩, ⟨by repeat ((with_reducible first | exact HK.out | refine lV ?_ Vk.out _))⟩, ⟨by repeat ((with_reducible first | exact HB.out | refine bZ ?_ VV.out))⟩⟩
      ·rw [if_neg c20] at H; exact absurd H (by simp)
     ·replace c16 := Bool.eq_false_iff.mpr c16; subst c16; rw [if_neg (show ¬ (false = true) by decide)] at H; simp only [Option.some.injEq, Prod.mk.injEq] at H; obtain ⟨rfl, rfl, rfl, rfl, rfl⟩ := H; have ahy := yI.out; have ahi := nC.out; have agJ := xY.out; have ahJ := xq.out; obtain ⟨adb, adg, acC, ad5, acU, adc⟩ := cells3 jc.out; have ag6 := vT.out; have ahx := DR.out; obtain ⟨TU, Ti, QW, QP, UM, Ua⟩ := cells3 kD.out; obtain ⟨YF, aaG, agm⟩ := Kd.fq gJ.out; subst agm; go_wp2; refine bodyPost_ret (results_cell_row rfl _ _ uJ 66 #[.int .i64 oD, .int .i64 (wrap64 (oD + xg)), .slice YF kr.length aaG] (0, 0) _ rfl (by refine bP (cs := #[.int .i64 oD, .int .i64 (wrap64 (oD + xg)), .slice none 0 0]) ?_ 2 _ rfl; refine bP (cs := #[.int .i64 oD, .int .i64 0, .slice none 0 0]) ?_ 1 _ rfl; refine bP (cs := #[.int .i64 0, .int .i64 0, .slice none 0 0]) ?_ 0 _ rfl; exact kD.out) Try.underlying66 rfl (by kernel_rfl)) rfl ?_; exact ⟨_, by rfl, by exact Kd.bY (Kd.kZ (p := ⟨uJ, 2, none⟩) (Kd.kZ (p := ⟨uJ, 1, none⟩) (Kd.kZ (p := ⟨uJ, 0, none⟩) (Kd.dP gJ.out kD.out (by decide)) (fun _ hk => hk.2) (.int .i64 oD)) (fun _ hk => hk.2) (.int .i64 (wrap64 (oD + xg)))) (fun _ hk => hk.2) (.slice YF kr.length aaG)) (fun _ hk => trivial), by repeat ((with_reducible first | exact HI0.out | refine aQ.far ?_ DR.out _)), by repeat ((with_reducible first | exact HB.out | refine bZ ?_ aaX.out)), by repeat ((with_reducible first | exact HK.out | refine lV ?_ abG.out _))⟩
def dJ.f (s0_0 : Int) (s0_1 : Int) (l1 : List Int) : Option (Int × Int × Int) := if (l1.length : Int) = 0 then (some (0, s0_0, s0_1)) else ((aW.f s0_0 s0_1 (l1.length : Int)).bind fun ve => (if 0 ≤ ve.1 then (if ve.1 < (l1.length : Int) then (some (rd l1 ve.1, ve.2.1, ve.2.2)) else (none)) else (none)))
set_option maxHeartbeats 8000000 in
set_option maxRecDepth 100000 in
theorem dJ.calls (g : Nat) (s0_0 : Int) (s0_1 : Int) (A1 : Option Addr) (c1 : Nat) (l1 : List Int) (r1 : Int) (r2 : Int) (r3 : Int) (w0 w : World) (hI : aQ w0 w g s0_0 s0_1) (hB : Below w0.heap.size w0 w) (hr1 : Kd.C (Kd.int .i64) w A1 l1.length l1) (hc1 : l1.length ≤ c1) (hf1 : ∀ ad, A1 = some ad → 0 < l1.length → ad.block ≠ g) (h : dJ.f s0_0 s0_1 l1 = some (r1, r2, r3)) :
 Calls Try.prog 52 #[.pointer (some ⟨g, 0, none⟩), .slice A1 l1.length c1] w fun e w' => e = .returned (.int .i64 r1) ∧ aQ w0 w' g r2 r3 ∧ Below w0.heap.size w0 w' ∧ aj w w' g none := by
 have HR1 := aa.mk hr1; have HC1 := aa.mk hc1; clear hr1 hc1; have HI0 := aa.mk hI; have HK := aa.mk (aj.refl w g none); have HL := aa.mk hB.size; clear hI; have HW0 := aa.mk hB.size; have HB := aa.mk hB; clear hB; have H : (if (l1.length : Int) = 0 then (some (0, s0_0, s0_1)) else ((aW.f s0_0 s0_1 (l1.length : Int)).bind fun ve => (if 0 ≤ ve.1 then (if ve.1 < (l1.length : Int) then (some (rd l1 ve.1, ve.2.1, ve.2.2)) else (none)) else (none)))) = some (r1, r2, r3) := h; clear h; by_cases c3 : (l1.length : Int) = 0
 ·rw [if_pos c3] at H; have wu : ((l1.length : Int) == 0) = true := beq_iff_eq.mpr c3; have Hq : ((l1.length : Int) != 0) = false := bne_eq_false_iff_eq.mpr c3; clear c3; simp only [Option.some.injEq, Prod.mk.injEq] at H; obtain ⟨rfl, rfl, rfl⟩ := H; go_enter Try.func52, Try.ntmps52; go_wp2
  go_ret
  exact ⟨by rfl, by exact HI0.out, by exact HB.out, by exact HK.out⟩
 ·rw [if_neg c3] at H; have wu : ((l1.length : Int) == 0) = false := beq_eq_false_iff_ne.mpr c3; have Hq : ((l1.length : Int) != 0) = true := bne_iff_ne.mpr c3; (have ah5 : ¬ (l1 = []) := fun h_ => c3 (by rw [h_]; rfl)); replace H := Option.bind_eq_some_iff.mp H; obtain ⟨⟨Gq, aeF, afQ⟩, A40, H⟩ := H; dsimp only at H; have A4 := aa.mk A40; clear A40; by_cases c5 : 0 ≤ Gq
  ·rw [if_pos c5] at H; have EK : decide (0 ≤ Gq) = true := decide_eq_true c5; clear c5; by_cases c6 : Gq < (l1.length : Int)
   ·rw [if_pos c6] at H; have af4 : decide (Gq < (l1.length : Int)) = true := decide_eq_true c6; clear c6; simp only [Option.some.injEq, Prod.mk.injEq] at H; obtain ⟨rfl, rfl, rfl⟩ := H; go_enter Try.func52, Try.ntmps52; go_wp2_with (((with_reducible refine bM (f := 33) rfl ?_); refine eU (some 12) rfl rfl Try.func33 (by kernel_rfl) rfl #[.pointer (some ⟨g, 0, none⟩), .int .i64 (l1.length : Int)] rfl (by (simp only [List.map_toArray, List.map_cons, List.map_nil]); rfl) ?_; (with_reducible refine (aW.calls g s0_0 s0_1 (l1.length : Int) Gq aeF afQ w0 _ ?side1 ?side2 A4.out).mono ?_); (case side1 => exact HI0.out); (case side2 => exact HB.out); rintro e w7 ⟨rfl, hi, hb, hk⟩; refine ⟨_, rfl, ?_⟩; replace HK := aa.mk (aj.trans (by exact HK.out) hk (.inl rfl)); replace HB := aa.mk (hb); replace HI0 := aa.mk (hi); clear hb; clear hk; clear hi; have X5 : 0 ≤ (Gq : Int) := of_decide_eq_true (by with_reducible assumption); have XC : Gq < (l1.length : Int) := of_decide_eq_true (by with_reducible assumption); obtain ⟨ahN, e377, KN⟩ := Kd.BS HR1.out Gq X5 XC; cases e377; replace KN := Me HK.out KN (by (rw [add_block]; exact hf1 _ rfl (by omega))); replace X5 := eq_true X5; replace XC := eq_true XC))
    go_ret
    exact ⟨by rfl, by exact HI0.out, by exact HB.out, by exact HK.out⟩
   ·rw [if_neg c6] at H; exact absurd H (by simp)
  ·rw [if_neg c5] at H; exact absurd H (by simp)
mutual
def ag.l0 : Nat → Int → Int → Int → Int → Int → List (S66) → Int → Int → Int → Option ((List (S66)) × Int × Int × Int × (List (List (S27))) × Int × ByteArray × List Int × Int × Int)
 | 0, _, _, _, _, _, _, _, _, _ => none
 | k + 1, x2, x3, x11, lu, ll, gH, iG, iq, ja => if x11 > 0 then ((aJ.f k lu ll x2).bind fun Gb => ((some (([(⟨(⟨Gb.1, Gb.2.1⟩ : S63), Gb.2.2.1⟩ : S66)] : List (S66)) : List (S66))).bind fun Aw => (if gH.length + Aw.length < 3518437208883 then (ag.l0 k x2 x3 (wrap64 (x11 - 1)) Gb.2.2.2.1 Gb.2.2.2.2 (gH ++ Aw) iG iq ja) else (none)))) else ((aW.f lu ll (gH.length : Int)).bind fun DF => (if 0 ≤ DF.1 then (if DF.1 < (gH.length : Int) then ((bW.f DF.2.1 DF.2.2 1 x3).bind fun Bu => (ag.l1 k ((ah gH DF.1).f1) 0 Bu.1 Bu.2.1 Bu.2.2 gH iG iq ja ([] : List (List (S27))) DF.1 (⟨#[]⟩ : ByteArray) ([] : List Int))) else (none)) else (none)))
def ag.l1 : Nat → List (S86) → Int → Int → Int → Int → List (S66) → Int → Int → Int → List (List (S27)) → Int → ByteArray → List Int → Option ((List (S66)) × Int × Int × Int × (List (List (S27))) × Int × ByteArray × List Int × Int × Int)
 | 0, _, _, _, _, _, _, _, _, _, _, _, _, _ => none
 | k + 1, x13, x14, x15, lu, ll, gH, iG, iq, ja, jr, jH, jw, jl => if x15 > 0 then ((aW.f lu ll (x13.length : Int)).bind fun Av => (if 0 ≤ Av.1 then (if Av.1 < (x13.length : Int) then ((aW.f Av.2.1 Av.2.2 (wrap64 (iG + 1))).bind fun AA => ((aW.f AA.2.1 AA.2.2 (wrap64 (iq + 1))).bind fun uK => (ag.l2 k x13 x14 x15 ((ai x13 Av.1).f1) AA.1 uK.1 0 uK.2.1 uK.2.2 gH iG iq ja jr jH jw jl ((ai x13 Av.1).f0) ((ai x13 Av.1).f1)))) else (none)) else (none))) else ((dJ.f lu ll (([0, 0, 1, 2] : List Int))).bind fun A9 => (some (gH, iG, iq, mn 40 (wrap64 (x14 + A9.1)), jr, jH, jw, jl, A9.2.1, A9.2.2)))
def ag.l2 : Nat → List (S86) → Int → Int → Int → Int → Int → Int → Int → Int → List (S66) → Int → Int → Int → List (List (S27)) → Int → ByteArray → List Int → Int → Int → Option ((List (S66)) × Int × Int × Int × (List (List (S27))) × Int × ByteArray × List Int × Int × Int)
 | 0, _, _, _, _, _, _, _, _, _, _, _, _, _, _, _, _, _, _, _ => none
 | k + 1, x13, x14, x15, x17, x18, x19, x20, lu, ll, gH, iG, iq, ja, jr, jH, jw, jl, kF, jD => if x20 < 5 then (if 0 ≤ x20 then (if (Go.bits .and .i64 (shr .i64 jD x20) 1) = 1 then (if x18 > 0 then ((dw.f lu ll 1 3).bind fun BO => (ag.j3 k x13 x14 x15 x17 x18 x19 x20 ((Go.bits .and .i64 (shr .i64 jD x20) 1) == 1) BO.1 BO.2.1 BO.2.2 gH iG iq ja jr jH jw jl kF jD)) else (ag.j3 k x13 x14 x15 x17 x18 x19 x20 ((Go.bits .and .i64 (shr .i64 jD x20) 1) == 1) false lu ll gH iG iq ja jr jH jw jl kF jD)) else (ag.j3 k x13 x14 x15 x17 x18 x19 x20 ((Go.bits .and .i64 (shr .i64 jD x20) 1) == 1) false lu ll gH iG iq ja jr jH jw jl kF jD)) else (none)) else ((dJ.f lu ll (([0, 1, 1, 2, 3] : List Int))).bind fun Bt => (ag.l3 k x13 x14 x15 x17 ([] : List (S27)) Bt.1 Bt.2.1 Bt.2.2 gH iG iq ja jr jH jw jl kF jD))
def ag.j3 : Nat → List (S86) → Int → Int → Int → Int → Int → Int → Bool → Bool → Int → Int → List (S66) → Int → Int → Int → List (List (S27)) → Int → ByteArray → List Int → Int → Int → Option ((List (S66)) × Int × Int × Int × (List (List (S27))) × Int × ByteArray × List Int × Int × Int)
 | 0, _, _, _, _, _, _, _, _, _, _, _, _, _, _, _, _, _, _, _, _, _ => none
 | k + 1, x13, x14, x15, x17, x18, x19, x20, x21, afO, lu, ll, gH, iG, iq, ja, jr, jH, jw, jl, kF, jD => if afO = true then (if 0 ≤ x20 then (if x21 = true then (ag.l2 k x13 (wrap64 (x14 + 1)) x15 (wrap64 (x17 - (shl .i64 1 x20))) (wrap64 (x18 - 1)) x19 (wrap64 (x20 + 1)) lu ll gH iG iq ja jr jH jw jl kF jD) else (if x19 > 0 then ((dw.f lu ll 1 3).bind fun qc => (if qc.1 = true then (ag.l2 k x13 (wrap64 ((wrap64 (x14 + 1)) + 1)) x15 (wrap64 ((wrap64 (x17 - (shl .i64 1 x20))) + (shl .i64 1 x20))) (wrap64 (x18 - 1)) (wrap64 (x19 - 1)) (wrap64 (x20 + 1)) qc.2.1 qc.2.2 gH iG iq ja jr jH jw jl kF jD) else (ag.l2 k x13 (wrap64 (x14 + 1)) x15 (wrap64 (x17 - (shl .i64 1 x20))) (wrap64 (x18 - 1)) x19 (wrap64 (x20 + 1)) qc.2.1 qc.2.2 gH iG iq ja jr jH jw jl kF jD))) else (ag.l2 k x13 (wrap64 (x14 + 1)) x15 (wrap64 (x17 - (shl .i64 1 x20))) (wrap64 (x18 - 1)) x19 (wrap64 (x20 + 1)) lu ll gH iG iq ja jr jH jw jl kF jD))) else (none)) else (if x21 = true then (ag.l2 k x13 x14 x15 x17 x18 x19 (wrap64 (x20 + 1)) lu ll gH iG iq ja jr jH jw jl kF jD) else (if x19 > 0 then ((dw.f lu ll 1 3).bind fun uL => (if uL.1 = true then (if 0 ≤ x20 then (ag.l2 k x13 (wrap64 (x14 + 1)) x15 (wrap64 (x17 + (shl .i64 1 x20))) x18 (wrap64 (x19 - 1)) (wrap64 (x20 + 1)) uL.2.1 uL.2.2 gH iG iq ja jr jH jw jl kF jD) else (none)) else (ag.l2 k x13 x14 x15 x17 x18 x19 (wrap64 (x20 + 1)) uL.2.1 uL.2.2 gH iG iq ja jr jH jw jl kF jD))) else (ag.l2 k x13 x14 x15 x17 x18 x19 (wrap64 (x20 + 1)) lu ll gH iG iq ja jr jH jw jl kF jD)))
def ag.l3 : Nat → List (S86) → Int → Int → Int → List (S27) → Int → Int → Int → List (S66) → Int → Int → Int → List (List (S27)) → Int → ByteArray → List Int → Int → Int → Option ((List (S66)) × Int × Int × Int × (List (List (S27))) × Int × ByteArray × List Int × Int × Int)
 | 0, _, _, _, _, _, _, _, _, _, _, _, _, _, _, _, _, _, _ => none
 | k + 1, x13, x14, x15, x17, x22, x23, lu, ll, gH, iG, iq, ja, jr, jH, jw, jl, kF, jD => if x23 > 0 then ((aW.f lu ll 32).bind fun QB => ((dJ.f QB.2.1 QB.2.2 (([31, 15, QB.1] : List Int))).bind fun rT => ((some (([(⟨rT.1, Go.bits .and .i64 x17 rT.1⟩ : S27)] : List (S27)) : List (S27))).bind fun sw => (if x22.length + sw.length < 8796093022208 then (ag.l3 k x13 x14 x15 x17 (x22 ++ sw) (wrap64 (x23 - 1)) rT.2.1 rT.2.2 gH iG iq ja jr jH jw jl kF jD) else (none))))) else ((some (([kF] : List Int) : List Int)).bind fun iX => (if jw.size + (strOfNums iX).size ≤ 9223372036854775807 then ((some (([x17] : List Int) : List Int)).bind fun mf => (if jl.length + mf.length < 17592186044416 then ((some (([x22] : List (List (S27))) : List (List (S27)))).bind fun si => (if jr.length + si.length < 5864062014805 then (ag.l1 k x13 x14 (wrap64 (x15 - 1)) lu ll gH iG iq ja (jr ++ si) jH (jw ++ (strOfNums iX)) (jl ++ mf)) else (none))) else (none))) else (none)))
end
def ag.f (k : Nat) (s0_0 : Int) (s0_1 : Int) (a1 : Int) (a2 : Int) (a3 : Int) : Option ((List (S66)) × Int × Int × Int × (List (List (S27))) × Int × ByteArray × List Int × Int × Int) := (aW.f s0_0 s0_1 3).bind fun AB => ((aW.f AB.2.1 AB.2.2 3).bind fun vC => ((bW.f vC.2.1 vC.2.2 1 a1).bind fun qY => (ag.l0 k a2 a3 qY.1 qY.2.1 qY.2.2 ([] : List (S66)) AB.1 vC.1 0)))
theorem ag.gM : ∀ k, (∀ y0 y1 y2 y3 y4 y5 y6 y7 y8, LeO (ag.l0 k y0 y1 y2 y3 y4 y5 y6 y7 y8) (ag.l0 (k + 1) y0 y1 y2 y3 y4 y5 y6 y7 y8)) ∧ (∀ y0 y1 y2 y3 y4 y5 y6 y7 y8 y9 y10 y11 y12, LeO (ag.l1 k y0 y1 y2 y3 y4 y5 y6 y7 y8 y9 y10 y11 y12) (ag.l1 (k + 1) y0 y1 y2 y3 y4 y5 y6 y7 y8 y9 y10 y11 y12)) ∧ (∀ y0 y1 y2 y3 y4 y5 y6 y7 y8 y9 y10 y11 y12 y13 y14 y15 y16 y17 y18, LeO (ag.l2 k y0 y1 y2 y3 y4 y5 y6 y7 y8 y9 y10 y11 y12 y13 y14 y15 y16 y17 y18) (ag.l2 (k + 1) y0 y1 y2 y3 y4 y5 y6 y7 y8 y9 y10 y11 y12 y13 y14 y15 y16 y17 y18)) ∧ (∀ y0 y1 y2 y3 y4 y5 y6 y7 y8 y9 y10 y11 y12 y13 y14 y15 y16 y17 y18 y19 y20, LeO (ag.j3 k y0 y1 y2 y3 y4 y5 y6 y7 y8 y9 y10 y11 y12 y13 y14 y15 y16 y17 y18 y19 y20) (ag.j3 (k + 1) y0 y1 y2 y3 y4 y5 y6 y7 y8 y9 y10 y11 y12 y13 y14 y15 y16 y17 y18 y19 y20)) ∧ (∀ y0 y1 y2 y3 y4 y5 y6 y7 y8 y9 y10 y11 y12 y13 y14 y15 y16 y17, LeO (ag.l3 k y0 y1 y2 y3 y4 y5 y6 y7 y8 y9 y10 y11 y12 y13 y14 y15 y16 y17) (ag.l3 (k + 1) y0 y1 y2 y3 y4 y5 y6 y7 y8 y9 y10 y11 y12 y13 y14 y15 y16 y17))
 | 0 => ⟨fun _ _ _ _ _ _ _ _ _ r h => by simp [ag.l0] at h, fun _ _ _ _ _ _ _ _ _ _ _ _ _ r h => by simp [ag.l1] at h, fun _ _ _ _ _ _ _ _ _ _ _ _ _ _ _ _ _ _ _ r h => by simp [ag.l2] at h, fun _ _ _ _ _ _ _ _ _ _ _ _ _ _ _ _ _ _ _ _ _ r h => by simp [ag.j3] at h, fun _ _ _ _ _ _ _ _ _ _ _ _ _ _ _ _ _ _ r h => by simp [ag.l3] at h⟩
 | k + 1 => by
  obtain ⟨ih0, ih1, ih2, ih3, ih4⟩ := ag.gM k; refine ⟨?_, ?_, ?_, ?_, ?_⟩; all_goals intros; (first | unfold ag.l0 | unfold ag.l1 | unfold ag.l2 | unfold ag.j3 | unfold ag.l3); repeat' first | (with_reducible exact ih0 _ _ _ _ _ _ _ _ _) | (with_reducible exact ih1 _ _ _ _ _ _ _ _ _ _ _ _ _) | (with_reducible exact ih2 _ _ _ _ _ _ _ _ _ _ _ _ _ _ _ _ _ _ _) | (with_reducible exact ih3 _ _ _ _ _ _ _ _ _ _ _ _ _ _ _ _ _ _ _ _ _) | (with_reducible exact ih4 _ _ _ _ _ _ _ _ _ _ _ _ _ _ _ _ _ _) | (with_reducible exact aJ.mono _ _ _ _) | (with_reducible exact LeO.refl _) | (with_reducible exact LeO.none _) | (with_reducible refine LeO.ite ?_ ?_) | (with_reducible refine LeO.bind ?_ (fun _ => ?_)) | exact ih0 _ _ _ _ _ _ _ _ _ | exact ih1 _ _ _ _ _ _ _ _ _ _ _ _ _ | exact ih2 _ _ _ _ _ _ _ _ _ _ _ _ _ _ _ _ _ _ _ | exact ih3 _ _ _ _ _ _ _ _ _ _ _ _ _ _ _ _ _ _ _ _ _ | exact ih4 _ _ _ _ _ _ _ _ _ _ _ _ _ _ _ _ _ _ | exact aJ.mono _ _ _ _ | exact LeO.none _ | refine LeO.ite ?_ ?_ | refine LeO.bind ?_ (fun _ => ?_)
theorem ag.mono : ∀ a0 a1 a2 a3 a4 k, LeO (ag.f k a0 a1 a2 a3 a4) (ag.f (k + 1) a0 a1 a2 a3 a4) := by
 intro a0 a1 a2 a3 a4 k; obtain ⟨ih0, ih1, ih2, ih3, ih4⟩ := ag.gM k; unfold ag.f
 repeat' first
  | (with_reducible exact ih0 _ _ _ _ _ _ _ _ _)
  | (with_reducible exact ih1 _ _ _ _ _ _ _ _ _ _ _ _ _)
  | (with_reducible exact ih2 _ _ _ _ _ _ _ _ _ _ _ _ _ _ _ _ _ _ _)
  | (with_reducible exact ih3 _ _ _ _ _ _ _ _ _ _ _ _ _ _ _ _ _ _ _ _ _)
  | (with_reducible exact ih4 _ _ _ _ _ _ _ _ _ _ _ _ _ _ _ _ _ _)
  | (with_reducible exact aJ.mono _ _ _ _)
  | (with_reducible exact LeO.refl _)
  | (with_reducible exact LeO.none _)
  | (with_reducible refine LeO.ite ?_ ?_)
  | (with_reducible refine LeO.bind ?_ (fun _ => ?_))
  | exact ih0 _ _ _ _ _ _ _ _ _
  | exact ih1 _ _ _ _ _ _ _ _ _ _ _ _ _
  | exact ih2 _ _ _ _ _ _ _ _ _ _ _ _ _ _ _ _ _ _ _
  | exact ih3 _ _ _ _ _ _ _ _ _ _ _ _ _ _ _ _ _ _ _ _ _
  | exact ih4 _ _ _ _ _ _ _ _ _ _ _ _ _ _ _ _ _ _
  | exact aJ.mono _ _ _ _
  | exact LeO.none _
  | refine LeO.ite ?_ ?_
  | refine LeO.bind ?_ (fun _ => ?_)
def dX.f (a0 : Int) (a1 : Int) (a2 : Int) : Option (Bool) := if a1 ≤ a0 then (some (decide (a0 ≤ a2))) else (some false)
set_option maxHeartbeats 8000000 in
set_option maxRecDepth 100000 in
theorem dX.calls (a0 : Int) (a1 : Int) (a2 : Int) (r : Bool) (w : World) (h : dX.f a0 a1 a2 = some r) :
 Calls Try.prog 64 #[.int .i64 a0, .int .i64 a1, .int .i64 a2] w fun e w' => e = .returned (.bool r) ∧ dO w w' := by
 have H : (if a1 ≤ a0 then (some (decide (a0 ≤ a2))) else (some false)) = some r := h; clear h; by_cases c4 : a1 ≤ a0
 ·rw [if_pos c4] at H; have CG : decide (a1 ≤ a0) = true := decide_eq_true c4; clear c4; obtain rfl := Option.some.inj H; go_enter Try.func64, Try.ntmps64; go_wp2
  go_ret
  exact ⟨by rfl, by exact dO.refl _⟩
 ·rw [if_neg c4] at H; have CG : decide (a1 ≤ a0) = false := decide_eq_false c4; clear c4; obtain rfl := Option.some.inj H; go_enter Try.func64, Try.ntmps64; go_wp2
  go_ret
  exact ⟨by rfl, by exact dO.refl _⟩
mutual
def aA.j0 : Nat → Bool → Int → Int → List (S86) → Option (Int)
 | 0, _, _, _, _ => none
 | k + 1, x5, rM, rZ, mK => if x5 = true then (some 1) else (if rM > rZ then (some 5) else (if (mK.length : Int) = 0 then (some 7) else (if (mK.length : Int) > 8 then (some 6) else (aA.l0 k mK (mK.length : Int) 0 rM rZ mK))))
def aA.l0 : Nat → List (S86) → Int → Int → Int → Int → List (S86) → Option (Int)
 | 0, _, _, _, _, _, _ => none
 | k + 1, x35, x36, x37, rM, rZ, mK => if x37 < x36 then (if 0 ≤ x37 then (if x37 < (x35.length : Int) then (if ((ai x35 x37).f0) < 65 then (aA.j2 k x37 x35 x36 x37 (decide (((ai x35 x37).f0) < 65)) rM rZ mK ((ai x35 x37).f0) ((ai x35 x37).f1)) else (aA.j2 k x37 x35 x36 x37 (decide (((ai x35 x37).f0) > 90)) rM rZ mK ((ai x35 x37).f0) ((ai x35 x37).f1))) else (none)) else (none)) else (some 0)
def aA.j2 : Nat → Int → List (S86) → Int → Int → Bool → Int → Int → List (S86) → Int → Int → Option (Int)
 | 0, _, _, _, _, _, _, _, _, _, _ => none
 | k + 1, x3, x35, x36, x37, x42, rM, rZ, mK, Sa, TG => if x42 = true then (some 8) else ((dX.f TG 1 1023).bind fun Yc => (if Yc = true then (if x3 > 0 then (if 0 ≤ (wrap64 (x3 - 1)) then (if (wrap64 (x3 - 1)) < (mK.length : Int) then (if Sa ≤ ((ai mK (wrap64 (x3 - 1))).f0) then (some 5) else (aA.l0 k x35 x36 (wrap64 (x37 + 1)) rM rZ mK)) else (none)) else (none)) else (aA.l0 k x35 x36 (wrap64 (x37 + 1)) rM rZ mK)) else (some 1)))
end
def aA.f (k : Nat) (fO : Int) (bv : Int) (fC : List (S86)) : Option (Int) := (dX.f fO (-3000) 3000).bind fun GQ => (if GQ = true then ((dX.f bv (-3000) 3000).bind fun LP => (aA.j0 k (!LP) fO bv fC)) else (aA.j0 k (!GQ) fO bv fC))
theorem aA.gM : ∀ k, (∀ y0 y1 y2 y3, LeO (aA.j0 k y0 y1 y2 y3) (aA.j0 (k + 1) y0 y1 y2 y3)) ∧ (∀ y0 y1 y2 y3 y4 y5, LeO (aA.l0 k y0 y1 y2 y3 y4 y5) (aA.l0 (k + 1) y0 y1 y2 y3 y4 y5)) ∧ (∀ y0 y1 y2 y3 y4 y5 y6 y7 y8 y9, LeO (aA.j2 k y0 y1 y2 y3 y4 y5 y6 y7 y8 y9) (aA.j2 (k + 1) y0 y1 y2 y3 y4 y5 y6 y7 y8 y9))
 | 0 => ⟨fun _ _ _ _ r h => by simp [aA.j0] at h, fun _ _ _ _ _ _ r h => by simp [aA.l0] at h, fun _ _ _ _ _ _ _ _ _ _ r h => by simp [aA.j2] at h⟩
 | k + 1 => by
  obtain ⟨ih0, ih1, ih2⟩ := aA.gM k; refine ⟨?_, ?_, ?_⟩
  ·intro y0 y1 y2 y3; unfold aA.j0
   repeat' first | (with_reducible exact ih1 _ _ _ _ _ _) | (with_reducible exact LeO.refl _) | (with_reducible refine LeO.ite ?_ ?_)
  ·intro y0 y1 y2 y3 y4 y5; unfold aA.l0
   repeat' first | (with_reducible exact ih2 _ _ _ _ _ _ _ _ _ _) | (with_reducible exact LeO.refl _) | (with_reducible refine LeO.ite ?_ ?_)
  ·intro y0 y1 y2 y3 y4 y5 y6 y7 y8 y9; unfold aA.j2
   repeat' first | (with_reducible exact ih1 _ _ _ _ _ _) | (with_reducible exact LeO.refl _) | (with_reducible refine LeO.ite ?_ ?_) | (with_reducible refine LeO.bind ?_ (fun _ => ?_))
theorem aA.mono : ∀ a0 a1 a2 k, LeO (aA.f k a0 a1 a2) (aA.f (k + 1) a0 a1 a2) := by
 intro a0 a1 a2 k; obtain ⟨ih0, ih1, ih2⟩ := aA.gM k; unfold aA.f
 repeat' first | (with_reducible exact ih0 _ _ _ _) | (with_reducible exact LeO.refl _) | (with_reducible refine LeO.ite ?_ ?_) | (with_reducible refine LeO.bind ?_ (fun _ => ?_))
set_option maxHeartbeats 8000000 in
set_option maxRecDepth 100000 in
theorem aA.calls (k : Nat) (fO : Int) (bv : Int) (NG : Option Addr) (Gp : Nat) (fC : List (S86)) (r : Int) (w : World) (Vz : Kd.C k86 w NG fC.length fC) (V6 : fC.length ≤ Gp) (h : aA.f k fO bv fC = some r) :
 Calls Try.prog 63 #[.agg #[.int .i64 fO, .int .i64 bv, .slice NG fC.length Gp]] w fun e w' => e = .returned (.int .i64 r) ∧ Below w.heap.size w w' := by
 have hu66 := Try.underlying66; have hu86 := Try.underlying86; have AP := aa.mk Vz; have ahz := aa.mk V6; clear Vz V6; have HB := aa.mk (Below.refl w.heap.size w); have H : ((dX.f fO (-3000) 3000).bind fun GQ => (if GQ = true then ((dX.f bv (-3000) 3000).bind fun LP => (aA.j0 k (!LP) fO bv fC)) else (aA.j0 k (!GQ) fO bv fC))) = some r := h; clear h; replace H := Option.bind_eq_some_iff.mp H; obtain ⟨GQ, A20, H⟩ := H; have A2 := aa.mk A20; clear A20; have HC3 := aa.mk H; clear H; go_enter Try.func63, Try.ntmps63; (go_upto_if 5 with (first | ((with_reducible refine dm (N := 1) rfl ?_); refine dE ?hg (N := 1) ?hd (cs := #[.int .i64 fO, .int .i64 bv, .slice NG fC.length Gp]) (t := 66) ?hr ?_; (case hd => rfl); (case hg => rfl); (case hr => (go_simp; done)); intro xU hg w4 hbox hb; have lg := aa.mk (hbox); have agA := aa.mk ((by rw [hg]; exact (aH (by exact HB.out)) : w.heap.size ≤ xU)); have ag1 := aa.mk ((by rw [hg]; exact (aH (by exact HB.out)) : w.heap.size ≤ xU)); replace HB := aa.mk (aC (by exact HB.out) hb); clear hb hbox hg; obtain ⟨Ii, I7, IK, IR, Jd, Iw⟩ := cells3 lg.out) | (go_at_call 64; (with_reducible refine (dX.calls fO (-3000) 3000 GQ _ A2.out).mono ?_); rintro e w' ⟨rfl, ⟨nd, rfl⟩⟩))); (skip); go_cut [5] (fun v5 wc => ∃ (kq : Nat) (Ue : Bool), v5 = .bool Ue ∧ aa (aA.j0 kq Ue fO bv fC = some r) ∧ aa (kq ≤ k) ∧ aa (wc.heap[xU]? = some (.cells #[.int .i64 fO, .int .i64 bv, (.slice NG fC.length Gp)] 66 (0, 0))) ∧ aa (Below w.heap.size w wc))
 case first =>
  have H := HC3.out; clear HC3; by_cases c6 : GQ = true
  ·subst c6; rw [if_pos rfl] at H; replace H := Option.bind_eq_some_iff.mp H; obtain ⟨LP, A70, H⟩ := H; have A7 := aa.mk A70; clear A70; have H' := aa.mk H; clear H; obtain ⟨Jt, Hg, PT, Jj, Hf, Nn⟩ := cells3 lg.out; (go_wp2_with ((go_at_call 64; (with_reducible refine (dX.calls bv (-3000) 3000 LP _ A7.out).mono ?_); rintro e w' ⟨rfl, ⟨nd, rfl⟩⟩))); go_meet; case rel => exact ⟨_, (!LP), (by rfl), H', ⟨by omega⟩, ⟨by (with_reducible repeat (refine eX ?_ _)); exact lg.out⟩, ⟨by exact lU HB.out⟩⟩
  ·replace c6 := Bool.eq_false_iff.mpr c6; subst c6; rw [if_neg (show ¬ (false = true) by decide)] at H; have H' := aa.mk H; clear H; go_wp2; go_meet; case rel => exact ⟨_, (!false), (by rfl), H', ⟨by omega⟩, ⟨by (with_reducible repeat (refine eX ?_ _)); exact lg.out⟩, ⟨by exact lU HB.out⟩⟩
 case rest =>
  clear HC3 Ii I7 IK IR Jd Iw; obtain ⟨kq, Ue, rfl, HA, HJ2, lg, HB⟩ := hcut
  cases kq with
  | zero => exact absurd HA.out (by simp [aA.j0])
  | succ kj2 =>
   have H := HA.out; clear HA; simp only [aA.j0] at H; by_cases c9 : Ue = true
   ·subst c9; rw [if_pos rfl] at H; obtain rfl := Option.some.inj H; go_wp2
    go_ret
    exact ⟨by rfl, by exact HB.out⟩
   ·replace c9 := Bool.eq_false_iff.mpr c9; subst c9; rw [if_neg (show ¬ (false = true) by decide)] at H; by_cases c10 : fO > bv
    ·rw [if_pos c10] at H; have zt : decide (bv < fO) = true := decide_eq_true c10; clear c10; obtain rfl := Option.some.inj H; obtain ⟨ac1, abZ, aep, abY, ab5, acA⟩ := cells3 lg.out; go_wp2
     go_ret
     exact ⟨by rfl, by exact HB.out⟩
    ·rw [if_neg c10] at H; have zt : decide (bv < fO) = false := decide_eq_false c10; clear c10; by_cases c12 : (fC.length : Int) = 0
     ·rw [if_pos c12] at H; have zI : ((fC.length : Int) == 0) = true := beq_iff_eq.mpr c12; have J4 : ((fC.length : Int) != 0) = false := bne_eq_false_iff_eq.mpr c12; clear c12; obtain rfl := Option.some.inj H; obtain ⟨UI, Td, adj, Un, Ry, adV⟩ := cells3 lg.out; go_wp2
      go_ret
      exact ⟨by rfl, by exact HB.out⟩
     ·rw [if_neg c12] at H; have zI : ((fC.length : Int) == 0) = false := beq_eq_false_iff_ne.mpr c12; have J4 : ((fC.length : Int) != 0) = true := bne_iff_ne.mpr c12; (have abC : ¬ (fC = []) := fun h_ => c12 (by rw [h_]; rfl)); by_cases c14 : (fC.length : Int) > 8
      ·rw [if_pos c14] at H; have Fu : decide (8 < (fC.length : Int)) = true := decide_eq_true c14; have Fs : decide (8 < fC.length) = true := decide_eq_true (by omega); clear c14; obtain rfl := Option.some.inj H; obtain ⟨RJ, Rs, Rh, Ub, RI, UB⟩ := cells3 lg.out; go_wp2
       go_ret
       exact ⟨by rfl, by exact HB.out⟩
      ·rw [if_neg c14] at H; have Fu : decide (8 < (fC.length : Int)) = false := decide_eq_false c14; have Fs : decide (8 < fC.length) = false := decide_eq_false (by omega); clear c14; have H' := aa.mk H; clear H; obtain ⟨EC, DK, EO, En, Ea, EI⟩ := cells3 lg.out; go_wp2; (go_loopg [37] kj2 (fun kq v37 w' => ∃ (gm : Int), v37 = .int .i64 gm ∧ aa (aA.l0 kq fC (fC.length : Int) gm fO bv fC = some r) ∧ aa (kq ≤ kj2) ∧ aa (w'.heap[xU]? = some (.cells #[.int .i64 fO, .int .i64 bv, (.slice NG fC.length Gp)] 66 (0, 0))) ∧ aa (Below w.heap.size w w'))); case atStart => exact ⟨(0), (by rfl), H', ⟨Nat.le_refl _⟩, ⟨by (with_reducible skip); exact lg.out⟩, ⟨by exact HB.out⟩⟩
       case round =>
        clear H' zt c12 zI J4 abC Fu Fs EC DK EO En Ea EI; obtain ⟨gm, rfl, HA, HK2, lg, HB⟩ := hrel
        cases gk with
        | zero => exact absurd HA.out (by simp [aA.l0])
        | succ k2 =>
         have H := HA.out; clear HA; simp only [aA.l0] at H; by_cases c17 : gm < (fC.length : Int)
         ·rw [if_pos c17] at H; have KI : decide (gm < (fC.length : Int)) = true := decide_eq_true c17; clear c17; by_cases c18 : 0 ≤ gm
          ·rw [if_pos c18] at H; have Gj : decide (0 ≤ gm) = true := decide_eq_true c18; clear c18; by_cases c19 : gm < (fC.length : Int)
           ·rw [if_pos c19] at H; have U9 : decide (gm < (fC.length : Int)) = true := decide_eq_true c19; clear c19; have Ms := aa.mk H; clear H; have TR : 0 ≤ (gm : Int) := of_decide_eq_true (by with_reducible assumption); have Tu : gm < (fC.length : Int) := of_decide_eq_true (by with_reducible assumption); obtain ⟨yh, e107, zU, Ac⟩ := mF AP.out gm TR Tu; cases e107; replace zU := (HB.out.cell (World.block_lt_of_cell? w _ zU)).trans zU; replace Ac := (HB.out.cell (World.block_lt_of_cell? w _ Ac)).trans Ac; replace TR := eq_true TR; replace Tu := eq_true Tu; (go_upto_if 42 with (((with_reducible refine dm (N := 4) rfl ?_); refine dE ?hg (N := 4) ?hd (cs := #[.int .u8 0, .int .i64 0]) (t := 86) ?hr ?_; (case hd => rfl); (case hg => rfl); (case hr => (go_simp; done)); intro GG hg w21 hbox hb; have xI := aa.mk (hbox); have agV := aa.mk ((by rw [hg]; exact (aH (by exact HB.out)) : w.heap.size ≤ GG)); have Vi := aa.mk ((by rw [hg]; exact (aH (by exact HB.out)) : w.heap.size ≤ GG)); replace HB := aa.mk (aC (by exact HB.out) hb); have lY := aa.mk ((by rw [hg]; exact Nat.ne_of_lt (bQ (g := xU) (o := .cells #[.int .i64 fO, .int .i64 bv, .slice (some yh) fC.length Gp] 66 (0, 0)) (bU lg.out)) : xU ≠ GG)); have qD := aa.mk ((by rw [hg]; exact Nat.ne_of_gt (bQ (g := xU) (o := .cells #[.int .i64 fO, .int .i64 bv, .slice (some yh) fC.length Gp] 66 (0, 0)) (bU lg.out)) : GG ≠ xU)); replace lg := aa.mk (au (bU lg.out) hb); clear hb hbox hg; have aap := qD.out; have aaV := lY.out; obtain ⟨JO, JH, Jw, J6⟩ := lZ xI.out))); (skip); go_cut [42] (fun v42 wc => ∃ (kq : Nat) (ET : Bool), v42 = .bool ET ∧ aa (aA.j2 kq gm fC (fC.length : Int) gm ET fO bv fC ((ai fC gm).f0) ((ai fC gm).f1) = some r) ∧ aa (kq ≤ k2) ∧ aa (wc.heap[xU]? = some (.cells #[.int .i64 fO, .int .i64 bv, (.slice (some yh) fC.length Gp)] 66 (0, 0))) ∧ aa (wc.heap[GG]? = some (.cells #[.int .u8 ((ai fC gm).f0), .int .i64 ((ai fC gm).f1)] 86 (0, 0))) ∧ aa (Below w.heap.size w wc))
            case first =>
             have H := Ms.out; clear Ms; by_cases c24 : ((ai fC gm).f0) < 65
             ·rw [if_pos c24] at H; have M6 : decide (((ai fC gm).f0) < 65) = true := decide_eq_true c24; clear c24; (rw [M6]); have H' := aa.mk H; clear H; go_wp2; go_meet; case rel => exact ⟨_, (decide (((ai fC gm).f0) < 65)), (by simp [*]; done), H', ⟨by have := HJ2.out; have := HK2.out; omega⟩, ⟨by (with_reducible skip); refine bu ?_ lY.out _; (with_reducible skip); refine bu ?_ lY.out _; (with_reducible skip); exact lg.out⟩, ⟨by (with_reducible skip); refine bP (cs := #[.int .u8 ((ai fC gm).f0), .int .i64 0]) ?_ 1 _ rfl; (with_reducible skip); refine bP (cs := #[.int .u8 0, .int .i64 0]) ?_ 0 _ rfl; (with_reducible skip); exact xI.out⟩, ⟨by repeat ((with_reducible first | exact HB.out | refine bZ ?_ Vi.out))⟩⟩
             ·rw [if_neg c24] at H; have M6 : decide (((ai fC gm).f0) < 65) = false := decide_eq_false c24; clear c24; (rw [M6]); have H' := aa.mk H; clear H; have agI := qD.out; have ahC := lY.out; obtain ⟨ac3, adq, ade, acg⟩ := lZ xI.out; go_wp2; go_meet; case rel => exact ⟨_, (decide (((ai fC gm).f0) > 90)), (by rfl), H', ⟨by have := HJ2.out; have := HK2.out; omega⟩, ⟨by (with_reducible skip); refine bu ?_ lY.out _; (with_reducible skip); refine bu ?_ lY.out _; (with_reducible skip); exact lg.out⟩, ⟨by (with_reducible skip); refine bP (cs := #[.int .u8 ((ai fC gm).f0), .int .i64 0]) ?_ 1 _ rfl; (with_reducible skip); refine bP (cs := #[.int .u8 0, .int .i64 0]) ?_ 0 _ rfl; (with_reducible skip); exact xI.out⟩, ⟨by repeat ((with_reducible first | exact HB.out | refine bZ ?_ Vi.out))⟩⟩
            case rest =>
             clear Ms KI Gj U9 JO JH Jw J6 zU Ac TR Tu; obtain ⟨kq, ET, rfl, HA, HJ19, lg, xI, HB⟩ := hcut
             cases kq with
             | zero => exact absurd HA.out (by simp [aA.j2])
             | succ kj19 =>
              have H := HA.out; clear HA; simp only [aA.j2] at H; by_cases c27 : ET = true
              ·subst c27; rw [if_pos rfl] at H; obtain rfl := Option.some.inj H; go_wp2
               go_ret
               exact ⟨by rfl, by exact HB.out⟩
              ·replace c27 := Bool.eq_false_iff.mpr c27; subst c27; rw [if_neg (show ¬ (false = true) by decide)] at H; replace H := Option.bind_eq_some_iff.mp H; obtain ⟨Yc, aaC, H⟩ := H; have A28 := aa.mk aaC; clear aaC; by_cases c29 : Yc = true
               ·subst c29; rw [if_pos rfl] at H; by_cases c30 : gm > 0
                ·rw [if_pos c30] at H; have YA : decide (0 < gm) = true := decide_eq_true c30; clear c30; obtain ⟨ow, VR⟩ : ∃ j_ : Int, (wrap64 (gm - 1)) = j_ := ⟨_, rfl⟩; (replace H : (if 0 ≤ (ow) then (if (ow) < (fC.length : Int) then (if ((ai fC gm).f0) ≤ ((ai fC (ow)).f0) then (some 5) else (aA.l0 kj19 fC (fC.length : Int) (wrap64 (gm + 1)) fO bv fC)) else (none)) else (none)) = some r := by (rw [VR] at H; exact H)); (skip); have agj : (IntKind.i64.wrap (gm - 1)) = ow := (oU _).trans VR; by_cases c32 : 0 ≤ (ow)
                 ·rw [if_pos c32] at H; have VJ : decide (0 ≤ (ow)) = true := decide_eq_true c32; clear c32; by_cases c33 : (ow) < (fC.length : Int)
                  ·rw [if_pos c33] at H; have Ot : decide ((ow) < (fC.length : Int)) = true := decide_eq_true c33; clear c33; by_cases c34 : ((ai fC gm).f0) ≤ ((ai fC (ow)).f0)
                   ·rw [if_pos c34] at H; have Ze : decide (((ai fC gm).f0) ≤ ((ai fC (ow)).f0)) = true := decide_eq_true c34; clear c34; obtain rfl := Option.some.inj H; have M4 := qD.out; have NA := lY.out; obtain ⟨Rb, RF, TY, SS⟩ := lZ xI.out; (go_wp2_with ((go_at_call 64; (with_reducible refine (dX.calls ((ai fC gm).f1) 1 1023 true _ A28.out).mono ?_); rintro e w' ⟨rfl, ⟨nd, rfl⟩⟩; obtain ⟨vD, vY, vF, vO, wh, vK⟩ := cells3 lg.out; have qK : 0 ≤ ((ow) : Int) := of_decide_eq_true (by with_reducible assumption); have qH : (ow) < (fC.length : Int) := of_decide_eq_true (by with_reducible assumption); obtain ⟨uG, e110, iE, iF⟩ := mF AP.out (ow) qK qH; obtain rfl : yh = uG := (by injection e110); replace iE := (HB.out.cell (World.block_lt_of_cell? w _ iE)).trans iE; replace iF := (HB.out.cell (World.block_lt_of_cell? w _ iF)).trans iF; replace qK := eq_true qK; replace qH := eq_true qH))); repeat (go_quiet (first | (go_at_call 64; (with_reducible refine (dX.calls ((ai fC gm).f1) 1 1023 true _ A28.out).mono ?_); rintro e w' ⟨rfl, ⟨nd, rfl⟩⟩; (try first | exact ⟨rfl, _, World.drewN_drewN _ _ _⟩ | exact ⟨rfl, _, Eq.trans (World.drewN_drewN _ _ _) (congrArg (World.drewN _) (Nat.add_assoc _ _ _))⟩); obtain ⟨vD, vY, vF, vO, wh, vK⟩ := cells3 lg.out; have qK : 0 ≤ ((ow) : Int) := of_decide_eq_true (by first | (with_reducible assumption) | assumption); have qH : (ow) < (fC.length : Int) := of_decide_eq_true (by first | (with_reducible assumption) | assumption); obtain ⟨uG, e110, iE, iF⟩ := mF AP.out (ow) qK qH; obtain rfl : yh = uG := (by injection e110); replace iE := (HB.out.cell (World.block_lt_of_cell? w _ iE)).trans iE; replace iF := (HB.out.cell (World.block_lt_of_cell? w _ iF)).trans iF; replace qK := eq_true qK; replace qH := eq_true qH)); go_wp2_with (first | (go_at_call 64; (with_reducible refine (dX.calls ((ai fC gm).f1) 1 1023 true _ A28.out).mono ?_); rintro e w' ⟨rfl, ⟨nd, rfl⟩⟩; (try first | exact ⟨rfl, _, World.drewN_drewN _ _ _⟩ | exact ⟨rfl, _, Eq.trans (World.drewN_drewN _ _ _) (congrArg (World.drewN _) (Nat.add_assoc _ _ _))⟩); obtain ⟨vD, vY, vF, vO, wh, vK⟩ := cells3 lg.out; have qK : 0 ≤ ((ow) : Int) := of_decide_eq_true (by first | (with_reducible assumption) | assumption); have qH : (ow) < (fC.length : Int) := of_decide_eq_true (by first | (with_reducible assumption) | assumption); obtain ⟨uG, e110, iE, iF⟩ := mF AP.out (ow) qK qH; obtain rfl : yh = uG := (by injection e110); replace iE := (HB.out.cell (World.block_lt_of_cell? w _ iE)).trans iE; replace iF := (HB.out.cell (World.block_lt_of_cell? w _ iF)).trans iF; replace qK := eq_true qK; replace qH := eq_true qH)))
                    go_ret
                    exact ⟨by rfl, by exact lU HB.out⟩
                   ·rw [if_neg c34] at H; have Ze : decide (((ai fC gm).f0) ≤ ((ai fC (ow)).f0)) = false := decide_eq_false c34; clear c34; have H' := aa.mk H; clear H; have ahI := qD.out; have ahM := lY.out; obtain ⟨aej, acQ, adO, acN⟩ := lZ xI.out; (go_wp2_with ((go_at_call 64; (with_reducible refine (dX.calls ((ai fC gm).f1) 1 1023 true _ A28.out).mono ?_); rintro e w' ⟨rfl, ⟨nd, rfl⟩⟩; obtain ⟨KP, JZ, Jy, J3, J2, Kv⟩ := cells3 lg.out; have qK : 0 ≤ ((ow) : Int) := of_decide_eq_true (by with_reducible assumption); have qH : (ow) < (fC.length : Int) := of_decide_eq_true (by with_reducible assumption); obtain ⟨uG, e110, iE, iF⟩ := mF AP.out (ow) qK qH; obtain rfl : yh = uG := (by injection e110); replace iE := (HB.out.cell (World.block_lt_of_cell? w _ iE)).trans iE; replace iF := (HB.out.cell (World.block_lt_of_cell? w _ iF)).trans iF; replace qK := eq_true qK; replace qH := eq_true qH))); (repeat (go_quiet (first | (go_at_call 64; (with_reducible refine (dX.calls ((ai fC gm).f1) 1 1023 true _ A28.out).mono ?_); rintro e w' ⟨rfl, ⟨nd, rfl⟩⟩; (try first | exact ⟨rfl, _, World.drewN_drewN _ _ _⟩ | exact ⟨rfl, _, Eq.trans (World.drewN_drewN _ _ _) (congrArg (World.drewN _) (Nat.add_assoc _ _ _))⟩); obtain ⟨KP, JZ, Jy, J3, J2, Kv⟩ := cells3 lg.out; have qK : 0 ≤ ((ow) : Int) := of_decide_eq_true (by first | (with_reducible assumption) | assumption); have qH : (ow) < (fC.length : Int) := of_decide_eq_true (by first | (with_reducible assumption) | assumption); obtain ⟨uG, e110, iE, iF⟩ := mF AP.out (ow) qK qH; obtain rfl : yh = uG := (by injection e110); replace iE := (HB.out.cell (World.block_lt_of_cell? w _ iE)).trans iE; replace iF := (HB.out.cell (World.block_lt_of_cell? w _ iF)).trans iF; replace qK := eq_true qK; replace qH := eq_true qH)); go_wp2_with (first | (go_at_call 64; (with_reducible refine (dX.calls ((ai fC gm).f1) 1 1023 true _ A28.out).mono ?_); rintro e w' ⟨rfl, ⟨nd, rfl⟩⟩; (try first | exact ⟨rfl, _, World.drewN_drewN _ _ _⟩ | exact ⟨rfl, _, Eq.trans (World.drewN_drewN _ _ _) (congrArg (World.drewN _) (Nat.add_assoc _ _ _))⟩); obtain ⟨KP, JZ, Jy, J3, J2, Kv⟩ := cells3 lg.out; have qK : 0 ≤ ((ow) : Int) := of_decide_eq_true (by first | (with_reducible assumption) | assumption); have qH : (ow) < (fC.length : Int) := of_decide_eq_true (by first | (with_reducible assumption) | assumption); obtain ⟨uG, e110, iE, iF⟩ := mF AP.out (ow) qK qH; obtain rfl : yh = uG := (by injection e110); replace iE := (HB.out.cell (World.block_lt_of_cell? w _ iE)).trans iE; replace iF := (HB.out.cell (World.block_lt_of_cell? w _ iF)).trans iF; replace qK := eq_true qK; replace qH := eq_true qH)))); go_roundg kj19; (case measure => have := HJ2.out; have := HK2.out; have := HJ19.out; omega); case rel => exact ⟨(wrap64 (gm + 1)), (by rfl), H', ⟨by have := HJ2.out; have := HK2.out; have := HJ19.out; omega⟩, ⟨by (with_reducible repeat (refine eX ?_ _)); exact lg.out⟩, ⟨by exact lU HB.out⟩⟩
                  ·rw [if_neg c33] at H; exact absurd H (by simp)
                 ·rw [if_neg c32] at H; exact absurd H (by simp)
                ·rw [if_neg c30] at H; have YA : decide (0 < gm) = false := decide_eq_false c30; clear c30; have H' := aa.mk H; clear H; have Px := qD.out; have QF := lY.out; obtain ⟨abX, abW, adG, acs⟩ := lZ xI.out; (go_wp2_with ((go_at_call 64; (with_reducible refine (dX.calls ((ai fC gm).f1) 1 1023 true _ A28.out).mono ?_); rintro e w' ⟨rfl, ⟨nd, rfl⟩⟩))); (repeat (go_quiet (first | (go_at_call 64; (with_reducible refine (dX.calls ((ai fC gm).f1) 1 1023 true _ A28.out).mono ?_); rintro e w' ⟨rfl, ⟨nd, rfl⟩⟩; (try first | exact ⟨rfl, _, World.drewN_drewN _ _ _⟩ | exact ⟨rfl, _, Eq.trans (World.drewN_drewN _ _ _) (congrArg (World.drewN _) (Nat.add_assoc _ _ _))⟩))); go_wp2_with (first | (go_at_call 64; (with_reducible refine (dX.calls ((ai fC gm).f1) 1 1023 true _ A28.out).mono ?_); rintro e w' ⟨rfl, ⟨nd, rfl⟩⟩; (try first | exact ⟨rfl, _, World.drewN_drewN _ _ _⟩ | exact ⟨rfl, _, Eq.trans (World.drewN_drewN _ _ _) (congrArg (World.drewN _) (Nat.add_assoc _ _ _))⟩))))); go_roundg kj19; (case measure => have := HJ2.out; have := HK2.out; have := HJ19.out; omega); case rel => exact ⟨(wrap64 (gm + 1)), (by rfl), H', ⟨by have := HJ2.out; have := HK2.out; have := HJ19.out; omega⟩, ⟨by (with_reducible repeat (refine eX ?_ _)); exact lg.out⟩, ⟨by exact lU HB.out⟩⟩
               ·replace c29 := Bool.eq_false_iff.mpr c29; subst c29; rw [if_neg (show ¬ (false = true) by decide)] at H; obtain rfl := Option.some.inj H; have OV := qD.out; have N7 := lY.out; obtain ⟨aci, ac6, adN, aeB⟩ := lZ xI.out; go_wp2_with ((go_at_call 64; (with_reducible refine (dX.calls ((ai fC gm).f1) 1 1023 false _ A28.out).mono ?_); rintro e w' ⟨rfl, ⟨nd, rfl⟩⟩))
                go_ret
                exact ⟨by rfl, by exact lU HB.out⟩
           ·rw [if_neg c19] at H; exact absurd H (by simp)
          ·rw [if_neg c18] at H; exact absurd H (by simp)
         ·rw [if_neg c17] at H; have KI : decide (gm < (fC.length : Int)) = false := decide_eq_false c17; clear c17; obtain rfl := Option.some.inj H; go_wp2
          go_ret
          exact ⟨by rfl, by exact HB.out⟩
def eY.f (a0 : Int) (a1 : Int) : Option (Int) := some (Go.bits .andNot .i64 a0 a1)
set_option maxHeartbeats 8000000 in
set_option maxRecDepth 100000 in
theorem eY.calls (a0 : Int) (a1 : Int) (r : Int) (w : World) (h : eY.f a0 a1 = some r) :
 Calls Try.prog 65 #[.int .i64 a0, .int .i64 a1] w fun e w' => e = .returned (.int .i64 r) ∧ dO w w' := by
 have H : (some (Go.bits .andNot .i64 a0 a1)) = some r := h; clear h; obtain rfl := Option.some.inj H; go_enter Try.func65, Try.ntmps65; go_wp2
 go_ret
 exact ⟨by first | rfl | (simp; done) | (simp [*]; done), by repeat (first | exact dO.refl _ | apply dO.step)⟩
mutual
def aI.l0 : Nat → List (S66) → Int → Int → List (S66) → Int → Int → Int → List (List (S27)) → Option (Int)
 | 0, _, _, _, _, _, _, _, _ => none
 | k + 1, x21, x22, x23, xR, vN, vJ, vI, qo => if x23 < x22 then (if 0 ≤ x23 then (if x23 < (x21.length : Int) then ((aA.f k ((ah x21 x23).f0.f0) ((ah x21 x23).f0.f1) ((ah x21 x23).f1)).bind fun CR => (if CR = 0 then (aI.l0 k x21 x22 (wrap64 (x23 + 1)) xR vN vJ vI qo) else (some CR))) else (none)) else (none)) else ((dX.f vN 0 10).bind fun PW => (if PW = true then ((dX.f vJ 0 10).bind fun Sj => (if Sj = true then ((dX.f vI 0 40).bind fun Rl => (aI.j1 k (!Rl) xR vN vJ vI qo)) else (aI.j1 k (!Sj) xR vN vJ vI qo))) else (aI.j1 k (!PW) xR vN vJ vI qo)))
def aI.j1 : Nat → Bool → List (S66) → Int → Int → Int → List (List (S27)) → Option (Int)
 | 0, _, _, _, _, _, _ => none
 | k + 1, x33, xR, vN, vJ, vI, qo => if x33 = true then (some 1) else (if (qo.length : Int) = 0 then (some 7) else (if (qo.length : Int) > 8 then (some 6) else (aI.l1 k qo (qo.length : Int) 0)))
def aI.l1 : Nat → List (List (S27)) → Int → Int → Option (Int)
 | 0, _, _, _ => none
 | k + 1, x57, x58, x59 => if x59 < x58 then (if 0 ≤ x59 then (if x59 < (x57.length : Int) then (if ((cZ x57 x59).length : Int) > 4 then (some 6) else (aI.l2 k x57 x58 x59 (cZ x57 x59) ((cZ x57 x59).length : Int) 0)) else (none)) else (none)) else (some 0)
def aI.l2 : Nat → List (List (S27)) → Int → Int → List (S27) → Int → Int → Option (Int)
 | 0, _, _, _, _, _, _ => none
 | k + 1, x57, x58, x59, x66, x67, x68 => if x68 < x67 then (if 0 ≤ x68 then (if x68 < (x66.length : Int) then ((dX.f ((dV x66 x68).f0) 0 1023).bind fun Qk => (if Qk = true then ((dX.f ((dV x66 x68).f1) 0 1023).bind fun Uv => (aI.j4 k x57 x58 x59 x66 x67 x68 (!Uv) ((dV x66 x68).f0) ((dV x66 x68).f1))) else (aI.j4 k x57 x58 x59 x66 x67 x68 (!Qk) ((dV x66 x68).f0) ((dV x66 x68).f1)))) else (none)) else (none)) else (aI.l1 k x57 x58 (wrap64 (x59 + 1)))
def aI.j4 : Nat → List (List (S27)) → Int → Int → List (S27) → Int → Int → Bool → Int → Int → Option (Int)
 | 0, _, _, _, _, _, _, _, _, _ => none
 | k + 1, x57, x58, x59, x66, x67, x68, x72, Tm, QY => if x72 = true then (some 1) else ((eY.f QY Tm).bind fun Ep => (if Ep = 0 then (aI.l2 k x57 x58 x59 x66 x67 (wrap64 (x68 + 1))) else (some 2)))
end
def aI.f (k : Nat) (aX : List (S66)) (bv : Int) (bS : Int) (cO : Int) (bg : List (List (S27))) : Option (Int) := if (aX.length : Int) = 0 then (some 7) else (if (aX.length : Int) > 4 then (some 6) else (aI.l0 k aX (aX.length : Int) 0 aX bv bS cO bg))
theorem aI.gM : ∀ k, (∀ y0 y1 y2 y3 y4 y5 y6 y7, LeO (aI.l0 k y0 y1 y2 y3 y4 y5 y6 y7) (aI.l0 (k + 1) y0 y1 y2 y3 y4 y5 y6 y7)) ∧ (∀ y0 y1 y2 y3 y4 y5, LeO (aI.j1 k y0 y1 y2 y3 y4 y5) (aI.j1 (k + 1) y0 y1 y2 y3 y4 y5)) ∧ (∀ y0 y1 y2, LeO (aI.l1 k y0 y1 y2) (aI.l1 (k + 1) y0 y1 y2)) ∧ (∀ y0 y1 y2 y3 y4 y5, LeO (aI.l2 k y0 y1 y2 y3 y4 y5) (aI.l2 (k + 1) y0 y1 y2 y3 y4 y5)) ∧ (∀ y0 y1 y2 y3 y4 y5 y6 y7 y8, LeO (aI.j4 k y0 y1 y2 y3 y4 y5 y6 y7 y8) (aI.j4 (k + 1) y0 y1 y2 y3 y4 y5 y6 y7 y8))
 | 0 => ⟨fun _ _ _ _ _ _ _ _ r h => by simp [aI.l0] at h, fun _ _ _ _ _ _ r h => by simp [aI.j1] at h, fun _ _ _ r h => by simp [aI.l1] at h, fun _ _ _ _ _ _ r h => by simp [aI.l2] at h, fun _ _ _ _ _ _ _ _ _ r h => by simp [aI.j4] at h⟩
 | k + 1 => by
  obtain ⟨ih0, ih1, ih2, ih3, ih4⟩ := aI.gM k; refine ⟨?_, ?_, ?_, ?_, ?_⟩
  ·intro y0 y1 y2 y3 y4 y5 y6 y7; unfold aI.l0
   repeat' first | (with_reducible exact ih0 _ _ _ _ _ _ _ _) | (with_reducible exact ih1 _ _ _ _ _ _) | (with_reducible exact aA.mono _ _ _ _) | (with_reducible exact LeO.refl _) | (with_reducible refine LeO.ite ?_ ?_) | (with_reducible refine LeO.bind ?_ (fun _ => ?_))
  ·intro y0 y1 y2 y3 y4 y5; unfold aI.j1
   repeat' first | (with_reducible exact ih2 _ _ _) | (with_reducible exact LeO.refl _) | (with_reducible refine LeO.ite ?_ ?_)
  ·intro y0 y1 y2; unfold aI.l1
   repeat' first | (with_reducible exact ih3 _ _ _ _ _ _) | (with_reducible exact LeO.refl _) | (with_reducible refine LeO.ite ?_ ?_)
  ·intro y0 y1 y2 y3 y4 y5; unfold aI.l2
   repeat' first | (with_reducible exact ih2 _ _ _) | (with_reducible exact ih4 _ _ _ _ _ _ _ _ _) | (with_reducible exact LeO.refl _) | (with_reducible refine LeO.ite ?_ ?_) | (with_reducible refine LeO.bind ?_ (fun _ => ?_))
  ·intro y0 y1 y2 y3 y4 y5 y6 y7 y8; unfold aI.j4
   repeat' first | (with_reducible exact ih3 _ _ _ _ _ _) | (with_reducible exact LeO.refl _) | (with_reducible refine LeO.ite ?_ ?_) | (with_reducible refine LeO.bind ?_ (fun _ => ?_))
theorem aI.mono : ∀ a0 a1 a2 a3 a4 k, LeO (aI.f k a0 a1 a2 a3 a4) (aI.f (k + 1) a0 a1 a2 a3 a4) := by
 intro a0 a1 a2 a3 a4 k; obtain ⟨ih0, ih1, ih2, ih3, ih4⟩ := aI.gM k; unfold aI.f
 repeat' first | (with_reducible exact ih0 _ _ _ _ _ _ _ _) | (with_reducible exact LeO.refl _) | (with_reducible refine LeO.ite ?_ ?_)
set_option maxHeartbeats 8000000 in
set_option maxRecDepth 100000 in
theorem aI.calls (k : Nat) (eT : Option Addr) (eB : Nat) (aX : List (S66)) (bv : Int) (bS : Int) (cO : Int) (eG : Option Addr) (dZ : Nat) (bg : List (List (S27))) (r : Int) (w : World) (mV : Kd.C k66 w eT aX.length aX) (pO : aX.length ≤ eB) (mX : Kd.C (Kd.slice 27 k27) w eG bg.length bg) (pR : bg.length ≤ dZ) (h : aI.f k aX bv bS cO bg = some r) :
 Calls Try.prog 40 #[.agg #[.slice eT aX.length eB, .int .i64 bv, .int .i64 bS, .int .i64 cO, .slice eG bg.length dZ]] w fun e w' => e = .returned (.int .i64 r) ∧ Below w.heap.size w w' := by
 have hu25 := Try.underlying25; have hu66 := Try.underlying66; have hu27 := Try.underlying27; have vz := aa.mk mV; have zo := aa.mk pO; clear mV pO; have uP := aa.mk mX; have zM := aa.mk pR; clear mX pR; have HB := aa.mk (Below.refl w.heap.size w); have H : (if (aX.length : Int) = 0 then (some 7) else (if (aX.length : Int) > 4 then (some 6) else (aI.l0 k aX (aX.length : Int) 0 aX bv bS cO bg))) = some r := h; clear h; by_cases c2 : (aX.length : Int) = 0
 ·rw [if_pos c2] at H; have Jv : ((aX.length : Int) == 0) = true := beq_iff_eq.mpr c2; have YN : ((aX.length : Int) != 0) = false := bne_eq_false_iff_eq.mpr c2; clear c2; obtain rfl := Option.some.inj H; go_enter Try.func40, Try.ntmps40; go_wp2_with (((with_reducible refine dm (N := 1) rfl ?_); refine dE ?hg (N := 1) ?hd (cs := #[.slice eT aX.length eB, .int .i64 bv, .int .i64 bS, .int .i64 cO, .slice eG bg.length dZ]) (t := 25) ?hr ?_; (case hd => rfl); (case hg => rfl); (case hr => (go_simp; done)); intro kN hg w3 hbox hb; have gP := aa.mk (hbox); have VD := aa.mk ((by rw [hg]; exact (aH (by exact HB.out)) : w.heap.size ≤ kN)); have Vb := aa.mk ((by rw [hg]; exact (aH (by exact HB.out)) : w.heap.size ≤ kN)); replace HB := aa.mk (aC (by exact HB.out) hb); clear hb hbox hg; obtain ⟨afU, afR, afA, aeL, afm, afz, af5, afr, agb, af1⟩ := cells5 gP.out))
  go_ret
  exact ⟨by rfl, by exact HB.out⟩
 ·rw [if_neg c2] at H; have Jv : ((aX.length : Int) == 0) = false := beq_eq_false_iff_ne.mpr c2; have YN : ((aX.length : Int) != 0) = true := bne_iff_ne.mpr c2; (have af3 : ¬ (aX = []) := fun h_ => c2 (by rw [h_]; rfl)); by_cases c5 : (aX.length : Int) > 4
  ·rw [if_pos c5] at H; have EK : decide (4 < (aX.length : Int)) = true := decide_eq_true c5; have O6 : decide (4 < aX.length) = true := decide_eq_true (by omega); clear c5; obtain rfl := Option.some.inj H; go_enter Try.func40, Try.ntmps40; go_wp2_with (((with_reducible refine dm (N := 1) rfl ?_); refine dE ?hg (N := 1) ?hd (cs := #[.slice eT aX.length eB, .int .i64 bv, .int .i64 bS, .int .i64 cO, .slice eG bg.length dZ]) (t := 25) ?hr ?_; (case hd => rfl); (case hg => rfl); (case hr => (go_simp; done)); intro kN hg w6 hbox hb; have gP := aa.mk (hbox); have VD := aa.mk ((by rw [hg]; exact (aH (by exact HB.out)) : w.heap.size ≤ kN)); have Vb := aa.mk ((by rw [hg]; exact (aH (by exact HB.out)) : w.heap.size ≤ kN)); replace HB := aa.mk (aC (by exact HB.out) hb); clear hb hbox hg; obtain ⟨aeU, ae2, agc, afa, ae7, agx, afi, afv, aeK, afC⟩ := cells5 gP.out))
   go_ret
   exact ⟨by rfl, by exact HB.out⟩
  ·rw [if_neg c5] at H; have EK : decide (4 < (aX.length : Int)) = false := decide_eq_false c5; have O6 : decide (4 < aX.length) = false := decide_eq_false (by omega); clear c5; have H' := aa.mk H; clear H; go_enter Try.func40, Try.ntmps40; (go_wp2_with (((with_reducible refine dm (N := 1) rfl ?_); refine dE ?hg (N := 1) ?hd (cs := #[.slice eT aX.length eB, .int .i64 bv, .int .i64 bS, .int .i64 cO, .slice eG bg.length dZ]) (t := 25) ?hr ?_; (case hd => rfl); (case hg => rfl); (case hr => (go_simp; done)); intro kN hg w8 hbox hb; have gP := aa.mk (hbox); have VD := aa.mk ((by rw [hg]; exact (aH (by exact HB.out)) : w.heap.size ≤ kN)); have Vb := aa.mk ((by rw [hg]; exact (aH (by exact HB.out)) : w.heap.size ≤ kN)); replace HB := aa.mk (aC (by exact HB.out) hb); clear hb hbox hg; obtain ⟨NW, N9, Wh, Xb, X3, PM, Om, Wi, WJ, WH⟩ := cells5 gP.out))); (go_loopg [23] k (fun kq v23 w' => ∃ (gY : Int), v23 = .int .i64 gY ∧ aa (aI.l0 kq aX (aX.length : Int) gY aX bv bS cO bg = some r) ∧ aa (kq ≤ k) ∧ aa (w'.heap[kN]? = some (.cells #[(.slice eT aX.length eB), .int .i64 bv, .int .i64 bS, .int .i64 cO, (.slice eG bg.length dZ)] 25 (0, 0))) ∧ aa (Below w.heap.size w w'))); case atStart => exact ⟨(0), (by rfl), H', ⟨Nat.le_refl _⟩, ⟨by (with_reducible skip); exact gP.out⟩, ⟨by exact HB.out⟩⟩
   case round =>
    clear H' c2 Jv YN af3 EK O6 NW N9 Wh Xb X3 PM Om Wi WJ WH; obtain ⟨gY, rfl, HA, HK1, gP, HB⟩ := hrel
    cases gk with
    | zero => exact absurd HA.out (by simp [aI.l0])
    | succ k1 =>
     have H := HA.out; clear HA; simp only [aI.l0] at H; by_cases c10 : gY < (aX.length : Int)
     ·rw [if_pos c10] at H; have zt : decide (gY < (aX.length : Int)) = true := decide_eq_true c10; clear c10; by_cases c11 : 0 ≤ gY
      ·rw [if_pos c11] at H; have P9 : decide (0 ≤ gY) = true := decide_eq_true c11; clear c11; by_cases c12 : gY < (aX.length : Int)
       ·rw [if_pos c12] at H; have zI : decide (gY < (aX.length : Int)) = true := decide_eq_true c12; clear c12; replace H := Option.bind_eq_some_iff.mp H; obtain ⟨CR, abR, H⟩ := H; have A13 := aa.mk abR; clear abR; by_cases c14 : CR = 0
        ·rw [if_pos c14] at H; have Fu : (CR == 0) = true := beq_iff_eq.mpr c14; have Fs : (CR != 0) = false := bne_eq_false_iff_eq.mpr c14; clear c14; have H' := aa.mk H; clear H; have Il : 0 ≤ (gY : Int) := of_decide_eq_true (by with_reducible assumption); have IC : gY < (aX.length : Int) := of_decide_eq_true (by with_reducible assumption); obtain ⟨Aj, A112_2, c112_2, e112, ul, uh, tX, xM, xO⟩ := oC vz.out gY Il IC; cases e112; replace ul := (HB.out.cell (World.block_lt_of_cell? w _ ul)).trans ul; replace uh := (HB.out.cell (World.block_lt_of_cell? w _ uh)).trans uh; replace tX := (HB.out.cell (World.block_lt_of_cell? w _ tX)).trans tX; have Ef := aa.mk xO; have D9 := aa.mk xM; clear xO xM; replace Il := eq_true Il; replace IC := eq_true IC; (go_wp2_with (first | ((with_reducible refine dm (N := 4) rfl ?_); refine dE ?hg (N := 4) ?hd (cs := #[.int .i64 0, .int .i64 0, .slice none 0 0]) (t := 66) ?hr ?_; (case hd => rfl); (case hg => rfl); (case hr => (go_simp; done)); intro uV hg w15 hbox hb; have AO := aa.mk (hbox); have abm := aa.mk ((by rw [hg]; exact (aH (by exact HB.out)) : w.heap.size ≤ uV)); have E9 := aa.mk ((by rw [hg]; exact (aH (by exact HB.out)) : w.heap.size ≤ uV)); replace HB := aa.mk (aC (by exact HB.out) hb); have mG := aa.mk ((by rw [hg]; exact Nat.ne_of_lt (bQ (g := kN) (o := .cells #[.slice (some Aj) aX.length eB, .int .i64 bv, .int .i64 bS, .int .i64 cO, .slice eG bg.length dZ] 25 (0, 0)) (bU gP.out)) : kN ≠ uV)); have yE := aa.mk ((by rw [hg]; exact Nat.ne_of_gt (bQ (g := kN) (o := .cells #[.slice (some Aj) aX.length eB, .int .i64 bv, .int .i64 bS, .int .i64 cO, .slice eG bg.length dZ] 25 (0, 0)) (bU gP.out)) : uV ≠ kN)); replace gP := aa.mk (au (bU gP.out) hb); clear hb hbox hg; have agM := yE.out; have ahb := mG.out; obtain ⟨KJ, JK, JN, Kh, Kr, JY⟩ := cells3 AO.out) | ((with_reducible refine bM (f := 63) rfl ?_); refine eU (some 28) rfl rfl Try.func63 (by kernel_rfl) rfl #[.agg #[.int .i64 ((ah aX gY).f0.f0), .int .i64 ((ah aX gY).f0.f1), .slice A112_2 ((ah aX gY).f1).length c112_2]] rfl (by (simp only [List.map_toArray, List.map_cons, List.map_nil]); rfl) ?_; (with_reducible refine (aA.calls k1 ((ah aX gY).f0.f0) ((ah aX gY).f0.f1) _ _ ((ah aX gY).f1) CR _ ?side1 ?side2 A13.out).mono ?_); (case side1 => exact Kd.aV Ef.out (by repeat ((with_reducible first | exact HB.out | refine bZ ?_ E9.out)))); (case side2 => exact D9.out); rintro e w18 ⟨rfl, hb⟩; refine ⟨_, rfl, ?_⟩; replace gP := aa.mk (au (g := kN) (o := .cells #[.slice (some Aj) aX.length eB, .int .i64 bv, .int .i64 bS, .int .i64 cO, .slice eG bg.length dZ] 25 (0, 0)) (by (with_reducible skip); refine bu ?_ mG.out _; (with_reducible skip); refine bu ?_ mG.out _; (with_reducible skip); refine bu ?_ mG.out _; (with_reducible skip); exact gP.out) hb); replace AO := aa.mk (au (g := uV) (o := .cells #[.int .i64 ((ah aX gY).f0.f0), .int .i64 ((ah aX gY).f0.f1), .slice A112_2 ((ah aX gY).f1).length c112_2] 66 (0, 0)) (by (with_reducible skip); refine bP (cs := #[.int .i64 ((ah aX gY).f0.f0), .int .i64 ((ah aX gY).f0.f1), .slice none 0 0]) ?_ 2 _ rfl; (with_reducible skip); refine bP (cs := #[.int .i64 ((ah aX gY).f0.f0), .int .i64 0, .slice none 0 0]) ?_ 1 _ rfl; (with_reducible skip); refine bP (cs := #[.int .i64 0, .int .i64 0, .slice none 0 0]) ?_ 0 _ rfl; (with_reducible skip); exact AO.out) hb); replace HB := aa.mk (aC (by repeat ((with_reducible first | exact HB.out | refine bZ ?_ E9.out))) hb); (clear hb)))); go_roundg k1; (case measure => have := HK1.out; omega); case rel => exact ⟨(wrap64 (gY + 1)), (by rfl), H', ⟨by have := HK1.out; omega⟩, ⟨by (with_reducible skip); exact gP.out⟩, ⟨by exact HB.out⟩⟩
        ·rw [if_neg c14] at H; have Fu : (CR == 0) = false := beq_eq_false_iff_ne.mpr c14; have Fs : (CR != 0) = true := bne_iff_ne.mpr c14; obtain rfl := Option.some.inj H; have Il : 0 ≤ (gY : Int) := of_decide_eq_true (by with_reducible assumption); have IC : gY < (aX.length : Int) := of_decide_eq_true (by with_reducible assumption); obtain ⟨Aj, A112_2, c112_2, e112, ul, uh, tX, xM, xO⟩ := oC vz.out gY Il IC; cases e112; replace ul := (HB.out.cell (World.block_lt_of_cell? w _ ul)).trans ul; replace uh := (HB.out.cell (World.block_lt_of_cell? w _ uh)).trans uh; replace tX := (HB.out.cell (World.block_lt_of_cell? w _ tX)).trans tX; have Ef := aa.mk xO; have D9 := aa.mk xM; clear xO xM; replace Il := eq_true Il; replace IC := eq_true IC; go_wp2_with (first | ((with_reducible refine dm (N := 4) rfl ?_); refine dE ?hg (N := 4) ?hd (cs := #[.int .i64 0, .int .i64 0, .slice none 0 0]) (t := 66) ?hr ?_; (case hd => rfl); (case hg => rfl); (case hr => (go_simp; done)); intro uV hg w19 hbox hb; have AO := aa.mk (hbox); have abm := aa.mk ((by rw [hg]; exact (aH (by exact HB.out)) : w.heap.size ≤ uV)); have E9 := aa.mk ((by rw [hg]; exact (aH (by exact HB.out)) : w.heap.size ≤ uV)); replace HB := aa.mk (aC (by exact HB.out) hb); have mG := aa.mk ((by rw [hg]; exact Nat.ne_of_lt (bQ (g := kN) (o := .cells #[.slice (some Aj) aX.length eB, .int .i64 bv, .int .i64 bS, .int .i64 cO, .slice eG bg.length dZ] 25 (0, 0)) (bU gP.out)) : kN ≠ uV)); have yE := aa.mk ((by rw [hg]; exact Nat.ne_of_gt (bQ (g := kN) (o := .cells #[.slice (some Aj) aX.length eB, .int .i64 bv, .int .i64 bS, .int .i64 cO, .slice eG bg.length dZ] 25 (0, 0)) (bU gP.out)) : uV ≠ kN)); replace gP := aa.mk (au (bU gP.out) hb); clear hb hbox hg; have ahf := yE.out; have agL := mG.out; obtain ⟨Ro, UD, TV, Rv, QR, Q5⟩ := cells3 AO.out) | ((with_reducible refine bM (f := 63) rfl ?_); refine eU (some 28) rfl rfl Try.func63 (by kernel_rfl) rfl #[.agg #[.int .i64 ((ah aX gY).f0.f0), .int .i64 ((ah aX gY).f0.f1), .slice A112_2 ((ah aX gY).f1).length c112_2]] rfl (by (simp only [List.map_toArray, List.map_cons, List.map_nil]); rfl) ?_; (with_reducible refine (aA.calls k1 ((ah aX gY).f0.f0) ((ah aX gY).f0.f1) _ _ ((ah aX gY).f1) CR _ ?side1 ?side2 A13.out).mono ?_); (case side1 => exact Kd.aV Ef.out (by repeat ((with_reducible first | exact HB.out | refine bZ ?_ E9.out)))); (case side2 => exact D9.out); rintro e w22 ⟨rfl, hb⟩; refine ⟨_, rfl, ?_⟩; replace gP := aa.mk (au (g := kN) (o := .cells #[.slice (some Aj) aX.length eB, .int .i64 bv, .int .i64 bS, .int .i64 cO, .slice eG bg.length dZ] 25 (0, 0)) (by (with_reducible skip); refine bu ?_ mG.out _; (with_reducible skip); refine bu ?_ mG.out _; (with_reducible skip); refine bu ?_ mG.out _; (with_reducible skip); exact gP.out) hb); replace AO := aa.mk (au (g := uV) (o := .cells #[.int .i64 ((ah aX gY).f0.f0), .int .i64 ((ah aX gY).f0.f1), .slice A112_2 ((ah aX gY).f1).length c112_2] 66 (0, 0)) (by (with_reducible skip); refine bP (cs := #[.int .i64 ((ah aX gY).f0.f0), .int .i64 ((ah aX gY).f0.f1), .slice none 0 0]) ?_ 2 _ rfl; (with_reducible skip); refine bP (cs := #[.int .i64 ((ah aX gY).f0.f0), .int .i64 0, .slice none 0 0]) ?_ 1 _ rfl; (with_reducible skip); refine bP (cs := #[.int .i64 0, .int .i64 0, .slice none 0 0]) ?_ 0 _ rfl; (with_reducible skip); exact AO.out) hb); replace HB := aa.mk (aC (by repeat ((with_reducible first | exact HB.out | refine bZ ?_ E9.out))) hb); (clear hb)))
         go_ret
         exact ⟨by rfl, by exact HB.out⟩
       ·rw [if_neg c12] at H; exact absurd H (by simp)
      ·rw [if_neg c11] at H; exact absurd H (by simp)
     ·rw [if_neg c10] at H; have zt : decide (gY < (aX.length : Int)) = false := decide_eq_false c10; clear c10; replace H := Option.bind_eq_some_iff.mp H; obtain ⟨PW, ZE, H⟩ := H; have A23 := aa.mk ZE; clear ZE; have Xz := aa.mk H; clear H; obtain ⟨UH, Rz, TB, Rt, Sl, UG, R4, UC, Tf, Rp⟩ := cells5 gP.out; (go_upto_if 33 with (((with_reducible refine bM (f := 64) rfl ?_); refine eU (some 36) rfl rfl Try.func64 (by kernel_rfl) rfl #[.int .i64 bv, .int .i64 0, .int .i64 10] rfl (by (simp only [List.map_toArray, List.map_cons, List.map_nil]); rfl) ?_; (with_reducible refine (dX.calls bv 0 10 PW _ A23.out).mono ?_); rintro e w' ⟨rfl, ⟨nd, rfl⟩⟩; refine ⟨_, rfl, ?_⟩))); (skip); go_cut [33] (fun v33 wc => ∃ (kq : Nat) (Eu : Bool), v33 = .bool Eu ∧ aa (aI.j1 kq Eu aX bv bS cO bg = some r) ∧ aa (kq ≤ k1) ∧ aa (wc.heap[kN]? = some (.cells #[(.slice eT aX.length eB), .int .i64 bv, .int .i64 bS, .int .i64 cO, (.slice eG bg.length dZ)] 25 (0, 0))) ∧ aa (Below w.heap.size w wc))
      case first =>
       have H := Xz.out; clear Xz; by_cases c26 : PW = true
       ·subst c26; rw [if_pos rfl] at H; replace H := Option.bind_eq_some_iff.mp H; obtain ⟨Sj, YV, H⟩ := H; have A27 := aa.mk YV; clear YV; by_cases c28 : Sj = true
        ·subst c28; rw [if_pos rfl] at H; replace H := Option.bind_eq_some_iff.mp H; obtain ⟨Rl, ZH, H⟩ := H; have A29 := aa.mk ZH; clear ZH; have H' := aa.mk H; clear H; obtain ⟨ad3, acl, ace, aeu, adY, adw, acG, adS, aee, ab2⟩ := cells5 gP.out; (go_wp2_with (first | ((with_reducible refine bM (f := 64) rfl ?_); refine eU (some 40) rfl rfl Try.func64 (by kernel_rfl) rfl #[.int .i64 bS, .int .i64 0, .int .i64 10] rfl (by (simp only [List.map_toArray, List.map_cons, List.map_nil]); rfl) ?_; (with_reducible refine (dX.calls bS 0 10 true _ A27.out).mono ?_); rintro e w' ⟨rfl, ⟨nd, rfl⟩⟩; refine ⟨_, rfl, ?_⟩) | ((with_reducible refine bM (f := 64) rfl ?_); refine eU (some 44) rfl rfl Try.func64 (by kernel_rfl) rfl #[.int .i64 cO, .int .i64 0, .int .i64 40] rfl (by (simp only [List.map_toArray, List.map_cons, List.map_nil]); rfl) ?_; (with_reducible refine (dX.calls cO 0 40 Rl _ A29.out).mono ?_); rintro e w' ⟨rfl, ⟨nd, rfl⟩⟩; refine ⟨_, rfl, ?_⟩))); go_meet; case rel => exact ⟨_, (!Rl), (by rfl), H', ⟨by have := HK1.out; omega⟩, ⟨by (with_reducible repeat (refine eX ?_ _)); exact gP.out⟩, ⟨by exact lU HB.out⟩⟩
        ·replace c28 := Bool.eq_false_iff.mpr c28; subst c28; rw [if_neg (show ¬ (false = true) by decide)] at H; have H' := aa.mk H; clear H; obtain ⟨TU, Ti, QW, aex, aew, QP, UM, Ua, aek, adA⟩ := cells5 gP.out; (go_wp2_with (((with_reducible refine bM (f := 64) rfl ?_); refine eU (some 40) rfl rfl Try.func64 (by kernel_rfl) rfl #[.int .i64 bS, .int .i64 0, .int .i64 10] rfl (by (simp only [List.map_toArray, List.map_cons, List.map_nil]); rfl) ?_; (with_reducible refine (dX.calls bS 0 10 false _ A27.out).mono ?_); rintro e w' ⟨rfl, ⟨nd, rfl⟩⟩; refine ⟨_, rfl, ?_⟩))); go_meet; case rel => exact ⟨_, (!false), (by rfl), H', ⟨by have := HK1.out; omega⟩, ⟨by (with_reducible repeat (refine eX ?_ _)); exact gP.out⟩, ⟨by exact lU HB.out⟩⟩
       ·replace c26 := Bool.eq_false_iff.mpr c26; subst c26; rw [if_neg (show ¬ (false = true) by decide)] at H; have H' := aa.mk H; clear H; go_wp2; go_meet; case rel => exact ⟨_, (!false), (by rfl), H', ⟨by have := HK1.out; omega⟩, ⟨by (with_reducible repeat (refine eX ?_ _)); exact gP.out⟩, ⟨by exact lU HB.out⟩⟩
      case rest =>
       clear Xz zt UH Rz TB Rt Sl UG R4 UC Tf Rp; obtain ⟨kq, Eu, rfl, HA, HJ23, gP, HB⟩ := hcut
       cases kq with
       | zero => exact absurd HA.out (by simp [aI.j1])
       | succ kj23 =>
        have H := HA.out; clear HA; simp only [aI.j1] at H; by_cases c32 : Eu = true
        ·subst c32; rw [if_pos rfl] at H; obtain rfl := Option.some.inj H; go_wp2
         go_ret
         exact ⟨by rfl, by exact HB.out⟩
        ·replace c32 := Bool.eq_false_iff.mpr c32; subst c32; rw [if_neg (show ¬ (false = true) by decide)] at H; by_cases c33 : (bg.length : Int) = 0
         ·rw [if_pos c33] at H; have Ot : ((bg.length : Int) == 0) = true := beq_iff_eq.mpr c33; have VG : ((bg.length : Int) != 0) = false := bne_eq_false_iff_eq.mpr c33; clear c33; obtain rfl := Option.some.inj H; obtain ⟨aen, acu, acI, aeh, adT, ac5, aem, ad8, ach, adz⟩ := cells5 gP.out; go_wp2
          go_ret
          exact ⟨by rfl, by exact HB.out⟩
         ·rw [if_neg c33] at H; have Ot : ((bg.length : Int) == 0) = false := beq_eq_false_iff_ne.mpr c33; have VG : ((bg.length : Int) != 0) = true := bne_iff_ne.mpr c33; (have Yu : ¬ (bg = []) := fun h_ => c33 (by rw [h_]; rfl)); by_cases c35 : (bg.length : Int) > 8
          ·rw [if_pos c35] at H; have VF : decide (8 < (bg.length : Int)) = true := decide_eq_true c35; have VB : decide (8 < bg.length) = true := decide_eq_true (by omega); clear c35; obtain rfl := Option.some.inj H; obtain ⟨Rb, RF, acF, adP, acm, TY, SS, acO, ael, acH⟩ := cells5 gP.out; go_wp2
           go_ret
           exact ⟨by rfl, by exact HB.out⟩
          ·rw [if_neg c35] at H; have VF : decide (8 < (bg.length : Int)) = false := decide_eq_false c35; have VB : decide (8 < bg.length) = false := decide_eq_false (by omega); clear c35; have H' := aa.mk H; clear H; obtain ⟨vD, vY, vF, Ec, EU, vO, wh, vK, EJ, EP⟩ := cells5 gP.out; go_wp2; (go_loopg [59] kj23 (fun kq v59 w' => ∃ (fI : Int), v59 = .int .i64 fI ∧ aa (aI.l1 kq bg (bg.length : Int) fI = some r) ∧ aa (kq ≤ kj23) ∧ aa (w'.heap[kN]? = some (.cells #[(.slice eT aX.length eB), .int .i64 bv, .int .i64 bS, .int .i64 cO, (.slice eG bg.length dZ)] 25 (0, 0))) ∧ aa (Below w.heap.size w w'))); case atStart => exact ⟨(0), (by rfl), H', ⟨Nat.le_refl _⟩, ⟨by (with_reducible skip); exact gP.out⟩, ⟨by exact HB.out⟩⟩
           case round =>
            clear H' c33 Ot VG Yu VF VB vD vY vF Ec EU vO wh vK EJ EP; obtain ⟨fI, rfl, HA, HK3, gP, HB⟩ := hrel
            cases gk with
            | zero => exact absurd HA.out (by simp [aI.l1])
            | succ k3 =>
             have H := HA.out; clear HA; simp only [aI.l1] at H; by_cases c38 : fI < (bg.length : Int)
             ·rw [if_pos c38] at H; have UZ : decide (fI < (bg.length : Int)) = true := decide_eq_true c38; clear c38; by_cases c39 : 0 ≤ fI
              ·rw [if_pos c39] at H; have aby : decide (0 ≤ fI) = true := decide_eq_true c39; clear c39; by_cases c40 : fI < (bg.length : Int)
               ·rw [if_pos c40] at H; have abJ : decide (fI < (bg.length : Int)) = true := decide_eq_true c40; clear c40; by_cases c41 : ((cZ bg fI).length : Int) > 4
                ·rw [if_pos c41] at H; have VN : decide (4 < ((cZ bg fI).length : Int)) = true := decide_eq_true c41; have Ve : decide (4 < (cZ bg fI).length) = true := decide_eq_true (by omega); clear c41; obtain rfl := Option.some.inj H; have GI : 0 ≤ (fI : Int) := of_decide_eq_true (by with_reducible assumption); have GY : fI < (bg.length : Int) := of_decide_eq_true (by with_reducible assumption); obtain ⟨GZ, A118_0, c118_0, e118, rR, xD, xh⟩ := wG uP.out fI GI GY; cases e118; replace rR := (HB.out.cell (World.block_lt_of_cell? w _ rR)).trans rR; have JA := aa.mk xh; have Q9 := aa.mk xD; clear xh xD; replace GI := eq_true GI; replace GY := eq_true GY; go_wp2
                 go_ret
                 exact ⟨by rfl, by exact HB.out⟩
                ·rw [if_neg c41] at H; have VN : decide (4 < ((cZ bg fI).length : Int)) = false := decide_eq_false c41; have Ve : decide (4 < (cZ bg fI).length) = false := decide_eq_false (by omega); clear c41; have H' := aa.mk H; clear H; have GI : 0 ≤ (fI : Int) := of_decide_eq_true (by with_reducible assumption); have GY : fI < (bg.length : Int) := of_decide_eq_true (by with_reducible assumption); obtain ⟨GZ, A118_0, c118_0, e118, rR, xD, xh⟩ := wG uP.out fI GI GY; cases e118; replace rR := (HB.out.cell (World.block_lt_of_cell? w _ rR)).trans rR; have JA := aa.mk xh; have Q9 := aa.mk xD; clear xh xD; replace GI := eq_true GI; replace GY := eq_true GY; go_wp2; (go_loopg [68] k3 (fun kq v68 w' => ∃ (jB : Int), v68 = .int .i64 jB ∧ aa (aI.l2 kq bg (bg.length : Int) fI (cZ bg fI) ((cZ bg fI).length : Int) jB = some r) ∧ aa (kq ≤ k3) ∧ aa (w'.heap[kN]? = some (.cells #[(.slice eT aX.length eB), .int .i64 bv, .int .i64 bS, .int .i64 cO, (.slice (some GZ) bg.length dZ)] 25 (0, 0))) ∧ aa (Below w.heap.size w w'))); case atStart => exact ⟨(0), (by rfl), H', ⟨Nat.le_refl _⟩, ⟨by (with_reducible skip); exact gP.out⟩, ⟨by exact HB.out⟩⟩
                 case round =>
                  clear H' UZ aby abJ VN Ve rR GI GY; obtain ⟨jB, rfl, HA, HK4, gP, HB⟩ := hrel
                  cases gk with
                  | zero => exact absurd HA.out (by simp [aI.l2])
                  | succ k4 =>
                   have H := HA.out; clear HA; simp only [aI.l2] at H; by_cases c42 : jB < ((cZ bg fI).length : Int)
                   ·rw [if_pos c42] at H; have VQ : decide (jB < ((cZ bg fI).length : Int)) = true := decide_eq_true c42; clear c42; by_cases c43 : 0 ≤ jB
                    ·rw [if_pos c43] at H; have aae : decide (0 ≤ jB) = true := decide_eq_true c43; clear c43; by_cases c44 : jB < ((cZ bg fI).length : Int)
                     ·rw [if_pos c44] at H; have Y6 : decide (jB < ((cZ bg fI).length : Int)) = true := decide_eq_true c44; clear c44; replace H := Option.bind_eq_some_iff.mp H; obtain ⟨Qk, Zu, H⟩ := H; have A45 := aa.mk Zu; clear Zu; have XG := aa.mk H; clear H; have UE : 0 ≤ (jB : Int) := of_decide_eq_true (by with_reducible assumption); have Rn : jB < ((cZ bg fI).length : Int) := of_decide_eq_true (by with_reducible assumption); obtain ⟨agS, e119, Ad, zV⟩ := uN JA.out jB UE Rn; cases e119; replace Ad := (HB.out.cell (World.block_lt_of_cell? w _ Ad)).trans Ad; replace zV := (HB.out.cell (World.block_lt_of_cell? w _ zV)).trans zV; replace UE := eq_true UE; replace Rn := eq_true Rn; (go_upto_if 72 with (first | ((with_reducible refine dm (N := 9) rfl ?_); refine dE ?hg (N := 9) ?hd (cs := #[.int .i64 0, .int .i64 0]) (t := 27) ?hr ?_; (case hd => rfl); (case hg => rfl); (case hr => (go_simp; done)); intro GA hg w47 hbox hb; have Cv := aa.mk (hbox); have ahs := aa.mk ((by rw [hg]; exact (aH (by exact HB.out)) : w.heap.size ≤ GA)); have U4 := aa.mk ((by rw [hg]; exact (aH (by exact HB.out)) : w.heap.size ≤ GA)); replace HB := aa.mk (aC (by exact HB.out) hb); have nE := aa.mk ((by rw [hg]; exact Nat.ne_of_lt (bQ (g := kN) (o := .cells #[.slice eT aX.length eB, .int .i64 bv, .int .i64 bS, .int .i64 cO, .slice (some GZ) bg.length dZ] 25 (0, 0)) (bU gP.out)) : kN ≠ GA)); have vW := aa.mk ((by rw [hg]; exact Nat.ne_of_gt (bQ (g := kN) (o := .cells #[.slice eT aX.length eB, .int .i64 bv, .int .i64 bS, .int .i64 cO, .slice (some GZ) bg.length dZ] 25 (0, 0)) (bU gP.out)) : GA ≠ kN)); replace gP := aa.mk (au (bU gP.out) hb); clear hb hbox hg; have ag8 := vW.out; have agN := nE.out; obtain ⟨Uh, UR, Tw, Tn⟩ := lZ Cv.out) | ((with_reducible refine bM (f := 64) rfl ?_); refine eU (some 75) rfl rfl Try.func64 (by kernel_rfl) rfl #[.int .i64 ((dV (cZ bg fI) jB).f0), .int .i64 0, .int .i64 1023] rfl (by (simp only [List.map_toArray, List.map_cons, List.map_nil]); rfl) ?_; (with_reducible refine (dX.calls ((dV (cZ bg fI) jB).f0) 0 1023 Qk _ A45.out).mono ?_); rintro e w' ⟨rfl, ⟨nd, rfl⟩⟩; refine ⟨_, rfl, ?_⟩))); (skip); go_cut [72] (fun v72 wc => ∃ (kq : Nat) (EB : Bool), v72 = .bool EB ∧ aa (aI.j4 kq bg (bg.length : Int) fI (cZ bg fI) ((cZ bg fI).length : Int) jB EB ((dV (cZ bg fI) jB).f0) ((dV (cZ bg fI) jB).f1) = some r) ∧ aa (kq ≤ k4) ∧ aa (wc.heap[kN]? = some (.cells #[(.slice eT aX.length eB), .int .i64 bv, .int .i64 bS, .int .i64 cO, (.slice (some GZ) bg.length dZ)] 25 (0, 0))) ∧ aa (wc.heap[GA]? = some (.cells #[.int .i64 ((dV (cZ bg fI) jB).f0), .int .i64 ((dV (cZ bg fI) jB).f1)] 27 (0, 0))) ∧ aa (Below w.heap.size w wc))
                      case first =>
                       have H := XG.out; clear XG; by_cases c50 : Qk = true
                       ·subst c50; rw [if_pos rfl] at H; replace H := Option.bind_eq_some_iff.mp H; obtain ⟨Uv, NN, H⟩ := H; have A51 := aa.mk NN; clear NN; have H' := aa.mk H; clear H; have agR := vW.out; have ag3 := nE.out; obtain ⟨adt, ac8, acL, acM⟩ := lZ Cv.out; (go_wp2_with (((with_reducible refine bM (f := 64) rfl ?_); refine eU (some 79) rfl rfl Try.func64 (by kernel_rfl) rfl #[.int .i64 ((dV (cZ bg fI) jB).f1), .int .i64 0, .int .i64 1023] rfl (by (simp only [List.map_toArray, List.map_cons, List.map_nil]); rfl) ?_; (with_reducible refine (dX.calls ((dV (cZ bg fI) jB).f1) 0 1023 Uv _ A51.out).mono ?_); rintro e w' ⟨rfl, ⟨nd, rfl⟩⟩; refine ⟨_, rfl, ?_⟩))); go_meet; case rel => exact ⟨_, (!Uv), (by rfl), H', ⟨by have := HK1.out; have := HJ23.out; have := HK3.out; have := HK4.out; omega⟩, ⟨by (with_reducible repeat (refine eX ?_ _)); refine bu ?_ nE.out _; (with_reducible skip); refine bu ?_ nE.out _; (with_reducible skip); exact gP.out⟩, ⟨by (with_reducible repeat (refine eX ?_ _)); refine bP (cs := #[.int .i64 ((dV (cZ bg fI) jB).f0), .int .i64 0]) ?_ 1 _ rfl; (with_reducible skip); refine bP (cs := #[.int .i64 0, .int .i64 0]) ?_ 0 _ rfl; (with_reducible skip); exact Cv.out⟩, ⟨by repeat ((with_reducible first | exact HB.out | apply df | refine bZ ?_ U4.out))⟩⟩
                       ·replace c50 := Bool.eq_false_iff.mpr c50; subst c50; rw [if_neg (show ¬ (false = true) by decide)] at H; have H' := aa.mk H; clear H; go_wp2; go_meet; case rel => exact ⟨_, (!false), (by rfl), H', ⟨by have := HK1.out; have := HJ23.out; have := HK3.out; have := HK4.out; omega⟩, ⟨by (with_reducible repeat (refine eX ?_ _)); refine bu ?_ nE.out _; (with_reducible skip); refine bu ?_ nE.out _; (with_reducible skip); exact gP.out⟩, ⟨by (with_reducible repeat (refine eX ?_ _)); refine bP (cs := #[.int .i64 ((dV (cZ bg fI) jB).f0), .int .i64 0]) ?_ 1 _ rfl; (with_reducible skip); refine bP (cs := #[.int .i64 0, .int .i64 0]) ?_ 0 _ rfl; (with_reducible skip); exact Cv.out⟩, ⟨by repeat ((with_reducible first | exact HB.out | apply df | refine bZ ?_ U4.out))⟩⟩
                      case rest =>
                       clear XG VQ aae Y6 Uh UR Tw Tn Ad zV UE Rn; obtain ⟨kq, EB, rfl, HA, HJ45, gP, Cv, HB⟩ := hcut
                       cases kq with
                       | zero => exact absurd HA.out (by simp [aI.j4])
                       | succ kj45 =>
                        have H := HA.out; clear HA; simp only [aI.j4] at H; by_cases c54 : EB = true
                        ·subst c54; rw [if_pos rfl] at H; obtain rfl := Option.some.inj H; go_wp2
                         go_ret
                         exact ⟨by rfl, by exact HB.out⟩
                        ·replace c54 := Bool.eq_false_iff.mpr c54; subst c54; rw [if_neg (show ¬ (false = true) by decide)] at H; replace H := Option.bind_eq_some_iff.mp H; obtain ⟨Ep, MJ, H⟩ := H; have A55 := aa.mk MJ; clear MJ; by_cases c56 : Ep = 0
                         ·rw [if_pos c56] at H; have Z9 : (Ep == 0) = true := beq_iff_eq.mpr c56; have aaq : (Ep != 0) = false := bne_eq_false_iff_eq.mpr c56; clear c56; have H' := aa.mk H; clear H; have ahD := vW.out; have agZ := nE.out; obtain ⟨adX, adm, aca, ack⟩ := lZ Cv.out; (go_wp2_with (((with_reducible refine bM (f := 65) rfl ?_); refine eU (some 86) rfl rfl Try.func65 (by kernel_rfl) rfl #[.int .i64 ((dV (cZ bg fI) jB).f1), .int .i64 ((dV (cZ bg fI) jB).f0)] rfl (by (simp only [List.map_toArray, List.map_cons, List.map_nil]); rfl) ?_; (with_reducible refine (eY.calls ((dV (cZ bg fI) jB).f1) ((dV (cZ bg fI) jB).f0) Ep _ A55.out).mono ?_); rintro e w' ⟨rfl, ⟨nd, rfl⟩⟩; refine ⟨_, rfl, ?_⟩))); go_roundg kj45; (case measure => have := HK1.out; have := HJ23.out; have := HK3.out; have := HK4.out; have := HJ45.out; omega); case rel => exact ⟨(wrap64 (jB + 1)), (by rfl), H', ⟨by have := HK1.out; have := HJ23.out; have := HK3.out; have := HK4.out; have := HJ45.out; omega⟩, ⟨by (with_reducible repeat (refine eX ?_ _)); exact gP.out⟩, ⟨by exact lU HB.out⟩⟩
                         ·rw [if_neg c56] at H; have Z9 : (Ep == 0) = false := beq_eq_false_iff_ne.mpr c56; have aaq : (Ep != 0) = true := bne_iff_ne.mpr c56; obtain rfl := Option.some.inj H; have M9 := vW.out; have OG := nE.out; obtain ⟨ad1, acS, acy, adC⟩ := lZ Cv.out; go_wp2_with (((with_reducible refine bM (f := 65) rfl ?_); refine eU (some 86) rfl rfl Try.func65 (by kernel_rfl) rfl #[.int .i64 ((dV (cZ bg fI) jB).f1), .int .i64 ((dV (cZ bg fI) jB).f0)] rfl (by (simp only [List.map_toArray, List.map_cons, List.map_nil]); rfl) ?_; (with_reducible refine (eY.calls ((dV (cZ bg fI) jB).f1) ((dV (cZ bg fI) jB).f0) Ep _ A55.out).mono ?_); rintro e w' ⟨rfl, ⟨nd, rfl⟩⟩; refine ⟨_, rfl, ?_⟩))
                          go_ret
                          exact ⟨by rfl, by exact lU HB.out⟩
                     ·rw [if_neg c44] at H; exact absurd H (by simp)
                    ·rw [if_neg c43] at H; exact absurd H (by simp)
                   ·rw [if_neg c42] at H; have VQ : decide (jB < ((cZ bg fI).length : Int)) = false := decide_eq_false c42; clear c42; have H' := aa.mk H; clear H; go_wp2; go_roundg k4; (case measure => have := HK1.out; have := HJ23.out; have := HK3.out; have := HK4.out; omega); case rel => exact ⟨(wrap64 (fI + 1)), (by rfl), H', ⟨by have := HK1.out; have := HJ23.out; have := HK3.out; have := HK4.out; omega⟩, ⟨by (with_reducible skip); exact gP.out⟩, ⟨by exact HB.out⟩⟩
               ·rw [if_neg c40] at H; exact absurd H (by simp)
              ·rw [if_neg c39] at H; exact absurd H (by simp)
             ·rw [if_neg c38] at H; have UZ : decide (fI < (bg.length : Int)) = false := decide_eq_false c38; clear c38; obtain rfl := Option.some.inj H; go_wp2
              go_ret
              exact ⟨by rfl, by exact HB.out⟩
mutual
def cK.l0 : Nat → List (S27) → Int → Int → Bool → List (S27) → Int → Int → Option (Int × Int × Bool)
 | 0, _, _, _, _, _, _, _ => none
 | k + 1, x0, x2, x3, x4, x9, x10, x11 => if x11 < x10 then (if 0 ≤ x11 then (if x11 < (x9.length : Int) then (cK.l0 k x0 (Go.bits .or .i64 x2 ((dV x9 x11).f0)) (Go.bits .or .i64 x3 ((dV x9 x11).f1)) x4 x9 x10 (wrap64 (x11 + 1))) else (none)) else (none)) else (cK.l1 k x2 x3 x4 x0 (x0.length : Int) 0)
def cK.l1 : Nat → Int → Int → Bool → List (S27) → Int → Int → Option (Int × Int × Bool)
 | 0, _, _, _, _, _, _ => none
 | k + 1, x2, x3, x4, x24, x25, x26 => if x26 < x25 then (if 0 ≤ x26 then (if x26 < (x24.length : Int) then (if x4 = true then (cK.l1 k x2 x3 ((Go.bits .and .i64 x3 ((dV x24 x26).f0)) == ((dV x24 x26).f1)) x24 x25 (wrap64 (x26 + 1))) else (cK.l1 k x2 x3 false x24 x25 (wrap64 (x26 + 1)))) else (none)) else (none)) else (some (x2, x3, x4))
end
def cK.f (k : Nat) (l0 : List (S27)) : Option (Int × Int × Bool) := cK.l0 k l0 0 0 true l0 (l0.length : Int) 0
theorem cK.gM : ∀ k, (∀ y0 y1 y2 y3 y4 y5 y6, LeO (cK.l0 k y0 y1 y2 y3 y4 y5 y6) (cK.l0 (k + 1) y0 y1 y2 y3 y4 y5 y6)) ∧ (∀ y0 y1 y2 y3 y4 y5, LeO (cK.l1 k y0 y1 y2 y3 y4 y5) (cK.l1 (k + 1) y0 y1 y2 y3 y4 y5))
 | 0 => ⟨fun _ _ _ _ _ _ _ r h => by simp [cK.l0] at h, fun _ _ _ _ _ _ r h => by simp [cK.l1] at h⟩
 | k + 1 => by
  obtain ⟨ih0, ih1⟩ := cK.gM k; refine ⟨?_, ?_⟩
  ·intro y0 y1 y2 y3 y4 y5 y6; unfold cK.l0
   repeat' first | (with_reducible exact ih0 _ _ _ _ _ _ _) | (with_reducible exact ih1 _ _ _ _ _ _) | (with_reducible exact LeO.refl _) | (with_reducible refine LeO.ite ?_ ?_)
  ·intro y0 y1 y2 y3 y4 y5; unfold cK.l1
   repeat' first | (with_reducible exact ih1 _ _ _ _ _ _) | (with_reducible exact LeO.refl _) | (with_reducible refine LeO.ite ?_ ?_)
theorem cK.mono : ∀ a0 k, LeO (cK.f k a0) (cK.f (k + 1) a0) := by
 intro a0 k; obtain ⟨ih0, ih1⟩ := cK.gM k; unfold cK.f
 repeat' (with_reducible exact ih0 _ _ _ _ _ _ _)
set_option maxHeartbeats 8000000 in
set_option maxRecDepth 100000 in
theorem cK.calls (k : Nat) (A0 : Option Addr) (c0 : Nat) (l0 : List (S27)) (r1 : Int) (r2 : Int) (r3 : Bool) (w : World) (hr0 : Kd.C k27 w A0 l0.length l0) (hc0 : l0.length ≤ c0) (h : cK.f k l0 = some (r1, r2, r3)) :
 Calls Try.prog 82 #[.slice A0 l0.length c0] w fun e w' => e = .returned (.tuple #[.int .i64 r1, .int .i64 r2, .bool r3]) ∧ Below w.heap.size w w' := by
 have hu27 := Try.underlying27; have HR0 := aa.mk hr0; have HC0 := aa.mk hc0; clear hr0 hc0; have HB := aa.mk (Below.refl w.heap.size w); have H : (cK.l0 k l0 0 0 true l0 (l0.length : Int) 0) = some (r1, r2, r3) := h; clear h; have H' := aa.mk H; clear H; go_enter Try.func82, Try.ntmps82; go_wp2; (go_loopg [2, 3, 11] k (fun kq v2 v3 v11 w' => ∃ (Qi : Int) (LG : Int) (ky : Int), v2 = .int .i64 Qi ∧ v3 = .int .i64 LG ∧ v11 = .int .i64 ky ∧ aa (cK.l0 kq l0 Qi LG true l0 (l0.length : Int) ky = some (r1, r2, r3)) ∧ aa (kq ≤ k) ∧ aa (Below w.heap.size w w'))); case atStart => exact ⟨(0), (0), (0), (by rfl), (by rfl), (by rfl), H', ⟨Nat.le_refl _⟩, ⟨by exact HB.out⟩⟩
 case round =>
  clear H'; obtain ⟨Qi, LG, ky, rfl, rfl, rfl, HA, HK1, HB⟩ := hrel
  cases gk with
  | zero => exact absurd HA.out (by simp [cK.l0])
  | succ k1 =>
   have H := HA.out; clear HA; simp only [cK.l0] at H; by_cases c2 : ky < (l0.length : Int)
   ·rw [if_pos c2] at H; have Jv : decide (ky < (l0.length : Int)) = true := decide_eq_true c2; clear c2; by_cases c3 : 0 ≤ ky
    ·rw [if_pos c3] at H; have wu : decide (0 ≤ ky) = true := decide_eq_true c3; clear c3; by_cases c4 : ky < (l0.length : Int)
     ·rw [if_pos c4] at H; have CG : decide (ky < (l0.length : Int)) = true := decide_eq_true c4; clear c4; have H' := aa.mk H; clear H; have OT : 0 ≤ (ky : Int) := of_decide_eq_true (by with_reducible assumption); have Qz : ky < (l0.length : Int) := of_decide_eq_true (by with_reducible assumption); obtain ⟨afd, e1166, BI, Az⟩ := uN HR0.out ky OT Qz; cases e1166; replace BI := (HB.out.cell (World.block_lt_of_cell? w _ BI)).trans BI; replace Az := (HB.out.cell (World.block_lt_of_cell? w _ Az)).trans Az; replace OT := eq_true OT; replace Qz := eq_true Qz; (go_wp2_with (((with_reducible refine dm (N := 6) rfl ?_); refine dE ?hg (N := 6) ?hd (cs := #[.int .i64 0, .int .i64 0]) (t := 27) ?hr ?_; (case hd => rfl); (case hg => rfl); (case hr => (go_simp; done)); intro uF hg w5 hbox hb; have Cu := aa.mk (hbox); have NI := aa.mk ((by rw [hg]; exact (aH (by exact HB.out)) : w.heap.size ≤ uF)); have Ij := aa.mk ((by rw [hg]; exact (aH (by exact HB.out)) : w.heap.size ≤ uF)); replace HB := aa.mk (aC (by exact HB.out) hb); clear hb hbox hg; obtain ⟨yC, yS, yD, yP⟩ := lZ Cu.out))); (repeat (go_quiet (first | ((with_reducible refine dm (N := 6) rfl ?_); refine dE ?hg (N := 6) ?hd (cs := #[.int .i64 0, .int .i64 0]) (t := 27) ?hr ?_; (case hd => rfl); (case hg => rfl); (case hr => first | (go_simp; done) | (go_simp; rfl)); intro uF hg w5 hbox hb; have Cu := aa.mk (hbox); have NI := aa.mk ((by rw [hg]; exact (aH (by repeat (first | (with_reducible first | exact HB.out | apply ax | apply df | apply gI) | exact HB.out))) : w.heap.size ≤ uF)); have Ij := aa.mk ((by rw [hg]; exact (aH (by repeat (first | (with_reducible first | exact HB.out | apply ax | apply df | apply gI) | exact HB.out))) : w.heap.size ≤ uF)); replace HB := aa.mk (aC (by repeat (first | (with_reducible first | exact HB.out | apply ax | apply df | apply gI) | exact HB.out)) hb); clear hb hbox hg; obtain ⟨yC, yS, yD, yP⟩ := lZ Cu.out)); go_wp2_with (first | ((with_reducible refine dm (N := 6) rfl ?_); refine dE ?hg (N := 6) ?hd (cs := #[.int .i64 0, .int .i64 0]) (t := 27) ?hr ?_; (case hd => rfl); (case hg => rfl); (case hr => first | (go_simp; done) | (go_simp; rfl)); intro uF hg w5 hbox hb; have Cu := aa.mk (hbox); have NI := aa.mk ((by rw [hg]; exact (aH (by repeat (first | (with_reducible first | exact HB.out | apply ax | apply df | apply gI) | exact HB.out))) : w.heap.size ≤ uF)); have Ij := aa.mk ((by rw [hg]; exact (aH (by repeat (first | (with_reducible first | exact HB.out | apply ax | apply df | apply gI) | exact HB.out))) : w.heap.size ≤ uF)); replace HB := aa.mk (aC (by repeat (first | (with_reducible first | exact HB.out | apply ax | apply df | apply gI) | exact HB.out)) hb); clear hb hbox hg; obtain ⟨yC, yS, yD, yP⟩ := lZ Cu.out)))); go_roundg k1; (case measure => have := HK1.out; omega); case rel => exact ⟨(Go.bits .or .i64 Qi ((dV l0 ky).f0)), (Go.bits .or .i64 LG ((dV l0 ky).f1)), (wrap64 (ky + 1)), (by rfl), (by rfl), (by rfl), H', ⟨by have := HK1.out; omega⟩, ⟨by repeat ((with_reducible first | exact HB.out | apply df | refine bZ ?_ Ij.out))⟩⟩
     ·rw [if_neg c4] at H; exact absurd H (by simp)
    ·rw [if_neg c3] at H; exact absurd H (by simp)
   ·rw [if_neg c2] at H; have Jv : decide (ky < (l0.length : Int)) = false := decide_eq_false c2; clear c2; have H' := aa.mk H; clear H; go_wp2; (go_loopg [4, 26] k1 (fun kq v4 v26 w' => ∃ (TH : Bool) (nA : Int), v4 = .bool TH ∧ v26 = .int .i64 nA ∧ aa (cK.l1 kq Qi LG TH l0 (l0.length : Int) nA = some (r1, r2, r3)) ∧ aa (kq ≤ k1) ∧ aa (Below w.heap.size w w'))); case atStart => exact ⟨(true), (0), (by rfl), (by rfl), H', ⟨Nat.le_refl _⟩, ⟨by exact HB.out⟩⟩
    case round =>
     clear H' Jv; obtain ⟨TH, nA, rfl, rfl, HA, HK2, HB⟩ := hrel
     cases gk with
     | zero => exact absurd HA.out (by simp [cK.l1])
     | succ k2 =>
      have H := HA.out; clear HA; simp only [cK.l1] at H; by_cases c7 : nA < (l0.length : Int)
      ·rw [if_pos c7] at H; have PQ : decide (nA < (l0.length : Int)) = true := decide_eq_true c7; clear c7; by_cases c8 : 0 ≤ nA
       ·rw [if_pos c8] at H; have Np : decide (0 ≤ nA) = true := decide_eq_true c8; clear c8; by_cases c9 : nA < (l0.length : Int)
        ·rw [if_pos c9] at H; have WC : decide (nA < (l0.length : Int)) = true := decide_eq_true c9; clear c9; by_cases c10 : TH = true
         ·subst c10; rw [if_pos rfl] at H; have H' := aa.mk H; clear H; have BD : 0 ≤ (nA : Int) := of_decide_eq_true (by with_reducible assumption); have BR : nA < (l0.length : Int) := of_decide_eq_true (by with_reducible assumption); obtain ⟨XJ, e1168, qZ, qQ⟩ := uN HR0.out nA BD BR; cases e1168; replace qZ := (HB.out.cell (World.block_lt_of_cell? w _ qZ)).trans qZ; replace qQ := (HB.out.cell (World.block_lt_of_cell? w _ qQ)).trans qQ; replace BD := eq_true BD; replace BR := eq_true BR; (go_wp2_with (((with_reducible refine dm (N := 8) rfl ?_); refine dE ?hg (N := 8) ?hd (cs := #[.int .i64 0, .int .i64 0]) (t := 27) ?hr ?_; (case hd => rfl); (case hg => rfl); (case hr => (go_simp; done)); intro Ck hg w11 hbox hb; have Iy := aa.mk (hbox); have WQ := aa.mk ((by rw [hg]; exact (aH (by exact HB.out)) : w.heap.size ≤ Ck)); have G9 := aa.mk ((by rw [hg]; exact (aH (by exact HB.out)) : w.heap.size ≤ Ck)); replace HB := aa.mk (aC (by exact HB.out) hb); clear hb hbox hg; obtain ⟨D7, Ew, Ey, Er⟩ := lZ Iy.out))); go_roundg k2; (case measure => have := HK1.out; have := HK2.out; omega); case rel => exact ⟨(((Go.bits .and .i64 LG ((dV l0 nA).f0)) == ((dV l0 nA).f1))), (wrap64 (nA + 1)), (by rfl), (by rfl), H', ⟨by have := HK1.out; have := HK2.out; omega⟩, ⟨by repeat ((with_reducible first | exact HB.out | refine bZ ?_ G9.out))⟩⟩
         ·replace c10 := Bool.eq_false_iff.mpr c10; subst c10; rw [if_neg (show ¬ (false = true) by decide)] at H; have H' := aa.mk H; clear H; have BD : 0 ≤ (nA : Int) := of_decide_eq_true (by with_reducible assumption); have BR : nA < (l0.length : Int) := of_decide_eq_true (by with_reducible assumption); obtain ⟨XJ, e1168, qZ, qQ⟩ := uN HR0.out nA BD BR; cases e1168; replace qZ := (HB.out.cell (World.block_lt_of_cell? w _ qZ)).trans qZ; replace qQ := (HB.out.cell (World.block_lt_of_cell? w _ qQ)).trans qQ; replace BD := eq_true BD; replace BR := eq_true BR; (go_wp2_with (((with_reducible refine dm (N := 8) rfl ?_); refine dE ?hg (N := 8) ?hd (cs := #[.int .i64 0, .int .i64 0]) (t := 27) ?hr ?_; (case hd => rfl); (case hg => rfl); (case hr => (go_simp; done)); intro Ck hg w13 hbox hb; have Iy := aa.mk (hbox); have WQ := aa.mk ((by rw [hg]; exact (aH (by exact HB.out)) : w.heap.size ≤ Ck)); have G9 := aa.mk ((by rw [hg]; exact (aH (by exact HB.out)) : w.heap.size ≤ Ck)); replace HB := aa.mk (aC (by exact HB.out) hb); clear hb hbox hg; obtain ⟨Uc, Ta, QS, RQ⟩ := lZ Iy.out))); go_roundg k2; (case measure => have := HK1.out; have := HK2.out; omega); case rel => exact ⟨(false), (wrap64 (nA + 1)), (by rfl), (by rfl), H', ⟨by have := HK1.out; have := HK2.out; omega⟩, ⟨by repeat ((with_reducible first | exact HB.out | refine bZ ?_ G9.out))⟩⟩
        ·rw [if_neg c9] at H; exact absurd H (by simp)
       ·rw [if_neg c8] at H; exact absurd H (by simp)
      ·rw [if_neg c7] at H; have PQ : decide (nA < (l0.length : Int)) = false := decide_eq_false c7; clear c7; simp only [Option.some.injEq, Prod.mk.injEq] at H; obtain ⟨rfl, rfl, rfl⟩ := H; go_wp2
       go_ret3
       exact ⟨by rfl, by exact HB.out⟩
def jN.f (a0 : Int) : Option (Int) := some (Go.bits .and .i64 (wrap64 (IntKind.u64.wrap ((IntKind.u64.wrap ((IntKind.u64.wrap ((Go.bits .and .u64 (IntKind.u64.wrap (((IntKind.u64.wrap ((Go.bits .and .u64 ((IntKind.u64.wrap ((Go.bits .and .u64 (a0 / 2) 6148914691236517205) + (Go.bits .and .u64 a0 6148914691236517205))) / 4) 3689348814741910323) + (Go.bits .and .u64 (IntKind.u64.wrap ((Go.bits .and .u64 (a0 / 2) 6148914691236517205) + (Go.bits .and .u64 a0 6148914691236517205))) 3689348814741910323))) / 16) + (IntKind.u64.wrap ((Go.bits .and .u64 ((IntKind.u64.wrap ((Go.bits .and .u64 (a0 / 2) 6148914691236517205) + (Go.bits .and .u64 a0 6148914691236517205))) / 4) 3689348814741910323) + (Go.bits .and .u64 (IntKind.u64.wrap ((Go.bits .and .u64 (a0 / 2) 6148914691236517205) + (Go.bits .and .u64 a0 6148914691236517205))) 3689348814741910323))))) 1085102592571150095) + ((Go.bits .and .u64 (IntKind.u64.wrap (((IntKind.u64.wrap ((Go.bits .and .u64 ((IntKind.u64.wrap ((Go.bits .and .u64 (a0 / 2) 6148914691236517205) + (Go.bits .and .u64 a0 6148914691236517205))) / 4) 3689348814741910323) + (Go.bits .and .u64 (IntKind.u64.wrap ((Go.bits .and .u64 (a0 / 2) 6148914691236517205) + (Go.bits .and .u64 a0 6148914691236517205))) 3689348814741910323))) / 16) + (IntKind.u64.wrap ((Go.bits .and .u64 ((IntKind.u64.wrap ((Go.bits .and .u64 (a0 / 2) 6148914691236517205) + (Go.bits .and .u64 a0 6148914691236517205))) / 4) 3689348814741910323) + (Go.bits .and .u64 (IntKind.u64.wrap ((Go.bits .and .u64 (a0 / 2) 6148914691236517205) + (Go.bits .and .u64 a0 6148914691236517205))) 3689348814741910323))))) 1085102592571150095) / 256))) + ((IntKind.u64.wrap ((Go.bits .and .u64 (IntKind.u64.wrap (((IntKind.u64.wrap ((Go.bits .and .u64 ((IntKind.u64.wrap ((Go.bits .and .u64 (a0 / 2) 6148914691236517205) + (Go.bits .and .u64 a0 6148914691236517205))) / 4) 3689348814741910323) + (Go.bits .and .u64 (IntKind.u64.wrap ((Go.bits .and .u64 (a0 / 2) 6148914691236517205) + (Go.bits .and .u64 a0 6148914691236517205))) 3689348814741910323))) / 16) + (IntKind.u64.wrap ((Go.bits .and .u64 ((IntKind.u64.wrap ((Go.bits .and .u64 (a0 / 2) 6148914691236517205) + (Go.bits .and .u64 a0 6148914691236517205))) / 4) 3689348814741910323) + (Go.bits .and .u64 (IntKind.u64.wrap ((Go.bits .and .u64 (a0 / 2) 6148914691236517205) + (Go.bits .and .u64 a0 6148914691236517205))) 3689348814741910323))))) 1085102592571150095) + ((Go.bits .and .u64 (IntKind.u64.wrap (((IntKind.u64.wrap ((Go.bits .and .u64 ((IntKind.u64.wrap ((Go.bits .and .u64 (a0 / 2) 6148914691236517205) + (Go.bits .and .u64 a0 6148914691236517205))) / 4) 3689348814741910323) + (Go.bits .and .u64 (IntKind.u64.wrap ((Go.bits .and .u64 (a0 / 2) 6148914691236517205) + (Go.bits .and .u64 a0 6148914691236517205))) 3689348814741910323))) / 16) + (IntKind.u64.wrap ((Go.bits .and .u64 ((IntKind.u64.wrap ((Go.bits .and .u64 (a0 / 2) 6148914691236517205) + (Go.bits .and .u64 a0 6148914691236517205))) / 4) 3689348814741910323) + (Go.bits .and .u64 (IntKind.u64.wrap ((Go.bits .and .u64 (a0 / 2) 6148914691236517205) + (Go.bits .and .u64 a0 6148914691236517205))) 3689348814741910323))))) 1085102592571150095) / 256))) / 65536))) + ((IntKind.u64.wrap ((IntKind.u64.wrap ((Go.bits .and .u64 (IntKind.u64.wrap (((IntKind.u64.wrap ((Go.bits .and .u64 ((IntKind.u64.wrap ((Go.bits .and .u64 (a0 / 2) 6148914691236517205) + (Go.bits .and .u64 a0 6148914691236517205))) / 4) 3689348814741910323) + (Go.bits .and .u64 (IntKind.u64.wrap ((Go.bits .and .u64 (a0 / 2) 6148914691236517205) + (Go.bits .and .u64 a0 6148914691236517205))) 3689348814741910323))) / 16) + (IntKind.u64.wrap ((Go.bits .and .u64 ((IntKind.u64.wrap ((Go.bits .and .u64 (a0 / 2) 6148914691236517205) + (Go.bits .and .u64 a0 6148914691236517205))) / 4) 3689348814741910323) + (Go.bits .and .u64 (IntKind.u64.wrap ((Go.bits .and .u64 (a0 / 2) 6148914691236517205) + (Go.bits .and .u64 a0 6148914691236517205))) 3689348814741910323))))) 1085102592571150095) + ((Go.bits .and .u64 (IntKind.u64.wrap (((IntKind.u64.wrap ((Go.bits .and .u64 ((IntKind.u64.wrap ((Go.bits .and .u64 (a0 / 2) 6148914691236517205) + (Go.bits .and .u64 a0 6148914691236517205))) / 4) 3689348814741910323) + (Go.bits .and .u64 (IntKind.u64.wrap ((Go.bits .and .u64 (a0 / 2) 6148914691236517205) + (Go.bits .and .u64 a0 6148914691236517205))) 3689348814741910323))) / 16) + (IntKind.u64.wrap ((Go.bits .and .u64 ((IntKind.u64.wrap ((Go.bits .and .u64 (a0 / 2) 6148914691236517205) + (Go.bits .and .u64 a0 6148914691236517205))) / 4) 3689348814741910323) + (Go.bits .and .u64 (IntKind.u64.wrap ((Go.bits .and .u64 (a0 / 2) 6148914691236517205) + (Go.bits .and .u64 a0 6148914691236517205))) 3689348814741910323))))) 1085102592571150095) / 256))) + ((IntKind.u64.wrap ((Go.bits .and .u64 (IntKind.u64.wrap (((IntKind.u64.wrap ((Go.bits .and .u64 ((IntKind.u64.wrap ((Go.bits .and .u64 (a0 / 2) 6148914691236517205) + (Go.bits .and .u64 a0 6148914691236517205))) / 4) 3689348814741910323) + (Go.bits .and .u64 (IntKind.u64.wrap ((Go.bits .and .u64 (a0 / 2) 6148914691236517205) + (Go.bits .and .u64 a0 6148914691236517205))) 3689348814741910323))) / 16) + (IntKind.u64.wrap ((Go.bits .and .u64 ((IntKind.u64.wrap ((Go.bits .and .u64 (a0 / 2) 6148914691236517205) + (Go.bits .and .u64 a0 6148914691236517205))) / 4) 3689348814741910323) + (Go.bits .and .u64 (IntKind.u64.wrap ((Go.bits .and .u64 (a0 / 2) 6148914691236517205) + (Go.bits .and .u64 a0 6148914691236517205))) 3689348814741910323))))) 1085102592571150095) + ((Go.bits .and .u64 (IntKind.u64.wrap (((IntKind.u64.wrap ((Go.bits .and .u64 ((IntKind.u64.wrap ((Go.bits .and .u64 (a0 / 2) 6148914691236517205) + (Go.bits .and .u64 a0 6148914691236517205))) / 4) 3689348814741910323) + (Go.bits .and .u64 (IntKind.u64.wrap ((Go.bits .and .u64 (a0 / 2) 6148914691236517205) + (Go.bits .and .u64 a0 6148914691236517205))) 3689348814741910323))) / 16) + (IntKind.u64.wrap ((Go.bits .and .u64 ((IntKind.u64.wrap ((Go.bits .and .u64 (a0 / 2) 6148914691236517205) + (Go.bits .and .u64 a0 6148914691236517205))) / 4) 3689348814741910323) + (Go.bits .and .u64 (IntKind.u64.wrap ((Go.bits .and .u64 (a0 / 2) 6148914691236517205) + (Go.bits .and .u64 a0 6148914691236517205))) 3689348814741910323))))) 1085102592571150095) / 256))) / 65536))) / 4294967296)))) 127)
set_option maxHeartbeats 8000000 in
set_option maxRecDepth 100000 in
theorem jN.calls (a0 : Int) (r : Int) (w : World) (h : jN.f a0 = some r) :
 Calls Try.prog 100 #[.int .u64 a0] w fun e w' => e = .returned (.int .i64 r) ∧ dO w w' := by
 have H : (some (Go.bits .and .i64 (wrap64 (IntKind.u64.wrap ((IntKind.u64.wrap ((IntKind.u64.wrap ((Go.bits .and .u64 (IntKind.u64.wrap (((IntKind.u64.wrap ((Go.bits .and .u64 ((IntKind.u64.wrap ((Go.bits .and .u64 (a0 / 2) 6148914691236517205) + (Go.bits .and .u64 a0 6148914691236517205))) / 4) 3689348814741910323) + (Go.bits .and .u64 (IntKind.u64.wrap ((Go.bits .and .u64 (a0 / 2) 6148914691236517205) + (Go.bits .and .u64 a0 6148914691236517205))) 3689348814741910323))) / 16) + (IntKind.u64.wrap ((Go.bits .and .u64 ((IntKind.u64.wrap ((Go.bits .and .u64 (a0 / 2) 6148914691236517205) + (Go.bits .and .u64 a0 6148914691236517205))) / 4) 3689348814741910323) + (Go.bits .and .u64 (IntKind.u64.wrap ((Go.bits .and .u64 (a0 / 2) 6148914691236517205) + (Go.bits .and .u64 a0 6148914691236517205))) 3689348814741910323))))) 1085102592571150095) + ((Go.bits .and .u64 (IntKind.u64.wrap (((IntKind.u64.wrap ((Go.bits .and .u64 ((IntKind.u64.wrap ((Go.bits .and .u64 (a0 / 2) 6148914691236517205) + (Go.bits .and .u64 a0 6148914691236517205))) / 4) 3689348814741910323) + (Go.bits .and .u64 (IntKind.u64.wrap ((Go.bits .and .u64 (a0 / 2) 6148914691236517205) + (Go.bits .and .u64 a0 6148914691236517205))) 3689348814741910323))) / 16) + (IntKind.u64.wrap ((Go.bits .and .u64 ((IntKind.u64.wrap ((Go.bits .and .u64 (a0 / 2) 6148914691236517205) + (Go.bits .and .u64 a0 6148914691236517205))) / 4) 3689348814741910323) + (Go.bits .and .u64 (IntKind.u64.wrap ((Go.bits .and .u64 (a0 / 2) 6148914691236517205) + (Go.bits .and .u64 a0 6148914691236517205))) 3689348814741910323))))) 1085102592571150095) / 256))) + ((IntKind.u64.wrap ((Go.bits .and .u64 (IntKind.u64.wrap (((IntKind.u64.wrap ((Go.bits .and .u64 ((IntKind.u64.wrap ((Go.bits .and .u64 (a0 / 2) 6148914691236517205) + (Go.bits .and .u64 a0 6148914691236517205))) / 4) 3689348814741910323) + (Go.bits .and .u64 (IntKind.u64.wrap ((Go.bits .and .u64 (a0 / 2) 6148914691236517205) + (Go.bits .and .u64 a0 6148914691236517205))) 3689348814741910323))) / 16) + (IntKind.u64.wrap ((Go.bits .and .u64 ((IntKind.u64.wrap ((Go.bits .and .u64 (a0 / 2) 6148914691236517205) + (Go.bits .and .u64 a0 6148914691236517205))) / 4) 3689348814741910323) + (Go.bits .and .u64 (IntKind.u64.wrap ((Go.bits .and .u64 (a0 / 2) 6148914691236517205) + (Go.bits .and .u64 a0 6148914691236517205))) 3689348814741910323))))) 1085102592571150095) + ((Go.bits .and .u64 (IntKind.u64.wrap (((IntKind.u64.wrap ((Go.bits .and .u64 ((IntKind.u64.wrap ((Go.bits .and .u64 (a0 / 2) 6148914691236517205) + (Go.bits .and .u64 a0 6148914691236517205))) / 4) 3689348814741910323) + (Go.bits .and .u64 (IntKind.u64.wrap ((Go.bits .and .u64 (a0 / 2) 6148914691236517205) + (Go.bits .and .u64 a0 6148914691236517205))) 3689348814741910323))) / 16) + (IntKind.u64.wrap ((Go.bits .and .u64 ((IntKind.u64.wrap ((Go.bits .and .u64 (a0 / 2) 6148914691236517205) + (Go.bits .and .u64 a0 6148914691236517205))) / 4) 3689348814741910323) + (Go.bits .and .u64 (IntKind.u64.wrap ((Go.bits .and .u64 (a0 / 2) 6148914691236517205) + (Go.bits .and .u64 a0 6148914691236517205))) 3689348814741910323))))) 1085102592571150095) / 256))) / 65536))) + ((IntKind.u64.wrap ((IntKind.u64.wrap ((Go.bits .and .u64 (IntKind.u64.wrap (((IntKind.u64.wrap ((Go.bits .and .u64 ((IntKind.u64.wrap ((Go.bits .and .u64 (a0 / 2) 6148914691236517205) + (Go.bits .and .u64 a0 6148914691236517205))) / 4) 3689348814741910323) + (Go.bits .and .u64 (IntKind.u64.wrap ((Go.bits .and .u64 (a0 / 2) 6148914691236517205) + (Go.bits .and .u64 a0 6148914691236517205))) 3689348814741910323))) / 16) + (IntKind.u64.wrap ((Go.bits .and .u64 ((IntKind.u64.wrap ((Go.bits .and .u64 (a0 / 2) 6148914691236517205) + (Go.bits .and .u64 a0 6148914691236517205))) / 4) 3689348814741910323) + (Go.bits .and .u64 (IntKind.u64.wrap ((Go.bits .and .u64 (a0 / 2) 6148914691236517205) + (Go.bits .and .u64 a0 6148914691236517205))) 3689348814741910323))))) 1085102592571150095) + ((Go.bits .and .u64 (IntKind.u64.wrap (((IntKind.u64.wrap ((Go.bits .and .u64 ((IntKind.u64.wrap ((Go.bits .and .u64 (a0 / 2) 6148914691236517205) + (Go.bits .and .u64 a0 6148914691236517205))) / 4) 3689348814741910323) + (Go.bits .and .u64 (IntKind.u64.wrap ((Go.bits .and .u64 (a0 / 2) 6148914691236517205) + (Go.bits .and .u64 a0 6148914691236517205))) 3689348814741910323))) / 16) + (IntKind.u64.wrap ((Go.bits .and .u64 ((IntKind.u64.wrap ((Go.bits .and .u64 (a0 / 2) 6148914691236517205) + (Go.bits .and .u64 a0 6148914691236517205))) / 4) 3689348814741910323) + (Go.bits .and .u64 (IntKind.u64.wrap ((Go.bits .and .u64 (a0 / 2) 6148914691236517205) + (Go.bits .and .u64 a0 6148914691236517205))) 3689348814741910323))))) 1085102592571150095) / 256))) + ((IntKind.u64.wrap ((Go.bits .and .u64 (IntKind.u64.wrap (((IntKind.u64.wrap ((Go.bits .and .u64 ((IntKind.u64.wrap ((Go.bits .and .u64 (a0 / 2) 6148914691236517205) + (Go.bits .and .u64 a0 6148914691236517205))) / 4) 3689348814741910323) + (Go.bits .and .u64 (IntKind.u64.wrap ((Go.bits .and .u64 (a0 / 2) 6148914691236517205) + (Go.bits .and .u64 a0 6148914691236517205))) 3689348814741910323))) / 16) + (IntKind.u64.wrap ((Go.bits .and .u64 ((IntKind.u64.wrap ((Go.bits .and .u64 (a0 / 2) 6148914691236517205) + (Go.bits .and .u64 a0 6148914691236517205))) / 4) 3689348814741910323) + (Go.bits .and .u64 (IntKind.u64.wrap ((Go.bits .and .u64 (a0 / 2) 6148914691236517205) + (Go.bits .and .u64 a0 6148914691236517205))) 3689348814741910323))))) 1085102592571150095) + ((Go.bits .and .u64 (IntKind.u64.wrap (((IntKind.u64.wrap ((Go.bits .and .u64 ((IntKind.u64.wrap ((Go.bits .and .u64 (a0 / 2) 6148914691236517205) + (Go.bits .and .u64 a0 6148914691236517205))) / 4) 3689348814741910323) + (Go.bits .and .u64 (IntKind.u64.wrap ((Go.bits .and .u64 (a0 / 2) 6148914691236517205) + (Go.bits .and .u64 a0 6148914691236517205))) 3689348814741910323))) / 16) + (IntKind.u64.wrap ((Go.bits .and .u64 ((IntKind.u64.wrap ((Go.bits .and .u64 (a0 / 2) 6148914691236517205) + (Go.bits .and .u64 a0 6148914691236517205))) / 4) 3689348814741910323) + (Go.bits .and .u64 (IntKind.u64.wrap ((Go.bits .and .u64 (a0 / 2) 6148914691236517205) + (Go.bits .and .u64 a0 6148914691236517205))) 3689348814741910323))))) 1085102592571150095) / 256))) / 65536))) / 4294967296)))) 127)) = some r := h; clear h; obtain rfl := Option.some.inj H; go_enter Try.func100, Try.ntmps100; go_wp2
 go_ret
 exact ⟨by rfl, by exact dO.refl _⟩
def kW.f (a0 : Int) : Option (Int) := (jN.f a0).bind fun FD => (some FD)
set_option maxHeartbeats 8000000 in
set_option maxRecDepth 100000 in
theorem kW.calls (a0 : Int) (r : Int) (w : World) (h : kW.f a0 = some r) :
 Calls Try.prog 87 #[.int .u64 a0] w fun e w' => e = .returned (.int .i64 r) ∧ dO w w' := by
 have H : ((jN.f a0).bind fun FD => (some FD)) = some r := h; clear h; replace H := Option.bind_eq_some_iff.mp H; obtain ⟨FD, A20, H⟩ := H; have A2 := aa.mk A20; clear A20; obtain rfl := Option.some.inj H; go_enter Try.func87, Try.ntmps87; go_wp2_with (((with_reducible refine bM (f := 100) rfl ?_); refine eU (some 7) rfl rfl Try.func100 (by kernel_rfl) rfl #[.int .u64 a0] rfl (by (simp only [List.map_toArray, List.map_cons, List.map_nil]); rfl) ?_; (with_reducible refine (jN.calls a0 FD _ A2.out).mono ?_); rintro e w' ⟨rfl, ⟨nd, rfl⟩⟩; refine ⟨_, rfl, ?_⟩))
 go_ret
 exact ⟨by rfl, by repeat (first | exact dO.refl _ | apply dO.step)⟩
def gV.f (a0 : Int) : Option (Int) := (kW.f (IntKind.u64.wrap (a0))).bind fun Gi => (some Gi)
set_option maxHeartbeats 8000000 in
set_option maxRecDepth 100000 in
theorem gV.calls (a0 : Int) (r : Int) (w : World) (h : gV.f a0 = some r) :
 Calls Try.prog 83 #[.int .i64 a0] w fun e w' => e = .returned (.int .i64 r) ∧ dO w w' := by
 have H : ((kW.f (IntKind.u64.wrap (a0))).bind fun Gi => (some Gi)) = some r := h; clear h; replace H := Option.bind_eq_some_iff.mp H; obtain ⟨Gi, A20, H⟩ := H; have A2 := aa.mk A20; clear A20; obtain rfl := Option.some.inj H; go_enter Try.func83, Try.ntmps83; go_wp2_with (((with_reducible refine bM (f := 87) rfl ?_); refine eU (some 5) rfl rfl Try.func87 (by kernel_rfl) rfl #[.int .u64 (IntKind.u64.wrap (a0))] rfl (by (simp only [List.map_toArray, List.map_cons, List.map_nil]); rfl) ?_; (with_reducible refine (kW.calls (IntKind.u64.wrap (a0)) Gi _ A2.out).mono ?_); rintro e w' ⟨rfl, ⟨nd, rfl⟩⟩; refine ⟨_, rfl, ?_⟩))
 go_ret
 exact ⟨by rfl, by repeat (first | exact dO.refl _ | apply dO.step)⟩
end Go.Proofs.Ytihedeofkhapiaa.Pr
end
section
namespace Go.Proofs.Ytihedeofkhapiaa.Pr
open Go.RowKit Go.Proofs.YtihedeofkhapiaaW.PrintWords Go.Proofs.YtihedeofkhapiaaW.PrintLast Go.Proofs.YtihedeofkhapiaaW.PrintMore
theorem zf {i : Int} {n : Nat} (h0 : 0 ≤ i) (h : i < (n : Int)) (hn : n ≤ 9223372036854775807) : wrap64 (i + 1) = i + 1 := by
 unfold wrap64; omega
theorem kX {α : Type} (l : List α) (d : α) (i : Nat) (h : i < l.length) : l.drop i = l.getD i d :: l.drop (i + 1) := by
 rw [List.drop_eq_getElem_cons h]; simp [List.getD_eq_getElem?_getD, List.getElem?_eq_getElem h]
def seenStep (s : Int × Int) (x : S27) : Int × Int := (Go.bits .or .i64 s.1 x.f0, Go.bits .or .i64 s.2 x.f1)
def wE (l : List S27) : Int × Int := l.foldl seenStep (0, 0)
def vo (v : Int) (b : Bool) (x : S27) : Bool := if b = true then (Go.bits .and .i64 v x.f0 == x.f1) else false
def fP (l : List S27) : Int × Int × Bool := ((wE l).1, (wE l).2, l.foldl (vo (wE l).2) true)
theorem SY (l : List S27) (hl : l.length ≤ 9223372036854775807) (x2 x3 : Int) : ∀ (d k i : Nat) (b : Bool), i + d = l.length → d < k →
 cK.l1 k x2 x3 b l (l.length : Int) (i : Int) = some (x2, x3, (l.drop i).foldl (vo x3) b) := by
 intro d
 induction d with
 | zero =>
  intro k i b hi hk; obtain ⟨k, rfl⟩ : ∃ m, k = m + 1 := ⟨k - 1, by omega⟩; simp only [cK.l1]; rw [if_neg (by omega), List.drop_eq_nil_of_le (by omega)]; rfl
 | succ d ih =>
  intro k i b hi hk; obtain ⟨k, rfl⟩ : ∃ m, k = m + 1 := ⟨k - 1, by omega⟩; simp only [cK.l1]; rw [if_pos (by omega), if_pos (by omega), if_pos (by omega), zf (by omega) (by omega) hl, kX l z27 i (by omega)]; (have e : dV l (i : Int) = l.getD i z27 := by simp [dV]); rw [e, List.foldl_cons]; have hc : ((i : Int) + 1) = ((i + 1 : Nat) : Int) := by omega
  cases b with
  | true =>
   rw [if_pos rfl, hc, ih k (i + 1) _ (by omega) (by omega)]; simp [vo]
  | false =>
   rw [if_neg (by decide), hc, ih k (i + 1) _ (by omega) (by omega)]; simp [vo]
theorem RX (l : List S27) (hl : l.length ≤ 9223372036854775807) : ∀ (d k i : Nat) (s : Int × Int), i + d = l.length → l.length + d + 1 < k →
 cK.l0 k l s.1 s.2 true l (l.length : Int) (i : Int) = some (((l.drop i).foldl seenStep s).1, ((l.drop i).foldl seenStep s).2, l.foldl (vo ((l.drop i).foldl seenStep s).2) true) := by
 intro d
 induction d with
 | zero =>
  intro k i s hi hk; obtain ⟨k, rfl⟩ : ∃ m, k = m + 1 := ⟨k - 1, by omega⟩; simp only [cK.l0]; rw [if_neg (by omega), List.drop_eq_nil_of_le (show l.length ≤ i by omega)]; have := SY l hl s.1 s.2 l.length k 0 true (by omega) (by omega)
  simpa using this
 | succ d ih =>
  intro k i s hi hk; obtain ⟨k, rfl⟩ : ∃ m, k = m + 1 := ⟨k - 1, by omega⟩; simp only [cK.l0]; rw [if_pos (by omega), if_pos (by omega), if_pos (by omega), zf (by omega) (by omega) hl, kX l z27 i (by omega)]; (have e : dV l (i : Int) = l.getD i z27 := by simp [dV]); (have hc : ((i : Int) + 1) = ((i + 1 : Nat) : Int) := by omega); rw [e, hc, List.foldl_cons]; exact ih k (i + 1) (seenStep s (l.getD i z27)) (by omega) (by omega)
theorem XR (l : List S27) (hl : l.length ≤ 9223372036854775807) : cK.f (2 * l.length + 2) l = some (fP l) := by
 have := RX l hl l.length (2 * l.length + 2) 0 (0, 0) (by omega) (by omega)
 simpa [cK.f, fP, wE] using this
theorem Jb (A0 : Option Addr) (c0 : Nat) (l0 : List S27) (w : World) (hr0 : Kd.C k27 w A0 l0.length l0) (hc0 : l0.length ≤ c0) (hl : l0.length ≤ 9223372036854775807) :
 Calls Try.prog 82 #[.slice A0 l0.length c0] w fun e w' => e = .returned (.tuple #[.int .i64 (fP l0).1, .int .i64 (fP l0).2.1, .bool (fP l0).2.2]) ∧ Below w.heap.size w w' :=
 cK.calls _ A0 c0 l0 _ _ _ w hr0 hc0 (XR l0 hl)
def mO (a : Int) : Int := (gV.f a).getD 0
theorem Yi (a : Int) : gV.f a = some (mO a) := by
 obtain ⟨r, h⟩ : ∃ r, gV.f a = some r := by
  simp only [gV.f, kW.f, jN.f, Option.bind_some]; exact ⟨_, rfl⟩
 rw [mO, h]; rfl
theorem IL (a : Int) (w : World) : Calls Try.prog 83 #[.int .i64 a] w fun e w' => e = .returned (.int .i64 (mO a)) ∧ dO w w' :=
 gV.calls a _ w (Yi a)
def fJ (a b : Int) : Int := Go.bits .andNot .i64 a b
theorem Cy (a b : Int) (w : World) : Calls Try.prog 65 #[.int .i64 a, .int .i64 b] w fun e w' => e = .returned (.int .i64 (fJ a b)) ∧ dO w w' :=
 eY.calls a b _ w rfl
def inP (n lo hi : Int) : Bool := decide (lo ≤ n) && decide (n ≤ hi)
theorem ng {n lo hi : Int} : inP n lo hi = true ↔ lo ≤ n ∧ n ≤ hi := by simp [inP]
theorem II (n lo hi : Int) : dX.f n lo hi = some (inP n lo hi) := by
 unfold dX.f inP; split
 ·rename_i h; simp [h]
 ·rename_i h; simp [h]
def iM : Option Int → List S86 → Int
 | _, [] => 0
 | p, s :: r => if s.f0 < 65 ∨ s.f0 > 90 then 8 else if inP s.f1 1 1023 = true then (if (∃ q, p = some q ∧ s.f0 ≤ q) then 5 else iM (some s.f0) r) else 1
def kL (a b : Int) (l : List S86) : Int :=
 if inP a (-3000) 3000 = true ∧ inP b (-3000) 3000 = true then (if a > b then 5 else if l.length = 0 then 7 else if l.length > 8 then 6 else iM none l) else 1
def qm (l : List S86) (i : Nat) : Option Int := if i = 0 then none else some (l.getD (i - 1) z86).f0
theorem H7 (l : List S86) : qm l 0 = none := rfl
theorem wS (l : List S86) (i : Nat) : qm l (i + 1) = some (l.getD i z86).f0 := by simp [qm]
theorem Jk (l : List S86) (i : Nat) : ai l (i : Int) = l.getD i z86 := by simp [ai]
theorem LV (a b : Int) (l : List S86) (hl : l.length ≤ 8) : ∀ (d i : Nat), i + d = l.length → Ev (fun k => aA.l0 k l (l.length : Int) (i : Int) a b l) (iM (qm l i) (l.drop i)) := by
 intro d
 induction d with
 | zero =>
  intro i hi; refine Ev.step (f := fun _ => some 0) (fun k => ?_) ?_
  ·simp only [aA.l0]; rw [if_neg (by omega)]
  ·rw [List.drop_eq_nil_of_le (by omega)]; exact Ev.now 0
 | succ d ih =>
  intro i hi; (have hc : ((i : Int) + 1) = ((i + 1 : Nat) : Int) := by omega); refine Ev.step (f := fun k => aA.j2 k (i : Int) l (l.length : Int) (i : Int) (decide ((l.getD i z86).f0 < 65 ∨ (l.getD i z86).f0 > 90)) a b l (l.getD i z86).f0 (l.getD i z86).f1) (fun k => ?_) ?_
  ·simp only [aA.l0]; rw [if_pos (by omega), if_pos (by omega), if_pos (by omega), Jk]; by_cases h : (l.getD i z86).f0 < 65
   ·rw [if_pos h, decide_eq_true h, decide_eq_true (show (l.getD i z86).f0 < 65 ∨ (l.getD i z86).f0 > 90 from .inl h)]
   ·rw [if_neg h]; simp only [h, false_or]
  rw [kX l z86 i (by omega), iM]; by_cases h1 : (l.getD i z86).f0 < 65 ∨ (l.getD i z86).f0 > 90
  ·rw [if_pos h1]; refine Ev.step (f := fun _ => some 8) (fun k => ?_) (Ev.now 8); simp only [aA.j2, h1, decide_true, if_true]
  rw [if_neg h1]; by_cases h2 : inP (l.getD i z86).f1 1 1023 = true
  ·rw [if_pos h2]; by_cases h3 : i = 0
   ·subst h3; rw [if_neg (by simp [qm])]; refine Ev.step (f := fun k => aA.l0 k l (l.length : Int) ((0 + 1 : Nat) : Int) a b l) (fun k => ?_) ?_
    ·simp only [aA.j2, h1, decide_false, II, Option.bind_some, h2]; rw [if_neg (by decide), if_pos trivial, if_neg (by decide), show wrap64 (((0 : Nat) : Int) + 1) = ((0 + 1 : Nat) : Int) from by unfold wrap64; omega]
    ·have := ih 1 (by omega)
     rwa [wS] at this
   ·obtain ⟨j, rfl⟩ : ∃ j, i = j + 1 := ⟨i - 1, by omega⟩; rw [wS]; (have hw : wrap64 (((j + 1 : Nat) : Int) - 1) = (j : Int) := by unfold wrap64; omega); (have hw2 : wrap64 (((j + 1 : Nat) : Int) + 1) = ((j + 1 + 1 : Nat) : Int) := by unfold wrap64; omega); by_cases h4 : (l.getD (j + 1) z86).f0 ≤ (l.getD j z86).f0
    ·rw [if_pos ⟨_, rfl, h4⟩]; refine Ev.step (f := fun _ => some 5) (fun k => ?_) (Ev.now 5); simp only [aA.j2, h1, decide_false, II, Option.bind_some, h2, hw]; rw [if_neg (by decide), if_pos trivial, if_pos (by omega), if_pos (by omega), if_pos (by omega), Jk, if_pos h4]
    ·rw [if_neg (by rintro ⟨q, hq, h⟩; cases hq; exact h4 h)]; refine Ev.step (f := fun k => aA.l0 k l (l.length : Int) ((j + 1 + 1 : Nat) : Int) a b l) (fun k => ?_) ?_
     ·simp only [aA.j2, h1, decide_false, II, Option.bind_some, h2, hw, hw2]; rw [if_neg (by decide), if_pos trivial, if_pos (by omega), if_pos (by omega), if_pos (by omega), Jk, if_neg h4]
     ·have := ih (j + 1 + 1) (by omega)
      rwa [wS] at this
  ·rw [if_neg h2]; refine Ev.step (f := fun _ => some 1) (fun k => ?_) (Ev.now 1); simp only [aA.j2, h1, decide_false, II, Option.bind_some, h2]; rw [if_neg (by decide), if_neg (by simp)]
theorem RS (a b : Int) (l : List S86) : Ev (fun k => aA.f k a b l) (kL a b l) := by
 have hj : ∀ x, Ev (fun k => aA.j0 k x a b l) (if x = true then 1 else if a > b then 5 else if l.length = 0 then 7 else if l.length > 8 then 6 else iM none l) := by
  intro x; by_cases h1 : x = true
  ·rw [if_pos h1]; refine Ev.step (f := fun _ => some 1) (fun k => ?_) (Ev.now 1); simp only [aA.j0]; rw [if_pos h1]
  rw [if_neg h1]; by_cases h2 : a > b
  ·rw [if_pos h2]; refine Ev.step (f := fun _ => some 5) (fun k => ?_) (Ev.now 5); simp only [aA.j0]; rw [if_neg h1, if_pos h2]
  rw [if_neg h2]; by_cases h3 : l.length = 0
  ·rw [if_pos h3]; refine Ev.step (f := fun _ => some 7) (fun k => ?_) (Ev.now 7); simp only [aA.j0]; rw [if_neg h1, if_neg h2, if_pos (by omega)]
  rw [if_neg h3]; by_cases h4 : l.length > 8
  ·rw [if_pos h4]; refine Ev.step (f := fun _ => some 6) (fun k => ?_) (Ev.now 6); simp only [aA.j0]; rw [if_neg h1, if_neg h2, if_neg (by omega), if_pos (by omega)]
  rw [if_neg h4]; refine Ev.step (f := fun k => aA.l0 k l (l.length : Int) ((0 : Nat) : Int) a b l) (fun k => ?_) ?_
  ·simp only [aA.j0]; rw [if_neg h1, if_neg h2, if_neg (by omega), if_neg (by omega)]; rfl
  ·have := LV a b l (by omega) l.length 0 (by omega)
   simpa [H7] using this
 refine Ev.congr (f := fun k => aA.j0 k (!(inP a (-3000) 3000 && inP b (-3000) 3000)) a b l) (fun k => ?_) ?_
 ·simp only [aA.f, II, Option.bind_some]; by_cases h : inP a (-3000) 3000 = true
  ·rw [if_pos h, h, Bool.true_and]
  ·rw [if_neg h]; simp only [Bool.not_eq_true] at h; rw [h, Bool.false_and]
 ·have := hj (!(inP a (-3000) 3000 && inP b (-3000) 3000)); unfold kL; by_cases h : inP a (-3000) 3000 = true ∧ inP b (-3000) 3000 = true
  ·rw [if_pos h]; rw [h.1, h.2, Bool.and_self, Bool.not_true, if_neg (by decide)] at this; rw [h.1, h.2]; exact this
  ·rw [if_neg h]
   have hx : (inP a (-3000) 3000 && inP b (-3000) 3000) = false := by
    simp only [Bool.and_eq_false_iff]; by_cases h' : inP a (-3000) 3000 = true
    ·exact .inr (by simpa [h'] using h)
    ·exact .inl (by simpa using h')
   rw [hx, Bool.not_false, if_pos rfl] at this; rw [hx]; exact this
def iW : List S66 → Int
 | [] => 0
 | h :: r => if kL h.f0.f0 h.f0.f1 h.f1 = 0 then iW r else kL h.f0.f0 h.f0.f1 h.f1
def jW : List S27 → Int
 | [] => 0
 | x :: r => if inP x.f0 0 1023 = true ∧ inP x.f1 0 1023 = true then (if fJ x.f1 x.f0 = 0 then jW r else 2) else 1
def iQ : List (List S27) → Int
 | [] => 0
 | q :: r => if q.length > 4 then 6 else if jW q = 0 then iQ r else jW q
def dY (l0 : List S66) (a1 a2 a3 : Int) (l4 : List (List S27)) : Int :=
 if l0.length = 0 then 7 else if l0.length > 4 then 6 else if iW l0 = 0 then
  (if inP a1 0 10 = true ∧ inP a2 0 10 = true ∧ inP a3 0 40 = true then (if l4.length = 0 then 7 else if l4.length > 8 then 6 else iQ l4) else 1)
 else iW l0
theorem LH (l : List S66) (i : Nat) : ah l (i : Int) = l.getD i z66 := by simp [ah]
theorem aeO (l : List S27) (i : Nat) : dV l (i : Int) = l.getD i z27 := by simp [dV]
theorem Xp (l : List (List S27)) (i : Nat) : cZ l (i : Int) = l.getD i [] := by simp [cZ]
theorem xw (i n : Nat) (h : i < n) (hn : n ≤ 9223372036854775807) : wrap64 ((i : Int) + 1) = ((i + 1 : Nat) : Int) := by unfold wrap64; omega
theorem Iz (l : List (List S27)) (hl : l.length ≤ 8) : ∀ (d i : Nat), i + d = l.length → Ev (fun k => aI.l1 k l (l.length : Int) (i : Int)) (iQ (l.drop i)) := by
 intro d
 induction d with
 | zero =>
  intro i hi; refine Ev.step (f := fun _ => some 0) (fun k => ?_) ?_
  ·simp only [aI.l1]; rw [if_neg (by omega)]
  ·rw [List.drop_eq_nil_of_le (by omega)]; exact Ev.now 0
 | succ d ih =>
  intro i hi; rw [kX l [] i (by omega), iQ]; obtain ⟨q, hq⟩ : ∃ q, q = l.getD i [] := ⟨_, rfl⟩; rw [← hq]; by_cases h1 : q.length > 4
  ·rw [if_pos h1]; refine Ev.step (f := fun _ => some 6) (fun k => ?_) (Ev.now 6); simp only [aI.l1]; rw [if_pos (by omega), if_pos (by omega), if_pos (by omega), Xp, ← hq, if_pos (by omega)]
  rw [if_neg h1]
  have hin : ∀ (e j : Nat), j + e = q.length → Ev (fun k => aI.l2 k l (l.length : Int) (i : Int) q (q.length : Int) (j : Int)) (if jW (q.drop j) = 0 then iQ (l.drop (i + 1)) else jW (q.drop j)) := by
   intro e
   induction e with
   | zero =>
    intro j hj; refine Ev.step (f := fun k => aI.l1 k l (l.length : Int) ((i + 1 : Nat) : Int)) (fun k => ?_) ?_
    ·simp only [aI.l2]; rw [if_neg (by omega), xw i 8 (by omega) (by omega)]
    ·rw [List.drop_eq_nil_of_le (show q.length ≤ j by omega), jW, if_pos rfl]; exact ih (i + 1) (by omega)
   | succ e ih2 =>
    intro j hj; rw [kX q z27 j (by omega), jW]; obtain ⟨x, hx⟩ : ∃ x, x = q.getD j z27 := ⟨_, rfl⟩; rw [← hx]; refine Ev.step (f := fun k => aI.j4 k l (l.length : Int) (i : Int) q (q.length : Int) (j : Int) (!(inP x.f0 0 1023 && inP x.f1 0 1023)) x.f0 x.f1) (fun k => ?_) ?_
    ·simp only [aI.l2, II, Option.bind_some]; rw [if_pos (by omega), if_pos (by omega), if_pos (by omega), aeO, ← hx]; by_cases h : inP x.f0 0 1023 = true
     ·rw [if_pos h, h, Bool.true_and]
     ·rw [if_neg h]; simp only [Bool.not_eq_true] at h; rw [h, Bool.false_and]
    by_cases h : inP x.f0 0 1023 = true ∧ inP x.f1 0 1023 = true
    ·rw [if_pos h, h.1, h.2, Bool.and_self, Bool.not_true]; by_cases h5 : fJ x.f1 x.f0 = 0
     ·rw [if_pos h5]; refine Ev.step (f := fun k => aI.l2 k l (l.length : Int) (i : Int) q (q.length : Int) ((j + 1 : Nat) : Int)) (fun k => ?_) (ih2 (j + 1) (by omega)); simp only [aI.j4, eY.f, Option.bind_some]; rw [if_neg (by decide), if_pos (show Go.bits .andNot .i64 x.f1 x.f0 = 0 from h5), xw j 8 (by omega) (by omega)]
     ·rw [if_neg h5, if_neg (by decide)]; refine Ev.step (f := fun _ => some 2) (fun k => ?_) (Ev.now 2); simp only [aI.j4, eY.f, Option.bind_some]; rw [if_neg (by decide), if_neg (show ¬ Go.bits .andNot .i64 x.f1 x.f0 = 0 from h5)]
    ·rw [if_neg h, if_neg (by decide)]
     have hx : (inP x.f0 0 1023 && inP x.f1 0 1023) = false := by
      simp only [Bool.and_eq_false_iff]; by_cases h' : inP x.f0 0 1023 = true
      ·exact .inr (by simpa [h'] using h)
      ·exact .inl (by simpa using h')
     rw [hx, Bool.not_false]; refine Ev.step (f := fun _ => some 1) (fun k => ?_) (Ev.now 1); simp only [aI.j4]; rw [if_pos trivial]
  refine Ev.step (f := fun k => aI.l2 k l (l.length : Int) (i : Int) q (q.length : Int) ((0 : Nat) : Int)) (fun k => ?_) ?_
  ·simp only [aI.l1]; rw [if_pos (by omega), if_pos (by omega), if_pos (by omega), Xp, ← hq, if_neg (by omega)]; rfl
  ·have := hin q.length 0 (by omega)
   simpa using this
theorem OI (l0 : List S66) (a1 a2 a3 : Int) (l4 : List (List S27)) : Ev (fun k => aI.f k l0 a1 a2 a3 l4) (dY l0 a1 a2 a3 l4) := by
 unfold dY; by_cases h1 : l0.length = 0
 ·rw [if_pos h1]; refine Ev.congr (f := fun _ => some 7) (fun k => ?_) (Ev.now 7); simp only [aI.f]; rw [if_pos (by omega)]
 rw [if_neg h1]; by_cases h2 : l0.length > 4
 ·rw [if_pos h2]; refine Ev.congr (f := fun _ => some 6) (fun k => ?_) (Ev.now 6); simp only [aI.f]; rw [if_neg (by omega), if_pos (by omega)]
 rw [if_neg h2]
 have hj : ∀ x, Ev (fun k => aI.j1 k x l0 a1 a2 a3 l4) (if x = true then 1 else if l4.length = 0 then 7 else if l4.length > 8 then 6 else iQ l4) := by
  intro x; by_cases h3 : x = true
  ·rw [if_pos h3]; refine Ev.step (f := fun _ => some 1) (fun k => ?_) (Ev.now 1); simp only [aI.j1]; rw [if_pos h3]
  rw [if_neg h3]; by_cases h4 : l4.length = 0
  ·rw [if_pos h4]; refine Ev.step (f := fun _ => some 7) (fun k => ?_) (Ev.now 7); simp only [aI.j1]; rw [if_neg h3, if_pos (by omega)]
  rw [if_neg h4]; by_cases h5 : l4.length > 8
  ·rw [if_pos h5]; refine Ev.step (f := fun _ => some 6) (fun k => ?_) (Ev.now 6); simp only [aI.j1]; rw [if_neg h3, if_neg (by omega), if_pos (by omega)]
  rw [if_neg h5]; refine Ev.step (f := fun k => aI.l1 k l4 (l4.length : Int) ((0 : Nat) : Int)) (fun k => ?_) ?_
  ·simp only [aI.j1]; rw [if_neg h3, if_neg (by omega), if_neg (by omega)]; rfl
  ·have := Iz l4 (by omega) l4.length 0 (by omega)
   simpa using this
 have hl : ∀ (d i : Nat), i + d = l0.length → Ev (fun k => aI.l0 k l0 (l0.length : Int) (i : Int) l0 a1 a2 a3 l4) (if iW (l0.drop i) = 0 then
  (if inP a1 0 10 = true ∧ inP a2 0 10 = true ∧ inP a3 0 40 = true then (if l4.length = 0 then 7 else if l4.length > 8 then 6 else iQ l4) else 1) else iW (l0.drop i)) := by
  intro d
  induction d with
  | zero =>
   intro i hi; rw [List.drop_eq_nil_of_le (by omega), iW, if_pos rfl]; refine Ev.step (f := fun k => aI.j1 k (!(inP a1 0 10 && (inP a2 0 10 && inP a3 0 40))) l0 a1 a2 a3 l4) (fun k => ?_) ?_
   ·simp only [aI.l0, II, Option.bind_some]; rw [if_neg (by omega)]; by_cases h3 : inP a1 0 10 = true
    ·rw [if_pos h3, h3, Bool.true_and]; by_cases h4 : inP a2 0 10 = true
     ·rw [if_pos h4, h4, Bool.true_and]
     ·rw [if_neg h4]; simp only [Bool.not_eq_true] at h4; rw [h4, Bool.false_and]
    ·rw [if_neg h3]; simp only [Bool.not_eq_true] at h3; rw [h3, Bool.false_and]
   ·have := hj (!(inP a1 0 10 && (inP a2 0 10 && inP a3 0 40))); by_cases h : inP a1 0 10 = true ∧ inP a2 0 10 = true ∧ inP a3 0 40 = true
    ·rw [if_pos h]; rw [h.1, h.2.1, h.2.2] at this ⊢; exact this
    ·rw [if_neg h]
     have hx : (inP a1 0 10 && (inP a2 0 10 && inP a3 0 40)) = false := by
      rw [Bool.eq_false_iff]; intro hh; simp only [Bool.and_eq_true] at hh; exact h hh
     rw [hx] at this ⊢; exact this
  | succ d ih =>
   intro i hi; rw [kX l0 z66 i (by omega), iW]; refine Ev.step (f := fun k => (aA.f k (l0.getD i z66).f0.f0 (l0.getD i z66).f0.f1 (l0.getD i z66).f1).bind fun t => if t = 0 then aI.l0 k l0 (l0.length : Int) ((i + 1 : Nat) : Int) l0 a1 a2 a3 l4 else some t) (fun k => ?_) ?_
   ·simp only [aI.l0]; rw [if_pos (by omega), if_pos (by omega), if_pos (by omega), LH, xw i 8 (by omega) (by omega)]
   ·refine Ev.bind (RS _ _ _) ?_; by_cases h3 : kL (l0.getD i z66).f0.f0 (l0.getD i z66).f0.f1 (l0.getD i z66).f1 = 0
    ·simp only [h3, if_true]; exact ih (i + 1) (by omega)
    ·simp only [h3, if_false]; exact Ev.now _
 have := hl l0.length 0 (by omega); refine Ev.congr (f := fun k => aI.l0 k l0 (l0.length : Int) ((0 : Nat) : Int) l0 a1 a2 a3 l4) (fun k => ?_) (by simpa using this); simp only [aI.f]; rw [if_neg (by omega), if_neg (by omega)]; rfl
theorem lH {l0 : List S66} {a1 a2 a3 : Int} {l4 : List (List S27)} (h : dY l0 a1 a2 a3 l4 = 0) : 0 < l0.length ∧ l0.length ≤ 4 ∧ 0 < l4.length ∧ l4.length ≤ 8 ∧ iW l0 = 0 ∧ iQ l4 = 0 ∧ inP a1 0 10 = true ∧ inP a2 0 10 = true ∧ inP a3 0 40 = true := by
 unfold dY at h; split at h
 ·exact absurd h (by decide)
 split at h
 ·exact absurd h (by decide)
 split at h
 ·split at h
  ·split at h
   ·exact absurd h (by decide)
   split at h
   ·exact absurd h (by decide)
   ·rename_i h1 h2 h3 h4 h5 h6; exact ⟨by omega, by omega, by omega, by omega, h3, h, h4⟩
  ·exact absurd h (by decide)
 ·rename_i h1 h2 h3; exact absurd h h3
theorem C8 {l0 : List S66} (h : iW l0 = 0) : ∀ x ∈ l0, kL x.f0.f0 x.f0.f1 x.f1 = 0 := by
 induction l0 with
 | nil => intro x hx; cases hx
 | cons y r ih =>
  rw [iW] at h; split at h
  ·rename_i h1; intro x hx; rcases List.mem_cons.1 hx with rfl | hx
   ·exact h1
   ·exact ih h x hx
  ·rename_i h1; exact absurd h h1
theorem zy {a b : Int} {l : List S86} (h : kL a b l = 0) : inP a (-3000) 3000 = true ∧ inP b (-3000) 3000 = true ∧ a ≤ b ∧ 0 < l.length ∧ l.length ≤ 8 ∧ iM none l = 0 := by
 unfold kL at h; split at h
 ·rename_i h0; split at h
  ·exact absurd h (by decide)
  split at h
  ·exact absurd h (by decide)
  split at h
  ·exact absurd h (by decide)
  ·rename_i h1 h2 h3; exact ⟨h0.1, h0.2, by omega, by omega, by omega, h⟩
 ·exact absurd h (by decide)
theorem uk {l0 : List S66} (h : iW l0 = 0) : ∀ i : Nat, i < l0.length → (ah l0 (i : Int)).f1.length ≤ 8 := fun i hi => by
 rw [LH, List.getD_eq_getElem?_getD, List.getElem?_eq_getElem hi]; exact (zy (C8 h _ (List.getElem_mem hi))).2.2.2.2.1
theorem ze (eT : Option Addr) (eB : Nat) (aX : List (S66)) (bv : Int) (bS : Int) (cO : Int) (eG : Option Addr) (dZ : Nat) (bg : List (List (S27))) (w : World) (mV : Kd.C k66 w eT aX.length aX) (pO : aX.length ≤ eB) (mX : Kd.C (Kd.slice 27 k27) w eG bg.length bg) (pR : bg.length ≤ dZ) :
 Calls Try.prog 40 #[.agg #[.slice eT aX.length eB, .int .i64 bv, .int .i64 bS, .int .i64 cO, .slice eG bg.length dZ]] w fun e w' => e = .returned (.int .i64 (dY aX bv bS cO bg)) ∧ Below w.heap.size w w' := by
 obtain ⟨k, hk⟩ := (OI aX bv bS cO bg).rounds; exact aI.calls k eT eB aX bv bS cO eG dZ bg _ w mV pO mX pR hk
def EvI {α : Type} (g : Nat → Option α) (P : α → Prop) : Prop := ∃ r, Ev g r ∧ P r
theorem EvI.now {α : Type} {P : α → Prop} {r : α} (h : P r) : EvI (fun _ => some r) P := ⟨r, Ev.now r, h⟩
theorem EvI.step {α : Type} {g f : Nat → Option α} {P : α → Prop} (h : ∀ k, g (k + 1) = f k) (k : EvI f P) : EvI g P := by
 obtain ⟨r, hr, hp⟩ := k; exact ⟨r, Ev.step h hr, hp⟩
theorem EvI.bind {α β : Type} {g : Nat → Option α} {f : Nat → α → Option β} {P : α → Prop} {Q : β → Prop} (h : EvI g P) (k : ∀ a, P a → EvI (fun n => f n a) Q) : EvI (fun n => (g n).bind (f n)) Q := by
 obtain ⟨a, ha, hp⟩ := h; obtain ⟨r, hr, hq⟩ := k a hp; exact ⟨r, Ev.bind ha hr, hq⟩
theorem EvI.call {α β : Type} {o : Option α} {f : Nat → α → Option β} {a : α} {Q : β → Prop} (h : o = some a) (k : EvI (fun n => f n a) Q) : EvI (fun n => o.bind (f n)) Q := by
 subst h; exact k
theorem EvI.pos {α : Type} {c : Prop} [Decidable c] {g f : Nat → Option α} {P : α → Prop} (h : c) (k : EvI f P) : EvI (fun n => if c then f n else g n) P := by
 simp only [if_pos h]; exact k
theorem EvI.neg {α : Type} {c : Prop} [Decidable c] {g f : Nat → Option α} {P : α → Prop} (h : ¬ c) (k : EvI g P) : EvI (fun n => if c then f n else g n) P := by
 simp only [if_neg h]; exact k
theorem EvI.ite {α : Type} {c : Prop} [Decidable c] {g f : Nat → Option α} {P : α → Prop} (k1 : c → EvI f P) (k2 : ¬ c → EvI g P) : EvI (fun n => if c then f n else g n) P := by
 by_cases h : c
 ·exact EvI.pos h (k1 h)
 ·exact EvI.neg h (k2 h)
theorem EvI.rounds {α : Type} {g : Nat → Option α} {P : α → Prop} (h : EvI g P) : ∃ r, (∃ k, g k = some r) ∧ P r := by
 obtain ⟨r, hr, hp⟩ := h; exact ⟨r, hr.rounds, hp⟩
theorem ek {x : Int} (h0 : -9223372036854775808 ≤ x) (h1 : x < 9223372036854775808) : wrap64 x = x := by unfold wrap64; omega
theorem TC (a b : Int) : ∃ r x y, dU.f a b = some (r, x, y) ∧ 0 ≤ r := by
 unfold dU.f; split
 ·exact ⟨_, _, _, rfl, by simp only [IntKind.wrap, IntKind.bits, IntKind.signed, Bool.false_and, Bool.false_eq_true, if_false]; omega⟩
 ·exact ⟨_, _, _, rfl, by simp only [IntKind.wrap, IntKind.bits, IntKind.signed, Bool.false_and, Bool.false_eq_true, if_false]; omega⟩
theorem tQ (a b n : Int) (h1 : 1 ≤ n) (h2 : n ≤ 4611686018427387904) : ∃ v x y, aW.f a b n = some (v, x, y) ∧ 0 ≤ v ∧ v < n := by
 unfold aW.f; by_cases h : n < 2
 ·rw [if_pos h]; exact ⟨_, _, _, rfl, by omega, by omega⟩
 ·rw [if_neg h]; obtain ⟨r, x, y, hr, h0⟩ := TC a b; (have hw : IntKind.u64.wrap n = n := by simp only [IntKind.wrap, IntKind.bits, IntKind.signed, Bool.false_and, Bool.false_eq_true, if_false]; omega); rw [hr, Option.bind_some, hw, if_neg (by omega)]; have hm0 : 0 ≤ Int.tmod (r / 2048) n := Int.tmod_nonneg _ (by omega); have hm1 : Int.tmod (r / 2048) n < n := Int.tmod_lt_of_pos _ (by omega); refine ⟨_, _, _, rfl, ?_, ?_⟩
  ·simp only []; rw [ek (by omega) (by omega)]; exact hm0
  ·simp only []; rw [ek (by omega) (by omega)]; exact hm1
theorem wR (a b lo hi : Int) (h : lo ≤ hi) (h1 : -1000000 ≤ lo) (h2 : hi ≤ 1000000) : ∃ v x y, bW.f a b lo hi = some (v, x, y) ∧ lo ≤ v ∧ v ≤ hi := by
 unfold bW.f; rw [ek (x := hi - lo) (by omega) (by omega), ek (x := hi - lo + 1) (by omega) (by omega)]; obtain ⟨v, x, y, hv, h3, h4⟩ := tQ a b (hi - lo + 1) (by omega) (by omega); rw [hv, Option.bind_some]; refine ⟨_, _, _, rfl, ?_, ?_⟩ <;> (simp only []; rw [ek (by omega) (by omega)]; omega)
theorem Hy (a b n m : Int) (h1 : 1 ≤ m) (h2 : m ≤ 1000000) : ∃ v x y, dw.f a b n m = some (v, x, y) := by
 unfold dw.f; obtain ⟨v, x, y, hv, h3, h4⟩ := tQ a b m h1 (by omega); rw [hv, Option.bind_some]; exact ⟨_, _, _, rfl⟩
theorem CY (a b : Int) (l : List Int) (h1 : l ≠ []) (h2 : l.length ≤ 1000) : ∃ v x y, dJ.f a b l = some (v, x, y) ∧ v ∈ l := by
 have hl : 0 < l.length := List.length_pos_iff.2 h1; unfold dJ.f; rw [if_neg (by omega)]; obtain ⟨v, x, y, hv, h3, h4⟩ := tQ a b (l.length : Int) (by omega) (by omega); rw [hv, Option.bind_some]; simp only []; rw [if_pos h3, if_pos h4]; refine ⟨_, _, _, rfl, ?_⟩; obtain ⟨i, rfl⟩ := Int.eq_ofNat_of_zero_le h3; (have hi : i < l.length := by omega); (have : rd l (i : Int) = l[i] := by simp [rd, List.getD_eq_getElem?_getD, hi]); rw [this]; exact List.getElem_mem _
def Asc (l : List S86) : Prop := (∀ s ∈ l, 65 ≤ s.f0 ∧ s.f0 ≤ 90 ∧ 1 ≤ s.f1 ∧ s.f1 ≤ 31) ∧ l.Pairwise (fun a b => a.f0 < b.f0)
theorem Asc.shapes : ∀ {l : List S86} {p : Option Int}, Asc l → (∀ q, p = some q → ∀ s ∈ l, q < s.f0) → iM p l = 0
 | [], _, _, _ => by simp [iM]
 | s :: r, p, h, hp => by
  obtain ⟨h1, h2⟩ := h; have hs := h1 s List.mem_cons_self; rw [iM, if_neg (by omega), if_pos (ng.2 (by omega)), if_neg]
  ·exact Asc.shapes ⟨fun t ht => h1 t (List.mem_cons_of_mem _ ht), (List.pairwise_cons.1 h2).2⟩ (fun q hq t ht => by cases hq; exact (List.pairwise_cons.1 h2).1 t ht)
  ·rintro ⟨q, hq, hle⟩; have := hp q hq s List.mem_cons_self; omega
def nT (m : Int) (h : S66) : Prop := -600 ≤ h.f0.f0 ∧ h.f0.f0 ≤ h.f0.f1 ∧ h.f0.f1 ≤ 500 ∧ Asc h.f1 ∧ 0 < h.f1.length ∧ (h.f1.length : Int) ≤ m
theorem nT.valid {m : Int} {h : S66} (hg : nT m h) (hm : m ≤ 8) : kL h.f0.f0 h.f0.f1 h.f1 = 0 := by
 obtain ⟨h1, h2, h3, h4, h5, h6⟩ := hg; rw [kL, if_pos ⟨ng.2 (by omega), ng.2 (by omega)⟩, if_neg (by omega), if_neg (by omega), if_neg (by omega)]; exact h4.shapes (fun q hq => by cases hq)
theorem Re : ∀ (d : Nat) (x7 x8 a b lo hi : Int) (l : List S86), 0 ≤ x7 → x7 ≤ 26 → 0 ≤ x8 → x8 = (d : Int) → d ≤ 100 → l.length + d ≤ 200 → Asc l → (∀ s ∈ l, s.f0 < 65 + x7) →
 EvI (fun k => aJ.l0 k x7 x8 a b lo hi l) fun r => r.1 = lo ∧ r.2.1 = hi ∧ Asc r.2.2.1 ∧ l.length ≤ r.2.2.1.length ∧ (r.2.2.1.length : Int) ≤ l.length + x8 ∧ (0 < x8 → x7 < 26 → l.length < r.2.2.1.length) := by
 intro d
 induction d with
 | zero =>
  intro x7 x8 a b lo hi l h1 h2 h3 h4 hd hl ha hb; refine EvI.step (f := fun k => aJ.j1 k x7 x8 false a b lo hi l) (fun k => by rw [aJ.l0, if_neg (by omega)]) ?_; refine EvI.step (f := fun k => some (lo, hi, l, a, b)) (fun k => by rw [aJ.j1, if_neg (by simp)]) ?_; refine EvI.now ⟨rfl, rfl, ha, by simp, by simp; omega, fun h => by omega⟩
 | succ d ih =>
  intro x7 x8 a b lo hi l h1 h2 h3 h4 hd hl ha hb; refine EvI.step (f := fun k => aJ.j1 k x7 x8 (decide (x7 < 26)) a b lo hi l) (fun k => by rw [aJ.l0, if_pos (by omega)]) ?_; by_cases h26 : ¬ x7 < 26
  ·refine EvI.step (f := fun k => some (lo, hi, l, a, b)) (fun k => by rw [aJ.j1, if_neg (by simp; omega)]) ?_; refine EvI.now ⟨rfl, rfl, ha, by simp, by simp; omega, fun _ h => by omega⟩
  replace h26 := Decidable.of_not_not h26; obtain ⟨n, x, y, hn, h5, h6⟩ := tQ a b (mn 4 (wrap64 (26 - x7))) (by rw [ek (by omega) (by omega)]; unfold mn; split <;> omega) (by rw [ek (by omega) (by omega)]; unfold mn; split <;> omega)
  have h7 : n < 26 - x7 := by
   rw [ek (by omega) (by omega)] at h6; unfold mn at h6; split at h6 <;> omega
  obtain ⟨s, x', y', hs, h8, h9⟩ := wR x y 1 31 (by omega) (by omega) (by omega); have e1 : wrap64 (x7 + n) = x7 + n := ek (by omega) (by omega); (have e2 : wrap64 (65 + (x7 + n)) % 256 = 65 + x7 + n := by rw [ek (by omega) (by omega)]; omega); have e3 : wrap64 (x7 + n + 1) = x7 + n + 1 := ek (by omega) (by omega); have e4 : wrap64 (x8 - 1) = (d : Int) := by rw [ek (by omega) (by omega)]; omega
  refine EvI.step (f := fun k => aJ.l0 k (x7 + n + 1) (d : Int) x' y' lo hi (l ++ [⟨65 + x7 + n, s⟩])) (fun k => by
   rw [aJ.j1, if_pos (decide_eq_true h26), hn, Option.bind_some]; simp only []; rw [hs, Option.bind_some]; simp only []
   rw [if_pos (by omega), e1, e2, e3, e4]) ?_
  obtain ⟨r, hr, r1, r2, r3, r4, r5, r6⟩ := ih (x7 + n + 1) (d : Int) x' y' lo hi (l ++ [⟨65 + x7 + n, s⟩]) (by omega) (by omega) (by omega) rfl (by omega) (by simp; omega) (by
   refine ⟨fun t ht => ?_, ?_⟩
   ·rcases List.mem_append.1 ht with ht | ht
    ·exact ha.1 t ht
    ·rw [List.mem_singleton] at ht; subst ht; exact ⟨by simp only []; omega, by simp only []; omega, h8, h9⟩
   ·refine List.pairwise_append.2 ⟨ha.2, by simp, fun t ht u hu => ?_⟩; rw [List.mem_singleton] at hu; subst hu; have := hb t ht; simp only []
    omega) (fun t ht => by
    rcases List.mem_append.1 ht with ht | ht
    ·have := hb t ht; omega
    ·rw [List.mem_singleton] at ht; subst ht; simp only []
     omega)
  simp only [List.length_append, List.length_cons, List.length_nil] at r4 r5; refine ⟨r, hr, r1, r2, r3, by omega, by push_cast at r5; omega, fun _ _ => by omega⟩
theorem GN (a b m : Int) (h1 : 1 ≤ m) (h2 : m ≤ 100) : EvI (fun k => aJ.f k a b m) fun r => nT m ⟨⟨r.1, r.2.1⟩, r.2.2.1⟩ := by
 obtain ⟨lo, x, y, hlo, h3, h4⟩ := wR a b (-600) 300 (by omega) (by omega) (by omega); obtain ⟨u, x', y', hu, h5, h6⟩ := tQ x y 200 (by omega) (by omega); obtain ⟨n, x2, y2, hn, h7, h8⟩ := wR x' y' 1 m h1 (by omega) (by omega); have e : wrap64 (lo + u) = lo + u := ek (by omega) (by omega); obtain ⟨d, rfl⟩ := Int.eq_ofNat_of_zero_le (show 0 ≤ n by omega); obtain ⟨r, hr, r1, r2, r3, r4, r5, r6⟩ := Re d 0 (d : Int) x2 y2 lo (lo + u) [] (by omega) (by omega) (by omega) rfl (by omega) (by simp; omega) ⟨fun s hs => absurd hs List.not_mem_nil, List.Pairwise.nil⟩ (fun s hs => absurd hs List.not_mem_nil); have r7 := r6 (by omega) (by omega); simp only [List.length_nil] at r5 r7; simp only [aJ.f]; refine EvI.call hlo (EvI.call hu (EvI.call hn ?_)); simp only [e]; refine ⟨r, hr, ?_⟩; refine ⟨by simp only []; omega, by simp only []; omega, by simp only []; omega, r3, r7, by simp only []; omega⟩
abbrev zb := (List S66) × Int × Int × Int × (List (List S27)) × Int × ByteArray × List Int × Int × Int
def pM (x : S27) : Prop := inP x.f0 0 1023 = true ∧ inP x.f1 0 1023 = true ∧ fJ x.f1 x.f0 = 0
def oM (a1 a2 a3 : Int) (r : zb) : Prop :=
 (0 < r.1.length ∧ (r.1.length : Int) ≤ a1 ∧ ∀ h ∈ r.1, nT a2 h) ∧ (0 ≤ r.2.1 ∧ r.2.1 ≤ 2) ∧ (0 ≤ r.2.2.1 ∧ r.2.2.1 ≤ 2) ∧ (0 ≤ r.2.2.2.1 ∧ r.2.2.2.1 ≤ 40) ∧
  0 < r.2.2.2.2.1.length ∧ (r.2.2.2.2.1.length : Int) ≤ a3 ∧ ∀ q ∈ r.2.2.2.2.1, q.length ≤ 4 ∧ ∀ x ∈ q, pM x
theorem wrap_small {n : Nat} (h : n ≤ 1023) : IntKind.i64.wrap (n : Int) = (n : Int) := by
 have e : wrap64 (n : Int) = IntKind.i64.wrap (n : Int) := by
  simp only [IntKind.wrap, IntKind.bits, IntKind.signed, wrap64]; simp; split <;> omega
 rw [← e, ek (by omega) (by omega)]
theorem CO (x : BitVec 64) : BitVec.ofInt IntKind.i64.bits ((x.toNat : Nat) : Int) = x := by
 show BitVec.ofInt 64 ((x.toNat : Nat) : Int) = x; rw [BitVec.ofInt_natCast, BitVec.ofNat_toNat, BitVec.setWidth_eq]
theorem Df (v s : Int) (h0 : 0 ≤ s) (h1 : s ≤ 31) : pM ⟨s, Go.bits .and .i64 v s⟩ := by
 obtain ⟨n, rfl⟩ := Int.eq_ofNat_of_zero_le h0
 have hn : (BitVec.ofInt 64 ((n : Nat) : Int)).toNat = n := by
  rw [BitVec.ofInt_natCast, BitVec.toNat_ofNat]; exact Nat.mod_eq_of_lt (by omega)
 have hle : (BitVec.ofInt 64 v &&& BitVec.ofInt 64 ((n : Nat) : Int)).toNat ≤ 31 := by
  rw [BitVec.toNat_and, hn]; have := @Nat.and_le_right (BitVec.ofInt 64 v).toNat n; omega
 have hb : Go.bits .and .i64 v ((n : Nat) : Int) = ((BitVec.ofInt 64 v &&& BitVec.ofInt 64 ((n : Nat) : Int)).toNat : Int) := wrap_small (n := (BitVec.ofInt 64 v &&& BitVec.ofInt 64 ((n : Nat) : Int)).toNat) (by omega)
 have hz : (BitVec.ofInt 64 v &&& BitVec.ofInt 64 ((n : Nat) : Int)) &&& ~~~(BitVec.ofInt 64 ((n : Nat) : Int)) = (0 : BitVec 64) := by
  rw [BitVec.and_assoc]; simp
 refine ⟨ng.2 ⟨by simp only []; omega, by simp only []; omega⟩, ng.2 ⟨?_, ?_⟩, ?_⟩
 ·simp only []; rw [hb]; omega
 ·simp only []; rw [hb]; omega
 ·simp only []; rw [hb]; unfold fJ Go.bits; rw [CO]; exact congrArg (fun x : BitVec 64 => IntKind.i64.wrap (x.toNat : Int)) hz
theorem R7 (P : zb → Prop) (x13 : List S86) (x14 x15 x17 : Int) (hs : List S66) (w c t : Int) (sq : List (List S27)) (cut : Int) (txt : ByteArray) (vis : List Int) (y0 y1 : Int)
 (ht : txt.size ≤ 100000) (hv : vis.length ≤ 100000) (hq : sq.length ≤ 100000)
 (K : ∀ (q : List S27) (a b : Int), q.length ≤ 4 → (∀ x ∈ q, pM x) → EvI (fun k => ag.l1 k x13 x14 (wrap64 (x15 - 1)) a b hs w c t (sq ++ [q]) cut (txt ++ strOfNums [y0]) (vis ++ [x17])) P) :
 ∀ (d : Nat) (q : List S27) (a b : Int), q.length + d ≤ 4 → (∀ x ∈ q, pM x) → EvI (fun k => ag.l3 k x13 x14 x15 x17 q (d : Int) a b hs w c t sq cut txt vis y0 y1) P := by
 intro d
 induction d with
 | zero =>
  intro q a b hl hx; refine EvI.step (f := fun k => ag.l1 k x13 x14 (wrap64 (x15 - 1)) a b hs w c t (sq ++ [q]) cut (txt ++ strOfNums [y0]) (vis ++ [x17])) (fun k => ?_) (K q a b (by omega) hx); rw [ag.l3, if_neg (by omega)]; simp only [Option.bind_some]; have e : (strOfNums [y0]).size = 1 := rfl; rw [if_pos (by omega), if_pos (by simp; omega), if_pos (by simp; omega)]
 | succ d ih =>
  intro q a b hl hx; obtain ⟨u, x, y, hu, h3, h4⟩ := tQ a b 32 (by omega) (by omega); obtain ⟨s, x', y', hs', hm⟩ := CY x y [31, 15, u] (by simp) (by simp)
  have hs0 : 0 ≤ s ∧ s ≤ 31 := by
   simp only [List.mem_cons, List.not_mem_nil, or_false] at hm; omega
  (have e1 : wrap64 (((d + 1 : Nat) : Int) - 1) = (d : Int) := by rw [ek (by omega) (by omega)]; omega); refine EvI.step (f := fun k => ag.l3 k x13 x14 x15 x17 (q ++ [⟨s, Go.bits .and .i64 x17 s⟩]) (d : Int) x' y' hs w c t sq cut txt vis y0 y1) (fun k => ?_) (ih _ _ _ (by simp; omega) ?_)
  ·rw [ag.l3, if_pos (by omega), hu, Option.bind_some]; simp only []; rw [hs', Option.bind_some]; simp only [Option.bind_some]; rw [if_pos (by simp; omega), e1]
  ·intro z hz; rcases List.mem_append.1 hz with hz | hz
   ·exact hx z hz
   ·rw [List.mem_singleton] at hz; subst hz; exact Df _ _ hs0.1 hs0.2
theorem RA (P : zb → Prop) (x13 : List S86) (x15 : Int) (hs : List S66) (w c t : Int) (sq : List (List S27)) (cut : Int) (txt : ByteArray) (vis : List Int) (y0 y1 : Int) (m0 : Int) (h0 : 0 ≤ m0) (h1 : m0 ≤ 1000000)
 (K : ∀ (m v a b : Int) (n : Nat), 0 ≤ m → m ≤ m0 + 10 → n ≤ 4 → EvI (fun k => ag.l3 k x13 m x15 v [] (n : Int) a b hs w c t sq cut txt vis y0 y1) P) :
 ∀ (d : Nat) (i m v f g a b : Int), i + d = 5 → 0 ≤ i → 0 ≤ m → m ≤ m0 + 2 * i → EvI (fun k => ag.l2 k x13 m x15 v f g i a b hs w c t sq cut txt vis y0 y1) P := by
 intro d
 induction d with
 | zero =>
  intro i m v f g a b hi hi0 hm hm1; obtain ⟨n, x, y, hn, hmem⟩ := CY a b [0, 1, 1, 2, 3] (by simp) (by simp)
  have hn0 : 0 ≤ n ∧ n ≤ 3 := by
   simp only [List.mem_cons, List.not_mem_nil, or_false] at hmem; omega
  obtain ⟨j, rfl⟩ := Int.eq_ofNat_of_zero_le hn0.1; refine EvI.step (f := fun k => ag.l3 k x13 m x15 v [] (j : Int) x y hs w c t sq cut txt vis y0 y1) (fun k => ?_) (K m v x y j hm (by omega) (by omega)); rw [ag.l2, if_neg (by omega), hn, Option.bind_some]
 | succ d ih =>
  intro i m v f g a b hi hi0 hm hm1
  have J : ∀ (h o : Bool) (a b : Int), EvI (fun k => ag.j3 k x13 m x15 v f g i h o a b hs w c t sq cut txt vis y0 y1) P := by
   intro h o a b; have e1 : wrap64 (i + 1) = i + 1 := ek (by omega) (by omega); have e2 : wrap64 (m + 1) = m + 1 := ek (by omega) (by omega); have e3 : wrap64 (m + 1 + 1) = m + 1 + 1 := ek (by omega) (by omega); obtain ⟨p, x, y, hp⟩ := Hy a b 1 3 (by omega) (by omega); (have I0 : ∀ (v f g a b : Int), EvI (fun k => ag.l2 k x13 m x15 v f g (i + 1) a b hs w c t sq cut txt vis y0 y1) P := fun v f g a b => ih (i + 1) m v f g a b (by omega) (by omega) hm (by omega)); (have I1 : ∀ (v f g a b : Int), EvI (fun k => ag.l2 k x13 (m + 1) x15 v f g (i + 1) a b hs w c t sq cut txt vis y0 y1) P := fun v f g a b => ih (i + 1) (m + 1) v f g a b (by omega) (by omega) (by omega) (by omega)); (have I2 : ∀ (v f g a b : Int), EvI (fun k => ag.l2 k x13 (m + 1 + 1) x15 v f g (i + 1) a b hs w c t sq cut txt vis y0 y1) P := fun v f g a b => ih (i + 1) (m + 1 + 1) v f g a b (by omega) (by omega) (by omega) (by omega)); refine EvI.step (fun k => by rw [ag.j3, e1, e2, e3]) ?_; refine EvI.ite (fun _ => EvI.pos hi0 (EvI.ite (fun _ => I1 ..) (fun _ => EvI.ite (fun _ => EvI.call hp (EvI.ite (fun _ => I2 ..) (fun _ => I1 ..))) (fun _ => I1 ..)))) (fun _ => EvI.ite (fun _ => I0 ..) (fun _ => EvI.ite (fun _ => EvI.call hp (EvI.ite (fun _ => EvI.pos hi0 (I1 ..)) (fun _ => I0 ..))) (fun _ => I0 ..)))
  obtain ⟨p, x, y, hp⟩ := Hy a b 1 3 (by omega) (by omega); refine EvI.step (fun k => by rw [ag.l2, if_pos (by omega), if_pos hi0]) ?_; exact EvI.ite (fun _ => EvI.ite (fun _ => EvI.call hp (J ..)) (fun _ => J ..)) (fun _ => J ..)
theorem SB (a1 a2 a3 : Int) (x13 : List S86) (hx : 0 < x13.length) (hx' : x13.length ≤ 1000) (hs : List S66) (w c t : Int) (hh : 0 < hs.length ∧ (hs.length : Int) ≤ a1 ∧ ∀ h ∈ hs, nT a2 h) (hw : 0 ≤ w ∧ w ≤ 2) (hc : 0 ≤ c ∧ c ≤ 2) (cut : Int) :
 ∀ (d : Nat) (m a b : Int) (sq : List (List S27)) (txt : ByteArray) (vis : List Int), d ≤ 1000 → 0 ≤ m → m + 10 * d ≤ 100000 → ((sq.length : Int) + d ≤ a3) → (0 < sq.length + d) → txt.size + d ≤ 100000 → vis.length + d ≤ 100000 → sq.length + d ≤ 100000 → (∀ q ∈ sq, q.length ≤ 4 ∧ ∀ x ∈ q, pM x) →
  EvI (fun k => ag.l1 k x13 m (d : Int) a b hs w c t sq cut txt vis) (oM a1 a2 a3) := by
 intro d
 induction d with
 | zero =>
  intro m a b sq txt vis hd hm hm1 h3 h4 h5 h6 h7 hq; obtain ⟨n, x, y, hn, hmem⟩ := CY a b [0, 0, 1, 2] (by simp) (by simp)
  have hn0 : 0 ≤ n ∧ n ≤ 2 := by
   simp only [List.mem_cons, List.not_mem_nil, or_false] at hmem; omega
  refine EvI.step (f := fun k => some (hs, w, c, mn 40 (wrap64 (m + n)), sq, cut, txt, vis, x, y)) (fun k => ?_) (EvI.now ⟨hh, hw, hc, ?_, by simpa using h4, by simp only []; omega, hq⟩)
  ·rw [ag.l1, if_neg (by omega), hn, Option.bind_some]
  ·simp only []; rw [ek (by omega) (by omega)]; unfold mn; split <;> omega
 | succ d ih =>
  intro m a b sq txt vis hd hm hm1 h3 h4 h5 h6 h7 hq; obtain ⟨u, x, y, hu, h8, h9⟩ := tQ a b (x13.length : Int) (by omega) (by omega); have ew : wrap64 (w + 1) = w + 1 := ek (by omega) (by omega); have ec : wrap64 (c + 1) = c + 1 := ek (by omega) (by omega); obtain ⟨f, x1, y1, hf, _, _⟩ := tQ x y (w + 1) (by omega) (by omega); obtain ⟨g, x2, y2, hg, _, _⟩ := tQ x1 y1 (c + 1) (by omega) (by omega); refine EvI.step (f := fun k => ag.l2 k x13 m ((d + 1 : Nat) : Int) ((ai x13 u).f1) f g 0 x2 y2 hs w c t sq cut txt vis ((ai x13 u).f0) ((ai x13 u).f1)) (fun k => ?_) ?_
  ·rw [ag.l1, if_pos (by omega), hu, Option.bind_some]; simp only []; rw [if_pos h8, if_pos h9, ew, hf, Option.bind_some]; simp only []; rw [ec, hg, Option.bind_some]
  refine RA _ x13 _ hs w c t sq cut txt vis _ _ m hm (by omega) (fun m' v a b n hm0 hm1 hn => ?_) 5 0 m _ f g x2 y2 (by omega) (by omega) hm (by omega); refine R7 _ x13 m' _ v hs w c t sq cut txt vis _ _ (by omega) (by omega) (by omega) (fun q a b hq1 hq2 => ?_) n [] a b (by simpa using hn) (fun x hx => absurd hx List.not_mem_nil); (have e1 : wrap64 (((d + 1 : Nat) : Int) - 1) = (d : Int) := by rw [ek (by omega) (by omega)]; omega); rw [e1]; refine ih m' a b (sq ++ [q]) _ _ (by omega) hm0 (by omega) (by simp; omega) (by simp; omega) ?_ (by simp; omega) (by simp; omega) ?_
  ·have : (strOfNums [(ai x13 u).f0]).size = 1 := rfl; rw [ByteArray.size_append]; omega
  ·intro z hz; rcases List.mem_append.1 hz with hz | hz
   ·exact hq z hz
   ·rw [List.mem_singleton] at hz; subst hz; exact ⟨hq1, hq2⟩
theorem RB (a1 a2 a3 : Int) (h2 : 1 ≤ a2) (h2' : a2 ≤ 100) (h3 : 1 ≤ a3) (h3' : a3 ≤ 100) (w c : Int) (hw : 0 ≤ w ∧ w ≤ 2) (hc : 0 ≤ c ∧ c ≤ 2) :
 ∀ (d : Nat) (a b : Int) (hs : List S66), 0 < hs.length + d → (hs.length : Int) + d ≤ a1 → hs.length + d ≤ 1000 → (∀ h ∈ hs, nT a2 h) → EvI (fun k => ag.l0 k a2 a3 (d : Int) a b hs w c 0) (oM a1 a2 a3) := by
 intro d
 induction d with
 | zero =>
  intro a b hs h4 h5 h6 hh; obtain ⟨u, x, y, hu, h8, h9⟩ := tQ a b (hs.length : Int) (by omega) (by omega); obtain ⟨n, x1, y1, hn, h10, h11⟩ := wR x y 1 a3 h3 (by omega) (by omega); obtain ⟨j, rfl⟩ := Int.eq_ofNat_of_zero_le (show 0 ≤ n by omega)
  have hg := hh (ah hs u) (by
   obtain ⟨i, rfl⟩ := Int.eq_ofNat_of_zero_le h8; rw [LH, List.getD_eq_getElem?_getD, List.getElem?_eq_getElem (by omega)]
   exact List.getElem_mem _)
  refine EvI.step (f := fun k => ag.l1 k ((ah hs u).f1) 0 (j : Int) x1 y1 hs w c 0 [] u ⟨#[]⟩ []) (fun k => ?_) ?_
  ·rw [ag.l0, if_neg (by omega), hu, Option.bind_some]; simp only []; rw [if_pos h8, if_pos h9, hn, Option.bind_some]
  ·refine SB a1 a2 a3 _ hg.2.2.2.2.1 (by have := hg.2.2.2.2.2; omega) hs w c 0 ⟨by omega, by omega, hh⟩ hw hc u j 0 x1 y1 [] _ [] (by omega) (by omega) (by omega) (by simp; omega) (by simp; omega) ?_ (by simp; omega) (by simp; omega) (fun q hq => absurd hq List.not_mem_nil); have : (ByteArray.mk #[]).size = 0 := rfl; omega
 | succ d ih =>
  intro a b hs h4 h5 h6 hh; (have e1 : wrap64 (((d + 1 : Nat) : Int) - 1) = (d : Int) := by rw [ek (by omega) (by omega)]; omega); refine EvI.step (fun k => by rw [ag.l0, if_pos (by omega), e1]) ?_; refine EvI.bind (GN a b a2 h2 h2') (fun r hr => ?_); refine EvI.call rfl (EvI.pos ?_ ?_)
  ·simp; omega
  ·refine ih _ _ _ (by simp; omega) (by simp; omega) (by simp; omega) (fun h hm => ?_); rcases List.mem_append.1 hm with hm | hm
   ·exact hh h hm
   ·rw [List.mem_singleton] at hm; subst hm; exact hr
theorem Sn (a b a1 a2 a3 : Int) (h1 : 1 ≤ a1) (h1' : a1 ≤ 100) (h2 : 1 ≤ a2) (h2' : a2 ≤ 100) (h3 : 1 ≤ a3) (h3' : a3 ≤ 100) : EvI (fun k => ag.f k a b a1 a2 a3) (oM a1 a2 a3) := by
 obtain ⟨w, x, y, hw, h4, h5⟩ := tQ a b 3 (by omega) (by omega); obtain ⟨c, x1, y1, hc, h6, h7⟩ := tQ x y 3 (by omega) (by omega); obtain ⟨n, x2, y2, hn, h8, h9⟩ := wR x1 y1 1 a1 h1 (by omega) (by omega); obtain ⟨j, rfl⟩ := Int.eq_ofNat_of_zero_le (show 0 ≤ n by omega); simp only [ag.f]; refine EvI.call hw (EvI.call hc (EvI.call hn ?_)); exact RB a1 a2 a3 h2 h2' h3 h3' w c (by omega) (by omega) j x2 y2 [] (by simp; omega) (by simp; omega) (by simp; omega) (fun h hm => absurd hm List.not_mem_nil)
theorem Ct {m : Int} (hm : m ≤ 8) : ∀ {l : List S66}, (∀ h ∈ l, nT m h) → iW l = 0
 | [], _ => rfl
 | h :: r, hh => by
  rw [iW, if_pos ((hh h List.mem_cons_self).valid hm)]; exact Ct hm fun x hx => hh x (List.mem_cons_of_mem _ hx)
theorem zu : ∀ {l : List S27}, (∀ x ∈ l, pM x) → jW l = 0
 | [], _ => rfl
 | x :: r, hh => by
  have h := hh x List.mem_cons_self; rw [jW, if_pos ⟨h.1, h.2.1⟩, if_pos h.2.2]; exact zu fun x hx => hh x (List.mem_cons_of_mem _ hx)
theorem xA : ∀ {l : List (List S27)}, (∀ q ∈ l, q.length ≤ 4 ∧ ∀ x ∈ q, pM x) → iQ l = 0
 | [], _ => rfl
 | q :: r, hh => by
  have h := hh q List.mem_cons_self; rw [iQ, if_neg (by omega), if_pos (zu h.2)]; exact xA fun x hx => hh x (List.mem_cons_of_mem _ hx)
theorem oM.check {a1 a2 a3 : Int} {r : zb} (h : oM a1 a2 a3 r) (h1 : a1 ≤ 4) (h2 : a2 ≤ 8) (h3 : a3 ≤ 8) {t : Int} (h4 : 0 ≤ t) (h5 : t ≤ 40) {sq : List (List S27)} (h6 : sq.length = r.2.2.2.2.1.length) (h7 : ∀ q ∈ sq, q.length ≤ 4 ∧ ∀ x ∈ q, pM x) : dY r.1 r.2.1 r.2.2.1 t sq = 0 := by
 obtain ⟨⟨g1, g2, g3⟩, g4, g5, g6, g7, g8, g9⟩ := h; rw [dY, if_neg (by omega), if_neg (by omega), if_pos (Ct h2 g3), if_pos ⟨ng.2 (by omega), ng.2 (by omega), ng.2 (by omega)⟩, if_neg (by omega), if_neg (by omega)]; exact xA h7
set_option maxRecDepth 100000
theorem PS : ∀ a b : Fin 32, Go.bits .and .i64 (a.1 : Int) (b.1 : Int) = ((a.1 &&& b.1 : Nat) : Int) := by decide +kernel
theorem aah : ∀ a b : Fin 32, Go.bits .or .i64 (a.1 : Int) (b.1 : Int) = ((a.1 ||| b.1 : Nat) : Int) := by decide +kernel
theorem VW : ∀ a b : Fin 32, fJ (a.1 : Int) (b.1 : Int) = ((a.1 &&& (31 ^^^ b.1) : Nat) : Int) := by decide +kernel
def pop (a : Nat) : Nat := (a.testBit 0).toNat + (a.testBit 1).toNat + (a.testBit 2).toNat + (a.testBit 3).toNat + (a.testBit 4).toNat
theorem Ql : ∀ a : Fin 32, mO (a.1 : Int) = (pop a.1 : Int) := by decide +kernel
def lost (s v : Nat) : Nat := pop (s &&& (31 ^^^ v))
def made (s v : Nat) : Nat := pop (v &&& (31 ^^^ s))
theorem Yl : ∀ s v h : Fin 32, pop ((s.1 &&& h.1) &&& (31 ^^^ (v.1 &&& h.1))) ≤ lost s.1 v.1 ∧ pop ((v.1 &&& h.1) &&& (31 ^^^ s.1)) ≤ made s.1 v.1 := by decide +kernel
theorem Rq : ∀ (s : Fin 32) (i : Fin 5), Go.bits .and .i64 (shr .i64 (s.1 : Int) (i.1 : Int)) 1 = (if s.1.testBit i.1 then 1 else 0) := by decide +kernel
theorem Tk : ∀ (i : Fin 5), shl .i64 1 (i.1 : Int) = ((2 ^ i.1 : Nat) : Int) := by decide +kernel
def Agree (s v i : Nat) : Bool := (s ^^^ v) / 2 ^ i == 0
theorem Lg : ∀ (s v : Fin 32) (i : Fin 5), Agree s.1 v.1 i.1 = true → s.1.testBit i.1 = true → 2 ^ i.1 ≤ v.1 ∧ Agree s.1 (v.1 - 2 ^ i.1) (i.1 + 1) = true ∧ lost s.1 (v.1 - 2 ^ i.1) = lost s.1 v.1 + 1 ∧ made s.1 (v.1 - 2 ^ i.1) = made s.1 v.1 := by decide +kernel
theorem Lf : ∀ (s v : Fin 32) (i : Fin 5), Agree s.1 v.1 i.1 = true → s.1.testBit i.1 = false → v.1 + 2 ^ i.1 < 32 ∧ Agree s.1 (v.1 + 2 ^ i.1) (i.1 + 1) = true ∧ lost s.1 (v.1 + 2 ^ i.1) = lost s.1 v.1 ∧ made s.1 (v.1 + 2 ^ i.1) = made s.1 v.1 + 1 := by decide +kernel
theorem Ml : ∀ (s v : Fin 32) (i : Fin 5), Agree s.1 v.1 i.1 = true → Agree s.1 v.1 (i.1 + 1) = true := by decide +kernel
theorem Ht : ∀ s : Fin 32, Agree s.1 s.1 0 = true ∧ lost s.1 s.1 = 0 ∧ made s.1 s.1 = 0 := by decide +kernel
theorem VH : ∀ a b : Fin 32, a.1 ||| b.1 < 32 := by decide +kernel
theorem agq : ∀ a b c : Fin 32, a.1 &&& b.1 = a.1 → a.1 &&& (b.1 ||| c.1) = a.1 := by decide +kernel
theorem aei : ∀ a b : Fin 32, a.1 &&& (b.1 ||| a.1) = a.1 := by decide +kernel
theorem agk : ∀ v a b : Fin 32, (v.1 &&& a.1) ||| (v.1 &&& b.1) = v.1 &&& (a.1 ||| b.1) := by decide +kernel
theorem adR : ∀ v h x : Fin 32, x.1 &&& h.1 = x.1 → (v.1 &&& h.1) &&& x.1 = v.1 &&& x.1 := by decide +kernel
theorem Qr : ∀ a : Fin 32, pop a.1 ≤ 5 := by decide +kernel
def CQ (v : Nat) (x : S27) : Prop := ∃ a : Nat, a < 32 ∧ x = ⟨(a : Int), ((v &&& a : Nat) : Int)⟩
theorem CQ.ok {v : Nat} (hv : v < 32) {x : S27} (h : CQ v x) : pM x := by
 obtain ⟨a, ha, rfl⟩ := h; have := Df (v : Int) (a : Int) (by omega) (by omega); rw [PS ⟨v, hv⟩ ⟨a, ha⟩] at this; exact this
def fw (sh : List S86) (k : Nat) : Nat := (sh.getD k z86).f1.toNat
def Pm (W S : Int) (sh : List S86) (q : List S27) (m c : Int) : Prop :=
 ∃ k v : Nat, k < sh.length ∧ v < 32 ∧ (∀ x ∈ q, CQ v x) ∧ (lost (fw sh k) v : Int) ≤ W ∧ (made (fw sh k) v : Int) ≤ S ∧ ((lost (fw sh k) v : Int) + (made (fw sh k) v : Int)) ≤ m ∧ (sh.getD k z86).f0 = c
def wY (W S : Int) (sh : List S86) (sq : List (List S27)) (ms cs : List Int) : Prop := ms.length = sq.length ∧ cs.length = sq.length ∧ ∀ i (h : i < sq.length), Pm W S sh sq[i] (ms.getD i 0) (cs.getD i 0)
theorem wY.snoc {W S : Int} {sh : List S86} {sq : List (List S27)} {ms cs : List Int} (h : wY W S sh sq ms cs) {q : List S27} {m c : Int} (hq : Pm W S sh q m c) : wY W S sh (sq ++ [q]) (ms ++ [m]) (cs ++ [c]) := by
 obtain ⟨h1, h0, h2⟩ := h; refine ⟨by simp [h1], by simp [h0], fun i hi => ?_⟩; by_cases hi' : i < sq.length
 ·have e1 : (sq ++ [q])[i] = sq[i] := List.getElem_append_left hi'; (have e2 : (ms ++ [m]).getD i 0 = ms.getD i 0 := by simp [List.getD_eq_getElem?_getD, List.getElem?_append_left (show i < ms.length by omega)]); (have e3 : (cs ++ [c]).getD i 0 = cs.getD i 0 := by simp [List.getD_eq_getElem?_getD, List.getElem?_append_left (show i < cs.length by omega)]); rw [e1, e2, e3]; exact h2 i hi'
 ·(have e : i = sq.length := by simp at hi; omega); subst e; (have e1 : (sq ++ [q])[sq.length] = q := by simp); (have e2 : (ms ++ [m]).getD sq.length 0 = m := by rw [← h1]; simp [List.getD_eq_getElem?_getD]); (have e3 : (cs ++ [c]).getD sq.length 0 = c := by rw [← h0]; simp [List.getD_eq_getElem?_getD]); rw [e1, e2, e3]; exact hq
def Fx (sq : List (List S27)) (vis : List Int) : Prop := vis.length = sq.length ∧ ∀ i (h : i < sq.length), ∃ v : Nat, v < 32 ∧ vis.getD i 0 = (v : Int) ∧ ∀ x ∈ sq[i], CQ v x
theorem Fx.snoc {sq : List (List S27)} {vis : List Int} (h : Fx sq vis) {q : List S27} {v : Nat} (hv : v < 32) (hq : ∀ x ∈ q, CQ v x) : Fx (sq ++ [q]) (vis ++ [(v : Int)]) := by
 obtain ⟨h1, h2⟩ := h; refine ⟨by simp [h1], fun i hi => ?_⟩; by_cases hi' : i < sq.length
 ·have e1 : (sq ++ [q])[i] = sq[i] := List.getElem_append_left hi'; (have e2 : (vis ++ [(v : Int)]).getD i 0 = vis.getD i 0 := by simp [List.getD_eq_getElem?_getD, List.getElem?_append_left (show i < vis.length by omega)]); rw [e1, e2]; exact h2 i hi'
 ·(have e : i = sq.length := by simp at hi; omega); subst e; (have e1 : (sq ++ [q])[sq.length] = q := by simp); (have e2 : (vis ++ [(v : Int)]).getD sq.length 0 = v := by rw [← h1]; simp [List.getD_eq_getElem?_getD]); rw [e1]; exact ⟨v, hv, e2, hq⟩
def KM (r : zb) : Prop := 0 ≤ r.2.2.2.2.2.1 ∧ r.2.2.2.2.2.1 < (r.1.length : Int) ∧ ∃ ms cs : List Int, wY r.2.1 r.2.2.1 (ah r.1 r.2.2.2.2.2.1).f1 r.2.2.2.2.1 ms cs ∧ ms.sum ≤ r.2.2.2.1 ∧ r.2.2.2.2.2.2.1 = strOfNums cs ∧ Fx r.2.2.2.2.1 r.2.2.2.2.2.2.2.1
theorem Au (l : List Int) (y : Int) : strOfNums (l ++ [y]) = strOfNums l ++ strOfNums [y] := ByteArray.ext (by rw [ByteArray.data_append]; simp [strOfNums])
theorem Sz (P : zb → Prop) (x13 : List S86) (x14 x15 : Int) (v : Nat) (hv32 : v < 32) (hs : List S66) (w c t : Int) (sq : List (List S27)) (cut : Int) (txt : ByteArray) (vis : List Int) (y0 y1 : Int)
 (ht : txt.size ≤ 100000) (hv : vis.length ≤ 100000) (hq : sq.length ≤ 100000)
 (K : ∀ (q : List S27) (a b : Int), q.length ≤ 4 → (∀ x ∈ q, CQ v x) → EvI (fun k => ag.l1 k x13 x14 (wrap64 (x15 - 1)) a b hs w c t (sq ++ [q]) cut (txt ++ strOfNums [y0]) (vis ++ [(v : Int)])) P) :
 ∀ (d : Nat) (q : List S27) (a b : Int), q.length + d ≤ 4 → (∀ x ∈ q, CQ v x) → EvI (fun k => ag.l3 k x13 x14 x15 (v : Int) q (d : Int) a b hs w c t sq cut txt vis y0 y1) P := by
 intro d
 induction d with
 | zero =>
  intro q a b hl hx; refine EvI.step (f := fun k => ag.l1 k x13 x14 (wrap64 (x15 - 1)) a b hs w c t (sq ++ [q]) cut (txt ++ strOfNums [y0]) (vis ++ [(v : Int)])) (fun k => ?_) (K q a b (by omega) hx); rw [ag.l3, if_neg (by omega)]; simp only [Option.bind_some]; have e : (strOfNums [y0]).size = 1 := rfl; rw [if_pos (by omega), if_pos (by simp; omega), if_pos (by simp; omega)]
 | succ d ih =>
  intro q a b hl hx; obtain ⟨u, x, y, hu, h3, h4⟩ := tQ a b 32 (by omega) (by omega); obtain ⟨s, x', y', hs', hm⟩ := CY x y [31, 15, u] (by simp) (by simp)
  have hs0 : 0 ≤ s ∧ s ≤ 31 := by
   simp only [List.mem_cons, List.not_mem_nil, or_false] at hm; omega
  obtain ⟨n, rfl⟩ := Int.eq_ofNat_of_zero_le hs0.1; (have e1 : wrap64 (((d + 1 : Nat) : Int) - 1) = (d : Int) := by rw [ek (by omega) (by omega)]; omega); refine EvI.step (f := fun k => ag.l3 k x13 x14 x15 (v : Int) (q ++ [⟨(n : Int), Go.bits .and .i64 (v : Int) (n : Int)⟩]) (d : Int) x' y' hs w c t sq cut txt vis y0 y1) (fun k => ?_) (ih _ _ _ (by simp; omega) ?_)
  ·rw [ag.l3, if_pos (by omega), hu, Option.bind_some]; simp only []; rw [hs', Option.bind_some]; simp only [Option.bind_some]; rw [if_pos (by simp; omega), e1]
  ·intro z hz; rcases List.mem_append.1 hz with hz | hz
   ·exact hx z hz
   ·rw [List.mem_singleton] at hz; subst hz; exact ⟨n, by omega, by rw [PS ⟨v, hv32⟩ ⟨n, by omega⟩]⟩
theorem TF (P : zb → Prop) (x13 : List S86) (x15 : Int) (hs : List S66) (w c t : Int) (sq : List (List S27)) (cut : Int) (txt : ByteArray) (vis : List Int) (y0 : Int) (s : Nat) (hs32 : s < 32) (m0 w0 c0 : Int) (h0 : 0 ≤ m0) (h1 : m0 ≤ 1000000) (hw0 : w0 ≤ 100) (hc0 : c0 ≤ 100)
 (K : ∀ (v : Nat) (a b : Int) (n : Nat), v < 32 → (lost s v : Int) ≤ w0 → (made s v : Int) ≤ c0 → n ≤ 4 → EvI (fun k => ag.l3 k x13 (m0 + (lost s v : Int) + (made s v : Int)) x15 (v : Int) [] (n : Int) a b hs w c t sq cut txt vis y0 (s : Int)) P) :
 ∀ (d i v : Nat) (a b : Int), i + d = 5 → v < 32 → Agree s v i = true → (lost s v : Int) ≤ w0 → (made s v : Int) ≤ c0 →
  EvI (fun k => ag.l2 k x13 (m0 + (lost s v : Int) + (made s v : Int)) x15 (v : Int) (w0 - (lost s v : Int)) (c0 - (made s v : Int)) (i : Int) a b hs w c t sq cut txt vis y0 (s : Int)) P := by
 intro d
 induction d with
 | zero =>
  intro i v a b hi hv ha hl hm; obtain ⟨n, x, y, hn, hmem⟩ := CY a b [0, 1, 1, 2, 3] (by simp) (by simp)
  have hn0 : 0 ≤ n ∧ n ≤ 3 := by
   simp only [List.mem_cons, List.not_mem_nil, or_false] at hmem; omega
  obtain ⟨j, rfl⟩ := Int.eq_ofNat_of_zero_le hn0.1; refine EvI.step (f := fun k => ag.l3 k x13 (m0 + (lost s v : Int) + (made s v : Int)) x15 (v : Int) [] (j : Int) x y hs w c t sq cut txt vis y0 (s : Int)) (fun k => ?_) (K v x y j hv hl hm (by omega)); rw [ag.l2, if_neg (by omega), hn, Option.bind_some]
 | succ d ih =>
  intro i v a b hi hv ha hl hm; (have hi5 : i < 5 := by omega); (have e1 : wrap64 ((i : Int) + 1) = ((i + 1 : Nat) : Int) := by rw [ek (by omega) (by omega)]; omega); have esh := Tk ⟨i, hi5⟩; have ehas := Rq ⟨s, hs32⟩ ⟨i, hi5⟩; simp only [] at esh ehas; have same := Ml ⟨s, hs32⟩ ⟨v, hv⟩ ⟨i, hi5⟩ ha; obtain ⟨p, x, y, hp⟩ := Hy a b 1 3 (by omega) (by omega); have I0 : ∀ (a b : Int), EvI (fun k => ag.l2 k x13 (m0 + (lost s v : Int) + (made s v : Int)) x15 (v : Int) (w0 - (lost s v : Int)) (c0 - (made s v : Int)) ((i + 1 : Nat) : Int) a b hs w c t sq cut txt vis y0 (s : Int)) P := fun a b => ih (i + 1) v a b (by omega) hv same hl hm
  cases hb : s.testBit i with
  | true =>
   rw [hb, if_pos rfl] at ehas; obtain ⟨g1, g2, g3, g4⟩ := Lg ⟨s, hs32⟩ ⟨v, hv⟩ ⟨i, hi5⟩ ha hb; simp only [] at g1 g2 g3 g4; generalize hz : 2 ^ i = z at g1 g2 g3 g4 esh; have hz1 : 1 ≤ z := by rw [← hz]; exact Nat.one_le_two_pow
   have JF : ∀ (a b : Int), EvI (fun k => ag.j3 k x13 (m0 + (lost s v : Int) + (made s v : Int)) x15 (v : Int) (w0 - (lost s v : Int)) (c0 - (made s v : Int)) (i : Int) true false a b hs w c t sq cut txt vis y0 (s : Int)) P := fun a b => by
    refine EvI.step (fun k => ?_) (I0 a b); rw [ag.j3, if_neg (by simp), if_pos rfl, e1]
   have JT : (lost s v : Int) < w0 → ∀ (a b : Int), EvI (fun k => ag.j3 k x13 (m0 + (lost s v : Int) + (made s v : Int)) x15 (v : Int) (w0 - (lost s v : Int)) (c0 - (made s v : Int)) (i : Int) true true a b hs w c t sq cut txt vis y0 (s : Int)) P := fun hlt a b => by
    have q := ih (i + 1) (v - z) a b (by omega) (by omega) g2 (by rw [g3]; push_cast; omega) (by rw [g4]; exact hm); (have e2 : wrap64 (m0 + (lost s v : Int) + (made s v : Int) + 1) = m0 + (lost s (v - z) : Int) + (made s (v - z) : Int) := by rw [ek (by omega) (by omega), g3, g4]; push_cast; omega); (have e3 : wrap64 ((v : Int) - (z : Int)) = ((v - z : Nat) : Int) := by rw [ek (by omega) (by omega)]; omega); (have e4 : wrap64 (w0 - (lost s v : Int) - 1) = w0 - (lost s (v - z) : Int) := by rw [ek (by omega) (by omega), g3]; push_cast; omega); refine EvI.step (fun k => ?_) q; rw [ag.j3, if_pos rfl, if_pos (by omega), if_pos rfl, e1, e2, esh, e3, e4, g4]
   by_cases hf : w0 - (lost s v : Int) > 0
   ·cases p with
    | false =>
     refine EvI.step (fun k => ?_) (JF x y); rw [ag.l2, if_pos (by omega), if_pos (by omega), if_pos ehas, if_pos hf, hp, Option.bind_some, ehas]; rfl
    | true =>
     refine EvI.step (fun k => ?_) (JT (by omega) x y); rw [ag.l2, if_pos (by omega), if_pos (by omega), if_pos ehas, if_pos hf, hp, Option.bind_some, ehas]; rfl
   ·refine EvI.step (fun k => ?_) (JF a b); rw [ag.l2, if_pos (by omega), if_pos (by omega), if_pos ehas, if_neg hf, ehas]; rfl
  | false =>
   rw [hb, if_neg (by simp)] at ehas; obtain ⟨g1, g2, g3, g4⟩ := Lf ⟨s, hs32⟩ ⟨v, hv⟩ ⟨i, hi5⟩ ha hb; simp only [] at g1 g2 g3 g4; generalize hz : 2 ^ i = z at g1 g2 g3 g4 esh; have hz1 : 1 ≤ z := by rw [← hz]; exact Nat.one_le_two_pow
   have J : EvI (fun k => ag.j3 k x13 (m0 + (lost s v : Int) + (made s v : Int)) x15 (v : Int) (w0 - (lost s v : Int)) (c0 - (made s v : Int)) (i : Int) false false a b hs w c t sq cut txt vis y0 (s : Int)) P := by
    by_cases hg : c0 - (made s v : Int) > 0
    ·cases p with
     | false =>
      refine EvI.step (fun k => ?_) (I0 x y); rw [ag.j3, if_neg (by simp), if_neg (by simp), if_pos hg, hp, Option.bind_some, if_neg (by simp), e1]
     | true =>
      have q := ih (i + 1) (v + z) x y (by omega) g1 g2 (by rw [g3]; exact hl) (by rw [g4]; push_cast; omega); (have e2 : wrap64 (m0 + (lost s v : Int) + (made s v : Int) + 1) = m0 + (lost s (v + z) : Int) + (made s (v + z) : Int) := by rw [ek (by omega) (by omega), g3, g4]; push_cast; omega); (have e3 : wrap64 ((v : Int) + (z : Int)) = ((v + z : Nat) : Int) := by rw [ek (by omega) (by omega)]; omega); (have e4 : wrap64 (c0 - (made s v : Int) - 1) = c0 - (made s (v + z) : Int) := by rw [ek (by omega) (by omega), g4]; push_cast; omega); refine EvI.step (fun k => ?_) q; rw [ag.j3, if_neg (by simp), if_neg (by simp), if_pos hg, hp, Option.bind_some, if_pos rfl, if_pos (by omega), e1, e2, esh, e3, e4, g3]
    ·refine EvI.step (fun k => ?_) (I0 a b); rw [ag.j3, if_neg (by simp), if_neg (by simp), if_neg hg, e1]
   refine EvI.step (fun k => ?_) J; rw [ag.l2, if_pos (by omega), if_pos (by omega), if_neg (by rw [ehas]; decide), ehas]; rfl
theorem PV (ms : List Int) (m : Int) : (ms ++ [m]).sum = ms.sum + m := by simp [List.sum_append]
theorem TW (a1 a2 a3 : Int) (sh : List S86) (hx : 0 < sh.length) (hx' : sh.length ≤ 1000) (hasc : Asc sh) (hs : List S66) (w c t : Int) (hh : 0 < hs.length ∧ (hs.length : Int) ≤ a1 ∧ ∀ h ∈ hs, nT a2 h) (hw : 0 ≤ w ∧ w ≤ 2) (hc : 0 ≤ c ∧ c ≤ 2) (cut : Int) (hcut0 : 0 ≤ cut) (hcut1 : cut < (hs.length : Int)) (hsh : (ah hs cut).f1 = sh) (h8 : a3 ≤ 8) :
 ∀ (d : Nat) (m a b : Int) (sq : List (List S27)) (txt : ByteArray) (vis : List Int) (ms cs : List Int), 0 ≤ m → ms.sum ≤ m → m ≤ 4 * sq.length → ((sq.length : Int) + d ≤ a3) → (0 < sq.length + d) → txt.size + d ≤ 1000 → vis.length + d ≤ 1000 → (∀ q ∈ sq, q.length ≤ 4 ∧ ∀ x ∈ q, pM x) → wY w c sh sq ms cs → txt = strOfNums cs → Fx sq vis →
  EvI (fun k => ag.l1 k sh m (d : Int) a b hs w c t sq cut txt vis) (fun r => oM a1 a2 a3 r ∧ KM r) := by
 intro d
 induction d with
 | zero =>
  intro m a b sq txt vis ms cs hm hms hm1 h3 h4 h5 h6 hq hT htx hvs; obtain ⟨n, x, y, hn, hmem⟩ := CY a b [0, 0, 1, 2] (by simp) (by simp)
  have hn0 : 0 ≤ n ∧ n ≤ 2 := by
   simp only [List.mem_cons, List.not_mem_nil, or_false] at hmem; omega
  (have et : mn 40 (wrap64 (m + n)) = mn 40 (m + n) := by rw [ek (by omega) (by omega)]); refine EvI.step (f := fun k => some (hs, w, c, mn 40 (m + n), sq, cut, txt, vis, x, y)) (fun k => ?_) (EvI.now ⟨⟨hh, hw, hc, ?_, by simpa using h4, by simp only []; omega, hq⟩, hcut0, hcut1, ms, cs, ?_, ?_, htx, hvs⟩)
  ·rw [ag.l1, if_neg (by omega), hn, Option.bind_some, et]
  ·simp only []; unfold mn; split <;> omega
  ·simp only []; rw [hsh]; exact hT
  ·simp only []; unfold mn; split <;> omega
 | succ d ih =>
  intro m a b sq txt vis ms cs hm hms hm1 h3 h4 h5 h6 hq hT htx hvs; obtain ⟨u, x, y, hu, h9, h10⟩ := tQ a b (sh.length : Int) (by omega) (by omega); have ew : wrap64 (w + 1) = w + 1 := ek (by omega) (by omega); have ec : wrap64 (c + 1) = c + 1 := ek (by omega) (by omega); obtain ⟨f, x1, y1, hf, hf0, hf1⟩ := tQ x y (w + 1) (by omega) (by omega); obtain ⟨g, x2, y2, hg, hg0, hg1⟩ := tQ x1 y1 (c + 1) (by omega) (by omega); obtain ⟨i, rfl⟩ := Int.eq_ofNat_of_zero_le h9; have hi : i < sh.length := by omega
  have hmem : sh.getD i z86 ∈ sh := by
   rw [List.getD_eq_getElem?_getD, List.getElem?_eq_getElem hi]; exact List.getElem_mem _
  have hst := hasc.1 _ hmem; (have hs32 : fw sh i < 32 := by unfold fw; omega); (have es : (sh.getD i z86).f1 = (fw sh i : Int) := by unfold fw; omega); have hself := Ht ⟨fw sh i, hs32⟩; simp only [] at hself; refine EvI.step (f := fun k => ag.l2 k sh (m + (lost (fw sh i) (fw sh i) : Int) + (made (fw sh i) (fw sh i) : Int)) ((d + 1 : Nat) : Int) (fw sh i : Int) (f - (lost (fw sh i) (fw sh i) : Int)) (g - (made (fw sh i) (fw sh i) : Int)) ((0 : Nat) : Int) x2 y2 hs w c t sq cut txt vis ((sh.getD i z86).f0) (fw sh i : Int)) (fun k => ?_) ?_
  ·rw [ag.l1, if_pos (by omega), hu, Option.bind_some]; simp only []; rw [if_pos h9, if_pos h10, ew, hf, Option.bind_some]; simp only []; rw [ec, hg, Option.bind_some, Jk, es, hself.2.1, hself.2.2]; simp
  refine TF _ sh _ hs w c t sq cut txt vis _ (fw sh i) hs32 m f g hm (by omega) (by omega) (by omega) (fun v a b n hv hl hm' hn => ?_) 5 0 (fw sh i) x2 y2 (by omega) hs32 hself.1 (by rw [hself.2.1]; exact hf0) (by rw [hself.2.2]; exact hg0); refine Sz _ sh _ _ v hv hs w c t sq cut txt vis _ _ (by omega) (by omega) (by omega) (fun q a b hq1 hq2 => ?_) n [] a b (by simpa using hn) (fun x hx => absurd hx List.not_mem_nil); (have e1 : wrap64 (((d + 1 : Nat) : Int) - 1) = (d : Int) := by rw [ek (by omega) (by omega)]; omega); rw [e1]; refine ih _ a b (sq ++ [q]) _ _ (ms ++ [(lost (fw sh i) v : Int) + (made (fw sh i) v : Int)]) (cs ++ [(sh.getD i z86).f0]) (by omega) (by rw [PV]; omega) (by simp; omega) (by simp; omega) (by simp; omega) ?_ (by simp; omega) ?_ (hT.snoc ⟨i, v, hi, hv, hq2, by omega, by omega, Int.le_refl _, rfl⟩) (by rw [htx, Au]) (hvs.snoc hv hq2)
  ·have : (strOfNums [(sh.getD i z86).f0]).size = 1 := rfl; rw [ByteArray.size_append]; omega
  ·intro z hz; rcases List.mem_append.1 hz with hz | hz
   ·exact hq z hz
   ·rw [List.mem_singleton] at hz; subst hz; exact ⟨hq1, fun x hx => (hq2 x hx).ok hv⟩
theorem TS (a1 a2 a3 : Int) (h2 : 1 ≤ a2) (h2' : a2 ≤ 100) (h3 : 1 ≤ a3) (h3' : a3 ≤ 8) (w c : Int) (hw : 0 ≤ w ∧ w ≤ 2) (hc : 0 ≤ c ∧ c ≤ 2) :
 ∀ (d : Nat) (a b : Int) (hs : List S66), 0 < hs.length + d → (hs.length : Int) + d ≤ a1 → hs.length + d ≤ 1000 → (∀ h ∈ hs, nT a2 h) → EvI (fun k => ag.l0 k a2 a3 (d : Int) a b hs w c 0) (fun r => oM a1 a2 a3 r ∧ KM r) := by
 intro d
 induction d with
 | zero =>
  intro a b hs h4 h5 h6 hh; obtain ⟨u, x, y, hu, h8, h9⟩ := tQ a b (hs.length : Int) (by omega) (by omega); obtain ⟨n, x1, y1, hn, h10, h11⟩ := wR x y 1 a3 h3 (by omega) (by omega); obtain ⟨j, rfl⟩ := Int.eq_ofNat_of_zero_le (show 0 ≤ n by omega)
  have hg := hh (ah hs u) (by
   obtain ⟨i, rfl⟩ := Int.eq_ofNat_of_zero_le h8; rw [LH, List.getD_eq_getElem?_getD, List.getElem?_eq_getElem (by omega)]
   exact List.getElem_mem _)
  refine EvI.step (f := fun k => ag.l1 k ((ah hs u).f1) 0 (j : Int) x1 y1 hs w c 0 [] u ⟨#[]⟩ []) (fun k => ?_) ?_
  ·rw [ag.l0, if_neg (by omega), hu, Option.bind_some]; simp only []; rw [if_pos h8, if_pos h9, hn, Option.bind_some]
  ·refine TW a1 a2 a3 _ hg.2.2.2.2.1 (by have := hg.2.2.2.2.2; omega) hg.2.2.2.1 hs w c 0 ⟨by omega, by omega, hh⟩ hw hc u h8 h9 rfl h3' j 0 x1 y1 [] _ [] [] [] (by omega) (by simp) (by simp) (by simp; omega) (by simp; omega) ?_ (by simp; omega) (fun q hq => absurd hq List.not_mem_nil) ⟨rfl, rfl, fun i hi => absurd hi (by simp)⟩ rfl ⟨rfl, fun i hi => absurd hi (by simp)⟩; have : (ByteArray.mk #[]).size = 0 := rfl; omega
 | succ d ih =>
  intro a b hs h4 h5 h6 hh; (have e1 : wrap64 (((d + 1 : Nat) : Int) - 1) = (d : Int) := by rw [ek (by omega) (by omega)]; omega); refine EvI.step (fun k => by rw [ag.l0, if_pos (by omega), e1]) ?_; refine EvI.bind (GN a b a2 h2 h2') (fun r hr => ?_); refine EvI.call rfl (EvI.pos ?_ ?_)
  ·simp; omega
  ·refine ih _ _ _ (by simp; omega) (by simp; omega) (by simp; omega) (fun h hm => ?_); rcases List.mem_append.1 hm with hm | hm
   ·exact hh h hm
   ·rw [List.mem_singleton] at hm; subst hm; exact hr
theorem aey (a b a1 a2 a3 : Int) (h1 : 1 ≤ a1) (h1' : a1 ≤ 100) (h2 : 1 ≤ a2) (h2' : a2 ≤ 100) (h3 : 1 ≤ a3) (h3' : a3 ≤ 8) : EvI (fun k => ag.f k a b a1 a2 a3) (fun r => oM a1 a2 a3 r ∧ KM r) := by
 obtain ⟨w, x, y, hw, h4, h5⟩ := tQ a b 3 (by omega) (by omega); obtain ⟨c, x1, y1, hc, h6, h7⟩ := tQ x y 3 (by omega) (by omega); obtain ⟨n, x2, y2, hn, h8, h9⟩ := wR x1 y1 1 a1 h1 (by omega) (by omega); obtain ⟨j, rfl⟩ := Int.eq_ofNat_of_zero_le (show 0 ≤ n by omega); simp only [ag.f]; refine EvI.call hw (EvI.call hc (EvI.call hn ?_)); exact TS a1 a2 a3 h2 h2' h3 h3' w c (by omega) (by omega) j x2 y2 [] (by simp; omega) (by simp; omega) (by simp; omega) (fun h hm => absurd hm List.not_mem_nil)
end Go.Proofs.Ytihedeofkhapiaa.Pr
end
section
namespace Go.Proofs.Ytihedeofkhapiaa.Pr
open Go.RowKit Go.Proofs.YtihedeofkhapiaaW.PrintWords Go.Proofs.YtihedeofkhapiaaW.PrintLast Go.Proofs.YtihedeofkhapiaaW.PrintMore
attribute [local go_sem] oz nZ qp qA pG oV qN qX
def cu.l0 : Nat → Int → List Int → Int → Int → Option (Int)
 | 0, _, _, _, _ => none
 | k + 1, x0, x7, x8, x9 => if x9 < x8 then (if 0 ≤ x9 then (if x9 < (x7.length : Int) then (cu.l0 k (mn x0 (rd x7 x9)) x7 x8 (wrap64 (x9 + 1))) else (none)) else (none)) else (some x0)
def cu.f (k : Nat) (a0 : Int) (l1 : List Int) : Option (Int) := cu.l0 k a0 l1 (l1.length : Int) 0
theorem cu.gM : ∀ k, (∀ y0 y1 y2 y3, LeO (cu.l0 k y0 y1 y2 y3) (cu.l0 (k + 1) y0 y1 y2 y3))
 | 0 => fun _ _ _ _ r h => by simp [cu.l0] at h
 | k + 1 => by
  have ih0 := cu.gM k
  ·intro y0 y1 y2 y3; unfold cu.l0
   repeat' first | (with_reducible exact ih0 _ _ _ _) | (with_reducible exact LeO.refl _) | (with_reducible refine LeO.ite ?_ ?_)
theorem cu.mono : ∀ a0 a1 k, LeO (cu.f k a0 a1) (cu.f (k + 1) a0 a1) := by
 intro a0 a1 k; have ih0 := cu.gM k; unfold cu.f
 repeat' (with_reducible exact ih0 _ _ _ _)
set_option maxHeartbeats 8000000 in
set_option maxRecDepth 100000 in
theorem cu.calls (k : Nat) (a0 : Int) (A1 : Option Addr) (c1 : Nat) (l1 : List Int) (r : Int) (w : World) (hr1 : Kd.C (Kd.int .i64) w A1 l1.length l1) (hc1 : l1.length ≤ c1) (h : cu.f k a0 l1 = some r) :
 Calls Try.prog 56 #[.int .i64 a0, .slice A1 l1.length c1] w fun e w' => e = .returned (.int .i64 r) ∧ Below w.heap.size w w' := by
 have HR1 := aa.mk hr1; have HC1 := aa.mk hc1; clear hr1 hc1; have HB := aa.mk (Below.refl w.heap.size w); have H : (cu.l0 k a0 l1 (l1.length : Int) 0) = some r := h; clear h; have H' := aa.mk H; clear H; go_enter Try.func56, Try.ntmps56; go_wp2; (go_loopg [0, 9] k (fun kq v0 v9 w' => ∃ (Le : Int) (uD : Int), v0 = .int .i64 Le ∧ v9 = .int .i64 uD ∧ aa (cu.l0 kq Le l1 (l1.length : Int) uD = some r) ∧ aa (kq ≤ k) ∧ aa (Below w.heap.size w w'))); case atStart => exact ⟨(a0), (0), (by rfl), (by rfl), H', ⟨Nat.le_refl _⟩, ⟨by exact HB.out⟩⟩
 case round =>
  clear H'; obtain ⟨Le, uD, rfl, rfl, HA, HK1, HB⟩ := hrel
  cases gk with
  | zero => exact absurd HA.out (by simp [cu.l0])
  | succ k1 =>
   have H := HA.out; clear HA; simp only [cu.l0] at H; by_cases c3 : uD < (l1.length : Int)
   ·rw [if_pos c3] at H; have wu : decide (uD < (l1.length : Int)) = true := decide_eq_true c3; clear c3; by_cases c4 : 0 ≤ uD
    ·rw [if_pos c4] at H; have CG : decide (0 ≤ uD) = true := decide_eq_true c4; clear c4; by_cases c5 : uD < (l1.length : Int)
     ·rw [if_pos c5] at H; have EK : decide (uD < (l1.length : Int)) = true := decide_eq_true c5; clear c5; obtain ⟨ji6, abt⟩ : ∃ j_ : Int, (mn Le (rd l1 uD)) = j_ := ⟨_, rfl⟩; (replace H : (cu.l0 k1 ji6 l1 (l1.length : Int) (wrap64 (uD + 1))) = some r := by (rw [abt] at H; exact H)); have agy : (if (rd l1 uD) < Le then (rd l1 uD) else Le) = ji6 := abt; have H' := aa.mk H; clear H; have WL : 0 ≤ (uD : Int) := of_decide_eq_true (by with_reducible assumption); have WI : uD < (l1.length : Int) := of_decide_eq_true (by with_reducible assumption); obtain ⟨agP, e124, Em⟩ := Kd.BS HR1.out uD WL WI; cases e124; replace Em := (HB.out.cell (World.block_lt_of_cell? w _ Em)).trans Em; replace WL := eq_true WL; replace WI := eq_true WI; go_wp2; go_roundg k1; (case measure => have := HK1.out; omega); case rel => exact ⟨(ji6), (wrap64 (uD + 1)), (by rfl), (by rfl), H', ⟨by have := HK1.out; omega⟩, ⟨by exact HB.out⟩⟩
     ·rw [if_neg c5] at H; exact absurd H (by simp)
    ·rw [if_neg c4] at H; exact absurd H (by simp)
   ·rw [if_neg c3] at H; have wu : decide (uD < (l1.length : Int)) = false := decide_eq_false c3; clear c3; obtain rfl := Option.some.inj H; go_wp2
    go_ret
    exact ⟨by rfl, by exact HB.out⟩
def ni.f (fO : Int) (bv : Int) (a1 : Int) (Ie : Int) (PR : Int) : Option (Bool) := if fO = a1 then (some (Ie == bv)) else (some true)
set_option maxHeartbeats 8000000 in
set_option maxRecDepth 100000 in
theorem ni.calls (fO : Int) (bv : Int) (a1 : Int) (Ie : Int) (PR : Int) (r : Bool) (w : World) (h : ni.f fO bv a1 Ie PR = some r) :
 Calls Try.prog 75 #[.agg #[.int .i64 fO, .int .u8 bv], .int .i64 a1, .agg #[.int .u8 Ie, .int .i64 PR]] w fun e w' => e = .returned (.bool r) ∧ Below w.heap.size w w' := by
 have hu100 := Try.underlying100; have hu86 := Try.underlying86; have HB := aa.mk (Below.refl w.heap.size w); have H : (if fO = a1 then (some (Ie == bv)) else (some true)) = some r := h; clear h; by_cases c4 : fO = a1
 ·rw [if_pos c4] at H; have CG : (fO == a1) = true := beq_iff_eq.mpr c4; have YI : (fO != a1) = false := bne_eq_false_iff_eq.mpr c4; clear c4; obtain rfl := Option.some.inj H; go_enter Try.func75, Try.ntmps75; go_wp2_with (first | ((with_reducible refine dm (N := 3) rfl ?_); refine dE ?hg (N := 3) ?hd (cs := #[.int .i64 fO, .int .u8 bv]) (t := 100) ?hr ?_; (case hd => rfl); (case hg => rfl); (case hr => (go_simp; done)); intro sQ hg w5 hbox hb; have vw := aa.mk (hbox); have aal := aa.mk ((by rw [hg]; exact (aH (by exact HB.out)) : w.heap.size ≤ sQ)); have aaT := aa.mk ((by rw [hg]; exact (aH (by exact HB.out)) : w.heap.size ≤ sQ)); replace HB := aa.mk (aC (by exact HB.out) hb); clear hb hbox hg) | ((with_reducible refine dm (N := 5) rfl ?_); refine dE ?hg (N := 5) ?hd (cs := #[.int .u8 Ie, .int .i64 PR]) (t := 86) ?hr ?_; (case hd => rfl); (case hg => rfl); (case hr => (go_simp; done)); intro yg hg w6 hbox hb; have Vp := aa.mk (hbox); have aa0 := aa.mk ((by rw [hg]; exact (aH (by exact HB.out)) : w.heap.size ≤ yg)); have ZZ := aa.mk ((by rw [hg]; exact (aH (by exact HB.out)) : w.heap.size ≤ yg)); replace HB := aa.mk (aC (by exact HB.out) hb); have yw := aa.mk ((by rw [hg]; exact Nat.ne_of_lt (bQ (g := sQ) (o := .cells #[.int .i64 fO, .int .u8 bv] 100 (0, 0)) (bU vw.out)) : sQ ≠ yg)); have yU := aa.mk ((by rw [hg]; exact Nat.ne_of_gt (bQ (g := sQ) (o := .cells #[.int .i64 fO, .int .u8 bv] 100 (0, 0)) (bU vw.out)) : yg ≠ sQ)); replace vw := aa.mk (au (bU vw.out) hb); clear hb hbox hg; have aij := yw.out; have ail := yU.out; obtain ⟨Jt, Hg, Jj, Hf⟩ := lZ vw.out; obtain ⟨NW, N9, PM, Om⟩ := lZ Vp.out))
  go_ret
  exact ⟨by rfl, by exact HB.out⟩
 ·rw [if_neg c4] at H; have CG : (fO == a1) = false := beq_eq_false_iff_ne.mpr c4; have YI : (fO != a1) = true := bne_iff_ne.mpr c4; obtain rfl := Option.some.inj H; go_enter Try.func75, Try.ntmps75; go_wp2_with (first | ((with_reducible refine dm (N := 3) rfl ?_); refine dE ?hg (N := 3) ?hd (cs := #[.int .i64 fO, .int .u8 bv]) (t := 100) ?hr ?_; (case hd => rfl); (case hg => rfl); (case hr => (go_simp; done)); intro sQ hg w10 hbox hb; have vw := aa.mk (hbox); have aal := aa.mk ((by rw [hg]; exact (aH (by exact HB.out)) : w.heap.size ≤ sQ)); have aaT := aa.mk ((by rw [hg]; exact (aH (by exact HB.out)) : w.heap.size ≤ sQ)); replace HB := aa.mk (aC (by exact HB.out) hb); clear hb hbox hg) | ((with_reducible refine dm (N := 5) rfl ?_); refine dE ?hg (N := 5) ?hd (cs := #[.int .u8 Ie, .int .i64 PR]) (t := 86) ?hr ?_; (case hd => rfl); (case hg => rfl); (case hr => (go_simp; done)); intro yg hg w11 hbox hb; have Vp := aa.mk (hbox); have aa0 := aa.mk ((by rw [hg]; exact (aH (by exact HB.out)) : w.heap.size ≤ yg)); have ZZ := aa.mk ((by rw [hg]; exact (aH (by exact HB.out)) : w.heap.size ≤ yg)); replace HB := aa.mk (aC (by exact HB.out) hb); have yw := aa.mk ((by rw [hg]; exact Nat.ne_of_lt (bQ (g := sQ) (o := .cells #[.int .i64 fO, .int .u8 bv] 100 (0, 0)) (bU vw.out)) : sQ ≠ yg)); have yU := aa.mk ((by rw [hg]; exact Nat.ne_of_gt (bQ (g := sQ) (o := .cells #[.int .i64 fO, .int .u8 bv] 100 (0, 0)) (bU vw.out)) : yg ≠ sQ)); replace vw := aa.mk (au (bU vw.out) hb); clear hb hbox hg; have Zo := yw.out; have abF := yU.out; obtain ⟨UI, Td, Un, Ry⟩ := lZ vw.out))
  go_ret
  exact ⟨by rfl, by exact HB.out⟩
theorem aar (d : Nat) (w : World) (x0 y0 : Int) (x1 y1 : Int) :
 (Op.equalIn (d + 2) 27 (.agg #[.int .i64 x0, .int .i64 x1]) (.agg #[.int .i64 y0, .int .i64 y1])).run Try.prog w = .ok (x0 == y0 && (x1 == y1)) w := by
 refine Io Try.underlying27 (by kernel_rfl) ?_; refine Ap (by rfl) (by go_simp; rfl) (by go_simp; rfl) (by go_simp) ?_; exact AV (by rfl) (by go_simp; rfl) (by go_simp; rfl) (by go_simp)
theorem aay (d : Nat) (w : World) (x0 y0 : Int) (x1 y1 : Int) :
 (Op.equalIn (d + 2) 63 (.agg #[.int .i64 x0, .int .i64 x1]) (.agg #[.int .i64 y0, .int .i64 y1])).run Try.prog w = .ok (x0 == y0 && (x1 == y1)) w := by
 refine Io Try.underlying63 (by kernel_rfl) ?_; refine Ap (by rfl) (by go_simp; rfl) (by go_simp; rfl) (by go_simp) ?_; exact AV (by rfl) (by go_simp; rfl) (by go_simp; rfl) (by go_simp)
theorem aa7 (d : Nat) (w : World) (x0 y0 : Int) (x1 y1 : Int) :
 (Op.equalIn (d + 2) 86 (.agg #[.int .u8 x0, .int .i64 x1]) (.agg #[.int .u8 y0, .int .i64 y1])).run Try.prog w = .ok (x0 == y0 && (x1 == y1)) w := by
 refine Io Try.underlying86 (by kernel_rfl) ?_; refine Ap (by rfl) (by go_simp; rfl) (by go_simp; rfl) (by go_simp) ?_; exact AV (by rfl) (by go_simp; rfl) (by go_simp; rfl) (by go_simp)
def jg.f (a0 : Int) (a1 : Int) : Option (Int) := if a1 < 2 then (some 0) else (if a1 = 0 then (none) else (some (Int.tmod (wrap64 ((Int.tmod a0 a1) + a1)) a1)))
set_option maxHeartbeats 8000000 in
set_option maxRecDepth 100000 in
theorem jg.calls (a0 : Int) (a1 : Int) (r : Int) (w : World) (h : jg.f a0 a1 = some r) :
 Calls Try.prog 18 #[.int .i64 a0, .int .i64 a1] w fun e w' => e = .returned (.int .i64 r) ∧ dO w w' := by
 have H : (if a1 < 2 then (some 0) else (if a1 = 0 then (none) else (some (Int.tmod (wrap64 ((Int.tmod a0 a1) + a1)) a1)))) = some r := h; clear h; by_cases c3 : a1 < 2
 ·rw [if_pos c3] at H; have wu : decide (a1 < 2) = true := decide_eq_true c3; clear c3; obtain rfl := Option.some.inj H; go_enter Try.func18, Try.ntmps18; go_wp2
  go_ret
  exact ⟨by first | rfl | (simp; done) | (simp [*]; done), by repeat (first | exact dO.refl _ | apply dO.step)⟩
 ·rw [if_neg c3] at H; have wu : decide (a1 < 2) = false := decide_eq_false c3; clear c3; by_cases c4 : a1 = 0
  ·rw [if_pos c4] at H; exact absurd H (by simp)
  ·rw [if_neg c4] at H; have CG : (a1 == 0) = false := beq_eq_false_iff_ne.mpr c4; have YI : (a1 != 0) = true := bne_iff_ne.mpr c4; obtain rfl := Option.some.inj H; go_enter Try.func18, Try.ntmps18; go_wp2
   go_ret
   exact ⟨by first | rfl | (simp; done) | (simp [*]; done), by repeat (first | exact dO.refl _ | apply dO.step)⟩
end Go.Proofs.Ytihedeofkhapiaa.Pr
end
