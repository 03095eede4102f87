/- Part 21 of 35 of the proof of: SightMore: for every slice of numbers, the law returns true: of a line made of them, with one more light, with fewer marks, or with fewer hands, no more letters fit, and Years does not get wider, as long as the line may be; no condition beyond the statement's own. -/
import Derived.Test.YtihedeofkhapiaaProg
import Derived.Below
import Derived.Deep.Draws
import Derived.Deep.AppendLies
import Derived.Maps.AppendAt
import Derived.OwnWalk
import Derived.Laws.BytesArg
import Derived.Laws.MakeOwn
import Derived.Laws.OwnMore
import Derived.Deep.OwnRows
import Derived.Tactics
import Derived.Lib.ConvBytes
import Derived.Laws.Slices
import Derived.WalkKit
import Derived.KernelRfl
import Derived.RowKit3
import Derived.Deep.LoopGhost
import Derived.Deep.QuietTactic
import Derived.BigQuiet
import Derived.WideLaws
import Derived.Deep.DeepCutAuto
import Derived.Deep.CutBlock
import Derived.Deep.RegionHeld3
import Derived.Laws.Rows
import Derived.Lib.AppendStr
import Derived.ArgAppend
import Derived.Laws.IdiomCopy
import Derived.OrdersHeld
import Derived.Laws.BitsLemmas
import Derived.RowKit
import Derived.Test.YtihedeofkhapiaaSM4
import Derived.Test.YtihedeofkhapiaaSM18
import Derived.Test.YtihedeofkhapiaaSM19
import Derived.Test.YtihedeofkhapiaaSM20
set_option linter.unusedVariables false
set_option linter.unusedSimpArgs false
section
namespace Go.Proofs.Ytihedeofkhapiaa.Pr
open Go.RowKit Go.Proofs.YtihedeofkhapiaaW.PrintWords Go.Proofs.YtihedeofkhapiaaW.PrintLast Go.Proofs.YtihedeofkhapiaaW.PrintMore
attribute [local go_sem] ol nV qa qb mK mF oq om
def aak : Option Int → Value
 | none => .nilIface
 | some c => .iface 0 (.int .i64 c)
theorem tu : aak none = .nilIface := rfl
theorem sK (c : Int) : aak (some c) = .iface 0 (.int .i64 c) := rfl
theorem info3 : (Try.prog.info? 3).map (fun i => (i.zero, i.size, i.bytes)) = some (some (.int .i64 0), 1, 8) := by kernel_rfl
theorem info5 : (Try.prog.info? 5).map (fun i => (i.zero, i.size, i.bytes)) = some (some (.int .u8 0), 1, 1) := by kernel_rfl
theorem Zp : (Try.prog.info? 9).map (fun i => (i.zero, i.size, i.bytes)) = some (some (.string ⟨#[]⟩), 1, 16) := by kernel_rfl
theorem Hz : (Try.prog.info? 27).map (fun i => (i.zero, i.size, i.bytes)) = some (some (.agg #[(.int .i64 0), (.int .i64 0)]), 2, 16) := by kernel_rfl
theorem M0 : (Try.prog.info? 39).map (fun i => (i.zero, i.size, i.bytes)) = some (some (.slice none 0 0), 1, 24) := by kernel_rfl
theorem Nv : (Try.prog.info? 66).map (fun i => (i.zero, i.size, i.bytes)) = some (some (.agg #[(.int .i64 0), (.int .i64 0), (.slice none 0 0)]), 3, 40) := by kernel_rfl
theorem OY : (Try.prog.info? 86).map (fun i => (i.zero, i.size, i.bytes)) = some (some (.agg #[(.int .u8 0), (.int .i64 0)]), 2, 16) := by kernel_rfl
theorem acF : (Try.prog.info? 126).map (fun i => (i.zero, i.size, i.bytes)) = some (some (.agg #[(.int .i64 0), (.int .u8 0)]), 2, 16) := by kernel_rfl
structure S63 where
 f0 : Int
 f1 : Int
def z63 : S63 := ⟨(0 : Int), (0 : Int)⟩
def k63 : Kd S63 := Kd.iso (Kd.pair (Kd.int .i64) (Kd.int .i64)) (fun x : S63 => (x.f0, x.f1))
theorem Gm {w : World} {x : S63} {cs : List Value} (h : k63.K w x cs) : cs = [.int .i64 x.f0, .int .i64 x.f1] := by
 obtain ⟨_, _, rfl, rfl, rfl⟩ := h; exact rfl
theorem KC {w : World} {base : Nat} {ok : Nat → Prop} {x : S63} {cs : List Value} (h : k63.M w base ok x cs) : cs = [.int .i64 x.f0, .int .i64 x.f1] := by
 obtain ⟨_, _, rfl, rfl, rfl⟩ := h; exact rfl
theorem Ml (w : World) (x : S63)  : k63.K w x [.int .i64 x.f0, .int .i64 x.f1] := ⟨[.int .i64 x.f0], [.int .i64 x.f1], rfl, rfl, rfl⟩
theorem Rj (w : World) (base : Nat) (ok : Nat → Prop) (x : S63)  : k63.M w base ok x [.int .i64 x.f0, .int .i64 x.f1] := ⟨[.int .i64 x.f0], [.int .i64 x.f1], rfl, rfl, rfl⟩
theorem adx (W : World) (ok : Nat → Prop) (x : S63) : Kd.FK k63 W ok x [.int .i64 x.f0, .int .i64 x.f1] := fun W2 _ => Ml W2 x
def Nk (xs : List S63) (i : Int) : S63 := xs.getD i.toNat z63
theorem agc {w : World} {A : Option Addr} {n : Nat} {xs : List S63} (h : Kd.C k63 w A n xs) (i : Int) (h0 : 0 ≤ i) (h1 : i < n) : ∃ ad , A = some ad ∧ w.cell? (ad.add (i.toNat * 2)) = some (.int .i64 (Nk xs i).f0) ∧ w.cell? ⟨(ad.add (i.toNat * 2)).block, (ad.add (i.toNat * 2)).off + 1, none⟩ = some (.int .i64 (Nk xs i).f1) := by
 obtain ⟨ad, c, e, _, hK, hc0⟩ := Kd.uH h z63 i h0 h1; have hc : ∀ j u, c[j]? = some u → w.cell? (ad.add (i.toNat * 2 + j)) = some u := hc0; obtain rfl := Gm hK; exact ⟨ad, e, hc 0 _ rfl, by rw [← oO _ _ 1 (by omega)]; exact hc 1 _ rfl⟩
structure S86 where
 f0 : Int
 f1 : Int
def z86 : S86 := ⟨(0 : Int), (0 : Int)⟩
def k86 : Kd S86 := Kd.iso (Kd.pair (Kd.int .u8) (Kd.int .i64)) (fun x : S86 => (x.f0, x.f1))
theorem O8 {w : World} {x : S86} {cs : List Value} (h : k86.K w x cs) : cs = [.int .u8 x.f0, .int .i64 x.f1] := by
 obtain ⟨_, _, rfl, rfl, rfl⟩ := h; exact rfl
theorem XV {w : World} {base : Nat} {ok : Nat → Prop} {x : S86} {cs : List Value} (h : k86.M w base ok x cs) : cs = [.int .u8 x.f0, .int .i64 x.f1] := by
 obtain ⟨_, _, rfl, rfl, rfl⟩ := h; exact rfl
theorem Xm (w : World) (x : S86)  : k86.K w x [.int .u8 x.f0, .int .i64 x.f1] := ⟨[.int .u8 x.f0], [.int .i64 x.f1], rfl, rfl, rfl⟩
theorem tZ (w : World) (base : Nat) (ok : Nat → Prop) (x : S86)  : k86.M w base ok x [.int .u8 x.f0, .int .i64 x.f1] := ⟨[.int .u8 x.f0], [.int .i64 x.f1], rfl, rfl, rfl⟩
theorem ad5 (W : World) (ok : Nat → Prop) (x : S86) : Kd.FK k86 W ok x [.int .u8 x.f0, .int .i64 x.f1] := fun W2 _ => Xm W2 x
def aj (xs : List S86) (i : Int) : S86 := xs.getD i.toNat z86
theorem qE {w : World} {A : Option Addr} {n : Nat} {xs : List S86} (h : Kd.C k86 w A n xs) (i : Int) (h0 : 0 ≤ i) (h1 : i < n) : ∃ ad , A = some ad ∧ w.cell? (ad.add (i.toNat * 2)) = some (.int .u8 (aj xs i).f0) ∧ w.cell? ⟨(ad.add (i.toNat * 2)).block, (ad.add (i.toNat * 2)).off + 1, none⟩ = some (.int .i64 (aj xs i).f1) := by
 obtain ⟨ad, c, e, _, hK, hc0⟩ := Kd.uH h z86 i h0 h1; have hc : ∀ j u, c[j]? = some u → w.cell? (ad.add (i.toNat * 2 + j)) = some u := hc0; obtain rfl := O8 hK; exact ⟨ad, e, hc 0 _ rfl, by rw [← oO _ _ 1 (by omega)]; exact hc 1 _ rfl⟩
def Jh (xs : List (List S86)) (i : Int) : (List S86) := xs.getD i.toNat ([] : List S86)
theorem ahc {w : World} {A : Option Addr} {n : Nat} {xs : List (List S86)} (h : Kd.C (Kd.slice 86 k86) w A n xs) (i : Int) (h0 : 0 ≤ i) (h1 : i < n) : ∃ ad A0 c0, A = some ad ∧ w.cell? (ad.add i.toNat) = some (.slice A0 (Jh xs i).length c0) ∧ (Jh xs i).length ≤ c0 ∧ k86.C w A0 (Jh xs i).length (Jh xs i) := by
 obtain ⟨ad, c, e, _, hK, hc0⟩ := Kd.uH h ([] : List S86) i h0 h1; have hc : ∀ j u, c[j]? = some u → w.cell? (ad.add (i.toNat * 1 + j)) = some u := hc0; obtain ⟨A0, c0, rfl, l0, g0⟩ := hK; exact ⟨ad, A0, c0, e, by have hq := hc 0 _ rfl; rwa [Nat.mul_one, Nat.add_zero] at hq, l0, g0⟩
structure S66 where
 f0 : S63
 f1 : (List S86)
def z66 : S66 := ⟨z63, ([] : List S86)⟩
def k66 : Kd S66 := Kd.iso (Kd.pair k63 (Kd.slice 86 k86)) (fun x : S66 => (x.f0, x.f1))
theorem Ar {w : World} {x : S66} {cs : List Value} (h : k66.K w x cs) : ∃ A2 c2, cs = [.int .i64 x.f0.f0, .int .i64 x.f0.f1, .slice A2 x.f1.length c2] ∧ x.f1.length ≤ c2 ∧ k86.C w A2 x.f1.length x.f1 := by
 obtain ⟨_, _, rfl, s0, ⟨A2, c2, rfl, l2, g2⟩⟩ := h; obtain rfl := Gm s0; exact ⟨A2, c2, rfl, l2, g2⟩
theorem XW {w : World} {base : Nat} {ok : Nat → Prop} {x : S66} {cs : List Value} (h : k66.M w base ok x cs) : ∃ v2, cs = [.int .i64 x.f0.f0, .int .i64 x.f0.f1, v2] ∧ k86.R 86 w base ok v2 x.f1 := by
 obtain ⟨_, _, rfl, s0, ⟨v2, rfl, g2⟩⟩ := h; obtain rfl := KC s0; exact ⟨v2, rfl, g2⟩
theorem MX (w : World) (x : S66) {A2 : Option Addr} {c2 : Nat} (l2 : x.f1.length ≤ c2) (g2 : k86.C w A2 x.f1.length x.f1) : k66.K w x [.int .i64 x.f0.f0, .int .i64 x.f0.f1, .slice A2 x.f1.length c2] := ⟨[.int .i64 x.f0.f0, .int .i64 x.f0.f1], [.slice A2 x.f1.length c2], rfl, (Ml w x.f0 ), ⟨A2, c2, rfl, l2, g2⟩⟩
theorem Uh (w : World) (base : Nat) (ok : Nat → Prop) (x : S66) {v2 : Value} (g2 : k86.R 86 w base ok v2 x.f1) : k66.M w base ok x [.int .i64 x.f0.f0, .int .i64 x.f0.f1, v2] := ⟨[.int .i64 x.f0.f0, .int .i64 x.f0.f1], [v2], rfl, (Rj w base ok x.f0 ), ⟨v2, rfl, g2⟩⟩
theorem KL {W : World} {ok : Nat → Prop} {x : S66} {cs : List Value} (h : Kd.FK k66 W ok x cs) : ∃ A2 c2, cs = [.int .i64 x.f0.f0, .int .i64 x.f0.f1, .slice A2 x.f1.length c2] ∧ x.f1.length ≤ c2 ∧ Kd.F k86 W ok A2 x.f1.length x.f1 := by
 obtain ⟨A2, c2, rfl, l2, _⟩ := Ar (Kd.oP h); exact ⟨A2, c2, rfl, l2, (fun W' hW => by obtain ⟨A2_, c2_, he, l2_, g2_⟩ := Ar (h W' hW); injection (Option.some.inj (show some (Value.slice A2 x.f1.length c2) = some (Value.slice A2_ x.f1.length c2_) from congrArg (fun l => l[2]?) he)) with ha_ _ _; rw [ha_]; exact g2_)⟩
theorem Dn (W : World) (ok : Nat → Prop) (x : S66) {A2 : Option Addr} {c2 : Nat} (l2 : x.f1.length ≤ c2) (g2 : Kd.F k86 W ok A2 x.f1.length x.f1) : Kd.FK k66 W ok x [.int .i64 x.f0.f0, .int .i64 x.f0.f1, .slice A2 x.f1.length c2] := fun W2 hW => MX W2 x l2 (g2 W2 hW)
def ah (xs : List S66) (i : Int) : S66 := xs.getD i.toNat z66
theorem oM {w : World} {A : Option Addr} {n : Nat} {xs : List S66} (h : Kd.C k66 w A n xs) (i : Int) (h0 : 0 ≤ i) (h1 : i < n) : ∃ ad A2 c2, A = some ad ∧ w.cell? (ad.add (i.toNat * 3)) = some (.int .i64 (ah xs i).f0.f0) ∧ w.cell? ⟨(ad.add (i.toNat * 3)).block, (ad.add (i.toNat * 3)).off + 1, none⟩ = some (.int .i64 (ah xs i).f0.f1) ∧ w.cell? ⟨(ad.add (i.toNat * 3)).block, (ad.add (i.toNat * 3)).off + 2, none⟩ = some (.slice A2 (ah xs i).f1.length c2) ∧ (ah xs i).f1.length ≤ c2 ∧ k86.C w A2 (ah xs i).f1.length (ah xs i).f1 := by
 obtain ⟨ad, c, e, _, hK, hc0⟩ := Kd.uH h z66 i h0 h1; have hc : ∀ j u, c[j]? = some u → w.cell? (ad.add (i.toNat * 3 + j)) = some u := hc0; obtain ⟨A2, c2, rfl, l2, g2⟩ := Ar hK; exact ⟨ad, A2, c2, e, hc 0 _ rfl, by rw [← oO _ _ 1 (by omega)]; exact hc 1 _ rfl, by rw [← oO _ _ 2 (by omega)]; exact hc 2 _ rfl, l2, g2⟩
structure S27 where
 f0 : Int
 f1 : Int
def z27 : S27 := ⟨(0 : Int), (0 : Int)⟩
def k27 : Kd S27 := Kd.iso (Kd.pair (Kd.int .i64) (Kd.int .i64)) (fun x : S27 => (x.f0, x.f1))
theorem M4 {w : World} {x : S27} {cs : List Value} (h : k27.K w x cs) : cs = [.int .i64 x.f0, .int .i64 x.f1] := by
 obtain ⟨_, _, rfl, rfl, rfl⟩ := h; exact rfl
theorem XX {w : World} {base : Nat} {ok : Nat → Prop} {x : S27} {cs : List Value} (h : k27.M w base ok x cs) : cs = [.int .i64 x.f0, .int .i64 x.f1] := by
 obtain ⟨_, _, rfl, rfl, rfl⟩ := h; exact rfl
theorem XP (w : World) (x : S27)  : k27.K w x [.int .i64 x.f0, .int .i64 x.f1] := ⟨[.int .i64 x.f0], [.int .i64 x.f1], rfl, rfl, rfl⟩
theorem vV (w : World) (base : Nat) (ok : Nat → Prop) (x : S27)  : k27.M w base ok x [.int .i64 x.f0, .int .i64 x.f1] := ⟨[.int .i64 x.f0], [.int .i64 x.f1], rfl, rfl, rfl⟩
theorem adS (W : World) (ok : Nat → Prop) (x : S27) : Kd.FK k27 W ok x [.int .i64 x.f0, .int .i64 x.f1] := fun W2 _ => XP W2 x
def fT (xs : List S27) (i : Int) : S27 := xs.getD i.toNat z27
theorem DX {w : World} {A : Option Addr} {n : Nat} {xs : List S27} (h : Kd.C k27 w A n xs) (i : Int) (h0 : 0 ≤ i) (h1 : i < n) : ∃ ad , A = some ad ∧ w.cell? (ad.add (i.toNat * 2)) = some (.int .i64 (fT xs i).f0) ∧ w.cell? ⟨(ad.add (i.toNat * 2)).block, (ad.add (i.toNat * 2)).off + 1, none⟩ = some (.int .i64 (fT xs i).f1) := by
 obtain ⟨ad, c, e, _, hK, hc0⟩ := Kd.uH h z27 i h0 h1; have hc : ∀ j u, c[j]? = some u → w.cell? (ad.add (i.toNat * 2 + j)) = some u := hc0; obtain rfl := M4 hK; exact ⟨ad, e, hc 0 _ rfl, by rw [← oO _ _ 1 (by omega)]; exact hc 1 _ rfl⟩
def fB (xs : List (List S27)) (i : Int) : (List S27) := xs.getD i.toNat ([] : List S27)
theorem JB {w : World} {A : Option Addr} {n : Nat} {xs : List (List S27)} (h : Kd.C (Kd.slice 27 k27) w A n xs) (i : Int) (h0 : 0 ≤ i) (h1 : i < n) : ∃ ad A0 c0, A = some ad ∧ w.cell? (ad.add i.toNat) = some (.slice A0 (fB xs i).length c0) ∧ (fB xs i).length ≤ c0 ∧ k27.C w A0 (fB xs i).length (fB xs i) := by
 obtain ⟨ad, c, e, _, hK, hc0⟩ := Kd.uH h ([] : List S27) i h0 h1; have hc : ∀ j u, c[j]? = some u → w.cell? (ad.add (i.toNat * 1 + j)) = some u := hc0; obtain ⟨A0, c0, rfl, l0, g0⟩ := hK; exact ⟨ad, A0, c0, e, by have hq := hc 0 _ rfl; rwa [Nat.mul_one, Nat.add_zero] at hq, l0, g0⟩
def vo (xs : List (List Int)) (i : Int) : (List Int) := xs.getD i.toNat ([] : List Int)
theorem aaN {w : World} {A : Option Addr} {n : Nat} {xs : List (List Int)} (h : Kd.C (Kd.slice 5 (Kd.int .u8)) w A n xs) (i : Int) (h0 : 0 ≤ i) (h1 : i < n) : ∃ ad A0 c0, A = some ad ∧ w.cell? (ad.add i.toNat) = some (.slice A0 (vo xs i).length c0) ∧ (vo xs i).length ≤ c0 ∧ (Kd.int .u8).C w A0 (vo xs i).length (vo xs i) := by
 obtain ⟨ad, c, e, _, hK, hc0⟩ := Kd.uH h ([] : List Int) i h0 h1; have hc : ∀ j u, c[j]? = some u → w.cell? (ad.add (i.toNat * 1 + j)) = some u := hc0; obtain ⟨A0, c0, rfl, l0, g0⟩ := hK; exact ⟨ad, A0, c0, e, by have hq := hc 0 _ rfl; rwa [Nat.mul_one, Nat.add_zero] at hq, l0, g0⟩
structure BV where
 f0 : Int
 f1 : Int
def Mw : BV := ⟨(0 : Int), (0 : Int)⟩
def KM : Kd BV := Kd.iso (Kd.pair (Kd.int .i64) (Kd.int .u8)) (fun x : BV => (x.f0, x.f1))
theorem LA {w : World} {x : BV} {cs : List Value} (h : KM.K w x cs) : cs = [.int .i64 x.f0, .int .u8 x.f1] := by
 obtain ⟨_, _, rfl, rfl, rfl⟩ := h; exact rfl
theorem XT {w : World} {base : Nat} {ok : Nat → Prop} {x : BV} {cs : List Value} (h : KM.M w base ok x cs) : cs = [.int .i64 x.f0, .int .u8 x.f1] := by
 obtain ⟨_, _, rfl, rfl, rfl⟩ := h; exact rfl
theorem TZ (w : World) (x : BV)  : KM.K w x [.int .i64 x.f0, .int .u8 x.f1] := ⟨[.int .i64 x.f0], [.int .u8 x.f1], rfl, rfl, rfl⟩
theorem Zd (w : World) (base : Nat) (ok : Nat → Prop) (x : BV)  : KM.M w base ok x [.int .i64 x.f0, .int .u8 x.f1] := ⟨[.int .i64 x.f0], [.int .u8 x.f1], rfl, rfl, rfl⟩
theorem YO (W : World) (ok : Nat → Prop) (x : BV) : Kd.FK KM W ok x [.int .i64 x.f0, .int .u8 x.f1] := fun W2 _ => TZ W2 x
def Ka (xs : List BV) (i : Int) : BV := xs.getD i.toNat Mw
theorem abQ {w : World} {A : Option Addr} {n : Nat} {xs : List BV} (h : Kd.C KM w A n xs) (i : Int) (h0 : 0 ≤ i) (h1 : i < n) : ∃ ad , A = some ad ∧ w.cell? (ad.add (i.toNat * 2)) = some (.int .i64 (Ka xs i).f0) ∧ w.cell? ⟨(ad.add (i.toNat * 2)).block, (ad.add (i.toNat * 2)).off + 1, none⟩ = some (.int .u8 (Ka xs i).f1) := by
 obtain ⟨ad, c, e, _, hK, hc0⟩ := Kd.uH h Mw i h0 h1; have hc : ∀ j u, c[j]? = some u → w.cell? (ad.add (i.toNat * 2 + j)) = some u := hc0; obtain rfl := LA hK; exact ⟨ad, e, hc 0 _ rfl, by rw [← oO _ _ 1 (by omega)]; exact hc 1 _ rfl⟩
def aX (w0 W : World) (g : Nat) (f0 : Int) (f1 : Int) : Prop := W.heap[g]? = some (.cells #[.int .u64 f0, .int .u64 f1] 91 (0, 0)) ∧ w0.heap.size ≤ g
theorem aX.grown {w0 W : World} {g : Nat} {f0 : Int} {f1 : Int} {W1 : World} {row : Option Nat} (h : aX w0 W g f0 f1) (hw : W.grownBy W1 row) (hne : some g ≠ row) : aX w0 W1 g f0 f1 := by
 obtain ⟨hb, hg⟩ := h; exact ⟨dn hb hw hne, hg⟩
theorem aX.Jf {w0 W : World} {g : Nat} {f0 : Int} {f1 : Int} {α : Type} {d : Kd α} {e : Nat} {base : Nat} {ok : Nat → Prop} {v : Value} {xs : List α} (h : aX w0 W g f0 f1) (ho : Kd.N d e W base ok v xs) (ht : e ≠ 91) : some g ≠ v.ownBlock := by
 obtain ⟨hb, hg⟩ := h; exact Kd.Bv ho hb ht
theorem aX.fresh {w0 W : World} {g : Nat} {f0 : Int} {f1 : Int} (h : aX w0 W g f0 f1) : ∀ k, W.heap.size ≤ k → k ≠ g := by
 obtain ⟨hb, hg⟩ := h; exact Kd.kg hb
theorem aX.kept {w0 W : World} {g : Nat} {f0 : Int} {f1 : Int} {W1 : World} {S : Nat → Prop} (h : aX w0 W g f0 f1) (hk : Kept W W1 S) (hne : ¬ S g) : aX w0 W1 g f0 f1 := by
 obtain ⟨hb, hg⟩ := h; exact ⟨xy hb hk hne, hg⟩
theorem aX.below {w0 W : World} {g : Nat} {f0 : Int} {f1 : Int} {W1 : World} (h : aX w0 W g f0 f1) (hw : Below W.heap.size W W1) : aX w0 W1 g f0 f1 := h.grown (jq hw none) (by simp)
theorem aX.alloc {w0 W : World} {g : Nat} {f0 : Int} {f1 : Int} (h : aX w0 W g f0 f1) (o : Obj) : aX w0 (W.alloc o) g f0 f1 := h.below (aV (Below.refl _ _) o)
theorem aX.drewN {w0 W : World} {g : Nat} {f0 : Int} {f1 : Int} (h : aX w0 W g f0 f1) (m : Nat) : aX w0 (W.drewN m) g f0 f1 := h
theorem aX.drew {w0 W : World} {g : Nat} {f0 : Int} {f1 : Int} (h : aX w0 W g f0 f1) : aX w0 W.drew g f0 f1 := h
theorem aX.at_ {w0 W : World} {g : Nat} {f0 : Int} {f1 : Int} {w' : World} {m : Nat} (hq : W.drewN m = w') (h : aX w0 W g f0 f1) : aX w0 w' g f0 f1 := by subst hq; exact aX.drewN h m
theorem aX.apart {w0 W : World} {g : Nat} {f0 : Int} {f1 : Int} {α : Type} {d : Kd α} {e : Nat} {base : Nat} {ok : Nat → Prop} {v : Value} {xs : List α} (h : aX w0 W g f0 f1) (ho : d.R e W base ok v xs) (ht : ∀ q, q ∈ e :: d.E → q ≠ 91) : d.R e W base (fun k => ok k ∧ k ≠ g) v xs := by
 obtain ⟨hb, hg⟩ := h; exact Kd.ek ho hb ht
theorem aX.own_ne {w0 W : World} {g : Nat} {f0 : Int} {f1 : Int} {α : Type} {d : Kd α} {e : Nat} {base : Nat} {ok : Nat → Prop} {v : Value} {xs : List α} (h : aX w0 W g f0 f1) (ho : d.R e W base ok v xs) (ht : e ≠ 91) : some g ≠ v.ownBlock := by
 obtain ⟨hb, hg⟩ := h; exact Kd.mP ho hb ht
theorem aX.afr {w0 W : World} {g : Nat} {f0 : Int} {f1 : Int} {α : Type} {d : Kd α} {e : Nat} {base : Nat} {ok : Nat → Prop} {v : Value} {xs : List α} (h : aX w0 W g f0 f1) (ho : d.S e W base ok v xs) (ht : ∀ q, q ∈ e :: d.E → q ≠ 91) : d.S e W base (fun k => ok k ∧ k ≠ g) v xs := by
 obtain ⟨hb, hg⟩ := h; exact Kd.vL ho hb ht
theorem aX.adl {w0 W : World} {g : Nat} {f0 : Int} {f1 : Int} {α : Type} {d : Kd α} {e : Nat} {base : Nat} {ok : Nat → Prop} {v : Value} {xs : List α} (h : aX w0 W g f0 f1) (ho : d.S e W base ok v xs) (ht : e ≠ 91) : some g ≠ v.ownBlock := by
 obtain ⟨hb, hg⟩ := h; exact Kd.NR ho hb ht
theorem aX.lt {w0 W : World} {g : Nat} {f0 : Int} {f1 : Int} (h : aX w0 W g f0 f1) : g < W.heap.size := by
 obtain ⟨hb, hg⟩ := h; exact bF hb
theorem aX.ge {w0 W : World} {g : Nat} {f0 : Int} {f1 : Int} (h : aX w0 W g f0 f1) : w0.heap.size ≤ g := by
 obtain ⟨hb, hg⟩ := h; exact hg
theorem aX.afJ {w0 W : World} {g : Nat} {f0 : Int} {f1 : Int} {a : Nat} {cs : Array Value} {t : TypeId} {fr : Nat × Nat} (h : aX w0 W g f0 f1) (hb2 : W.heap[a]? = some (.cells cs t fr)) (ht : t ≠ 91) : g ≠ a := by
 obtain ⟨hb, hg⟩ := h; rintro rfl; rw [hb] at hb2; injection hb2 with hb2; injection hb2 with _ ht2; exact ht ht2.symm
theorem aX.far {w0 W : World} {g : Nat} {f0 : Int} {f1 : Int} {p : Addr} (h : aX w0 W g f0 f1) (hne : g ≠ p.block) (u : Value) : aX w0 (W.setCell p u) g f0 f1 := by
 obtain ⟨hb, hg⟩ := h; exact ⟨bC hb hne u, hg⟩
theorem yH {W : World} {g : Nat} {f0 : Int} {f1 : Int} (h : W.heap[g]? = some (.cells #[.int .u64 f0, .int .u64 f1] 91 (0, 0))) : W.cell? ⟨g, 0, none⟩ = some (.int .u64 f0) := (ag h 0).trans rfl
theorem aX.YP {w0 W : World} {g : Nat} {f0 : Int} {f1 : Int} (h : aX w0 W g f0 f1) (x : Int) : aX w0 (W.setCell ⟨g, 0, none⟩ (.int .u64 x)) g x f1 := by
 obtain ⟨hb, hg⟩ := h; exact ⟨by simpa using Ae hb 0 (.int .u64 x), hg⟩
theorem yC {W : World} {g : Nat} {f0 : Int} {f1 : Int} (h : W.heap[g]? = some (.cells #[.int .u64 f0, .int .u64 f1] 91 (0, 0))) : W.cell? ⟨g, 1, none⟩ = some (.int .u64 f1) := (ag h 1).trans rfl
theorem aX.Nq {w0 W : World} {g : Nat} {f0 : Int} {f1 : Int} (h : aX w0 W g f0 f1) (x : Int) : aX w0 (W.setCell ⟨g, 1, none⟩ (.int .u64 x)) g f0 x := by
 obtain ⟨hb, hg⟩ := h; exact ⟨by simpa using Ae hb 1 (.int .u64 x), hg⟩
theorem aX.new (w0 W : World) (f0 : Int) (f1 : Int) (hB : Below w0.heap.size w0 W) : aX w0 (W.alloc (.cells #[.int .u64 f0, .int .u64 f1] 91)) W.heap.size f0 f1 := ⟨by simpa using heap_alloc_new W _, hB.size⟩
end Go.Proofs.Ytihedeofkhapiaa.Pr
end
section
namespace Go.Proofs.Ytihedeofkhapiaa.Pr
open Go.RowKit Go.Proofs.YtihedeofkhapiaaW.PrintWords Go.Proofs.YtihedeofkhapiaaW.PrintLast Go.Proofs.YtihedeofkhapiaaW.PrintMore
theorem ko {w : World} {g : Nat} {t : TypeId} {a0 a1 : Value} (h : w.heap[g]? = some (.cells #[a0, a1] t (0, 0))) : w.cell? ⟨g, 0, none⟩ = some a0 ∧ w.cell? ⟨g, 1, none⟩ = some a1 ∧ w.frozen? ⟨g, 0, none⟩ = false ∧ w.frozen? ⟨g, 1, none⟩ = false := ⟨(ag h 0).trans rfl, (ag h 1).trans rfl, aM h 0, aM h 1⟩
theorem cells3 {w : World} {g : Nat} {t : TypeId} {a0 a1 a2 : Value} (h : w.heap[g]? = some (.cells #[a0, a1, a2] t (0, 0))) : w.cell? ⟨g, 0, none⟩ = some a0 ∧ w.cell? ⟨g, 1, none⟩ = some a1 ∧ w.cell? ⟨g, 2, none⟩ = some a2 ∧ w.frozen? ⟨g, 0, none⟩ = false ∧ w.frozen? ⟨g, 1, none⟩ = false ∧ w.frozen? ⟨g, 2, none⟩ = false := ⟨(ag h 0).trans rfl, (ag h 1).trans rfl, (ag h 2).trans rfl, aM h 0, aM h 1, aM h 2⟩
theorem aeC {w : World} {g : Nat} {t : TypeId} {a0 a1 a2 a3 : Value} (h : w.heap[g]? = some (.cells #[a0, a1, a2, a3] t (0, 0))) : w.cell? ⟨g, 0, none⟩ = some a0 ∧ w.cell? ⟨g, 1, none⟩ = some a1 ∧ w.cell? ⟨g, 2, none⟩ = some a2 ∧ w.cell? ⟨g, 3, none⟩ = some a3 ∧ w.frozen? ⟨g, 0, none⟩ = false ∧ w.frozen? ⟨g, 1, none⟩ = false ∧ w.frozen? ⟨g, 2, none⟩ = false ∧ w.frozen? ⟨g, 3, none⟩ = false := ⟨(ag h 0).trans rfl, (ag h 1).trans rfl, (ag h 2).trans rfl, (ag h 3).trans rfl, aM h 0, aM h 1, aM h 2, aM h 3⟩
theorem cells5 {w : World} {g : Nat} {t : TypeId} {a0 a1 a2 a3 a4 : Value} (h : w.heap[g]? = some (.cells #[a0, a1, a2, a3, a4] t (0, 0))) : w.cell? ⟨g, 0, none⟩ = some a0 ∧ w.cell? ⟨g, 1, none⟩ = some a1 ∧ w.cell? ⟨g, 2, none⟩ = some a2 ∧ w.cell? ⟨g, 3, none⟩ = some a3 ∧ w.cell? ⟨g, 4, none⟩ = some a4 ∧ w.frozen? ⟨g, 0, none⟩ = false ∧ w.frozen? ⟨g, 1, none⟩ = false ∧ w.frozen? ⟨g, 2, none⟩ = false ∧ w.frozen? ⟨g, 3, none⟩ = false ∧ w.frozen? ⟨g, 4, none⟩ = false := ⟨(ag h 0).trans rfl, (ag h 1).trans rfl, (ag h 2).trans rfl, (ag h 3).trans rfl, (ag h 4).trans rfl, aM h 0, aM h 1, aM h 2, aM h 3, aM h 4⟩
theorem aex {w : World} {g : Nat} {t : TypeId} {a0 a1 a2 a3 a4 a5 : Value} (h : w.heap[g]? = some (.cells #[a0, a1, a2, a3, a4, a5] t (0, 0))) : w.cell? ⟨g, 0, none⟩ = some a0 ∧ w.cell? ⟨g, 1, none⟩ = some a1 ∧ w.cell? ⟨g, 2, none⟩ = some a2 ∧ w.cell? ⟨g, 3, none⟩ = some a3 ∧ w.cell? ⟨g, 4, none⟩ = some a4 ∧ w.cell? ⟨g, 5, none⟩ = some a5 ∧ w.frozen? ⟨g, 0, none⟩ = false ∧ w.frozen? ⟨g, 1, none⟩ = false ∧ w.frozen? ⟨g, 2, none⟩ = false ∧ w.frozen? ⟨g, 3, none⟩ = false ∧ w.frozen? ⟨g, 4, none⟩ = false ∧ w.frozen? ⟨g, 5, none⟩ = false := ⟨(ag h 0).trans rfl, (ag h 1).trans rfl, (ag h 2).trans rfl, (ag h 3).trans rfl, (ag h 4).trans rfl, (ag h 5).trans rfl, aM h 0, aM h 1, aM h 2, aM h 3, aM h 4, aM h 5⟩
class inductive UpC : World → World → Prop
 | refl (w : World) : UpC w w
 | alloc {w w' : World} (o : Obj) (h : UpC w w') : UpC w (w'.alloc o)
 | drewN {w w' : World} (n : Nat) (h : UpC w w') : UpC w (w'.drewN n)
 | drew {w w' : World} (h : UpC w w') : UpC w w'.drew
instance UpC.iA {w w' : World} {o : Obj} [h : UpC w w'] : UpC w (w'.alloc o) := .alloc o h
instance UpC.iN {w w' : World} {n : Nat} [h : UpC w w'] : UpC w (w'.drewN n) := .drewN n h
instance UpC.iD {w w' : World} [h : UpC w w'] : UpC w w'.drew := .drew h
instance (priority := high) UpC.iR {w : World} : UpC w w := .refl w
theorem bU {w w' : World} {g : Nat} {o : Obj} (hb : w.heap[g]? = some o) [h : UpC w w'] : w'.heap[g]? = some o := by
 induction h with
 | refl => exact hb
 | alloc o _ ih => exact dm ih _
 | drewN n _ ih => exact gU ih _
 | drew _ ih => exact dQ ih
theorem rU {α : Type} {d : Kd α} {e : Nat} {w w' : World} {base : Nat} {ok : Nat → Prop} {v : Value} {xs : List α} (hb : Kd.R d e w base ok v xs) [h : UpC w w'] : Kd.R d e w' base ok v xs := by
 induction h with
 | refl => exact hb
 | alloc o _ ih => exact Kd.TF ih _
 | drewN n _ ih => exact Kd.P8 ih _
 | drew _ ih => exact Kd.qz ih
theorem nU {α : Type} {d : Kd α} {e : Nat} {w w' : World} {base : Nat} {ok : Nat → Prop} {v : Value} {xs : List α} (hb : Kd.N d e w base ok v xs) [h : UpC w w'] : Kd.N d e w' base ok v xs := by
 induction h with
 | refl => exact hb
 | alloc o _ ih => exact Kd.Qf ih _
 | drewN n _ ih => exact Kd.TL ih _
 | drew _ ih => exact Kd.uF ih
theorem vU {α : Type} {d : Kd α} {e : Nat} {w w' : World} {base : Nat} {ok : Nat → Prop} {v : Value} {xs : List α} (hb : Kd.V d e w base ok v xs) [h : UpC w w'] : Kd.V d e w' base ok v xs := by
 induction h with
 | refl => exact hb
 | alloc o _ ih => exact Kd.Tg ih _
 | drewN n _ ih => exact Kd.RH ih _
 | drew _ ih => exact Kd.Dk ih
theorem iU {w0 w w' : World} {g : Nat} {x y : Int} (hb : aX w0 w g x y) [h : UpC w w'] : aX w0 w' g x y := by
 induction h with
 | refl => exact hb
 | alloc o _ ih => exact aX.alloc ih _
 | drewN n _ ih => exact aX.drewN ih _
 | drew _ ih => exact aX.drew ih
theorem kU {w0 w w' : World} {g : Nat} (hb : ak w0 w g none) [h : UpC w w'] : ak w0 w' g none := by
 induction h with
 | refl => exact hb
 | alloc o _ ih => exact Hq ih _
 | drewN n _ ih => exact tY ih _
 | drew _ ih => exact qw ih
theorem lU {w0 w w' : World} (hb : Below w0.heap.size w0 w) [h : UpC w w'] : Below w0.heap.size w0 w' := by
 induction h with
 | refl => exact hb
 | alloc o _ ih => exact aV ih _
 | drewN n _ ih => exact cK ih _
 | drew _ ih => exact dD ih
def Db (s0_0 s0_1 : Int) : Int := Go.bits .xor .u64 (Go.bits .xor .u64 (Go.bits .xor .u64 (Go.bits .xor .u64 s0_0 (IntKind.u64.wrap (s0_0 * 8388608))) s0_1) ((Go.bits .xor .u64 s0_0 (IntKind.u64.wrap (s0_0 * 8388608))) / 131072)) (s0_1 / 67108864)
def eU.f (s0_0 : Int) (s0_1 : Int) : Option (Int × Int × Int) := if Go.bits .or .u64 s0_1 (Db s0_0 s0_1) = 0 then some (IntKind.u64.wrap (1 + s0_1), s0_1, 1) else some (IntKind.u64.wrap (Db s0_0 s0_1 + s0_1), s0_1, Db s0_0 s0_1)
def BD (s0_0 s0_1 : Int) : Int × Int := (s0_1, if Go.bits .or .u64 s0_1 (Db s0_0 s0_1) = 0 then 1 else Db s0_0 s0_1)
theorem O1 (a b : Int) : ∃ r, eU.f a b = some (r, (BD a b).1, (BD a b).2) := by
 unfold eU.f BD; split
 ·exact ⟨_, rfl⟩
 ·exact ⟨_, rfl⟩
theorem IE {P : Program} {c : Code} {Q : Exit → Act → World → Prop} {a : Act} {w0 w W : World} {g : Nat} {x y : Int} (hI : aX w0 W g x y) (hB : Below w0.heap.size w0 W) (hK : ak w W g none)
 (k : ∀ W', aX w0 W' g x y → Below w0.heap.size w0 W' → ak w W' g none → Code.wp P c Q a W') : Code.wp P c Q a W := k W hI hB hK
set_option maxHeartbeats 8000000 in
set_option maxRecDepth 100000 in
theorem eU.calls (g : Nat) (s0_0 : Int) (s0_1 : Int) (r1 : Int) (r2 : Int) (r3 : Int) (w0 w : World) (hI : aX w0 w g s0_0 s0_1) (hB : Below w0.heap.size w0 w) (h : eU.f s0_0 s0_1 = some (r1, r2, r3)) :
 Calls Try.prog 53 #[.pointer (some ⟨g, 0, none⟩)] w fun e w' => e = .returned (.int .u64 r1) ∧ aX w0 w' g r2 r3 ∧ Below w0.heap.size w0 w' ∧ ak w w' g none := by
 have HI0 := aa.mk hI; have HK := aa.mk (ak.refl w g none); have HB := aa.mk hB; obtain ⟨HGz3, hgz3⟩ := hI; have O6 := yH HGz3; have Ox := yC HGz3; have Mi := aM HGz3 0; have O7 := aM HGz3 1; clear HGz3 hgz3 hB; simp only [eU.f] at h; have Hh := aa.mk h; clear h; go_enter Try.func53, Try.ntmps53; go_wp2; go_quiet (fail); go_wp2; obtain ⟨X, hX⟩ : ∃ X, X = Db s0_0 s0_1 := ⟨_, rfl⟩; rw [show (Go.bits .xor .u64 (Go.bits .xor .u64 (Go.bits .xor .u64 (Go.bits .xor .u64 s0_0 (IntKind.u64.wrap (s0_0 * 8388608))) s0_1) ((Go.bits .xor .u64 s0_0 (IntKind.u64.wrap (s0_0 * 8388608))) / 131072)) (s0_1 / 67108864)) = X from hX.symm]; rw [← hX] at Hh; clear hX; refine IE (x := s0_1) (y := X) (w0 := w0) (w := w) (g := g) ?_ ?_ ?_ ?_
 ·exact aX.Nq (aX.YP (aX.drewN HI0.out _) _) _
 ·exact bV (bV (cK HB.out _) (aX.ge HI0.out)) (aX.ge HI0.out)
 ·exact ak.R5 (ak.R5 (tY HK.out _) _ _) _ _
 intro W hI2 hB2 hK2; clear O6 Ox Mi O7 HI0 HB HK; have HI := aa.mk hI2; have HB := aa.mk hB2; have HK := aa.mk hK2; obtain ⟨HGz3, hgz3⟩ := hI2; have O6 := yH HGz3; have Ox := yC HGz3; have Mi := aM HGz3 0; have O7 := aM HGz3 1; clear HGz3 hgz3 hB2 hK2; by_cases c2 : Go.bits .or .u64 s0_1 X = 0
 ·have h := Hh.out; rw [if_pos c2] at h; have GJ : (Go.bits .or .u64 s0_1 X == 0) = true := beq_iff_eq.mpr c2; clear c2 Hh; simp only [Option.some.injEq, Prod.mk.injEq] at h; obtain ⟨rfl, rfl, rfl⟩ := h; go_quiet (fail); go_wp2
  go_ret
  exact ⟨rfl, aX.Nq (aX.drewN HI.out _) _, bV (cK HB.out _) (aX.ge HI.out), ak.R5 (tY HK.out _) _ _⟩
 ·have h := Hh.out; rw [if_neg c2] at h; have GJ : (Go.bits .or .u64 s0_1 X == 0) = false := beq_eq_false_iff_ne.mpr c2; clear c2 Hh; simp only [Option.some.injEq, Prod.mk.injEq] at h; obtain ⟨rfl, rfl, rfl⟩ := h; go_quiet (fail); go_wp2
  go_ret
  exact ⟨rfl, aX.drewN HI.out _, cK HB.out _, tY HK.out _⟩
end Go.Proofs.Ytihedeofkhapiaa.Pr
end
section
namespace Go.Proofs.Ytihedeofkhapiaa.Pr
open Go.RowKit Go.Proofs.YtihedeofkhapiaaW.PrintWords Go.Proofs.YtihedeofkhapiaaW.PrintLast Go.Proofs.YtihedeofkhapiaaW.PrintMore
attribute [local go_sem] ol nV qa qb mK mF oq om
def aU.f (s0_0 : Int) (s0_1 : Int) (a1 : Int) : Option (Int × Int × Int) := if a1 < 2 then (some (0, s0_0, s0_1)) else ((eU.f s0_0 s0_1).bind fun Az => (if (IntKind.u64.wrap (a1)) = 0 then (none) else (some (wrap64 (Int.tmod (Az.1 / 2048) (IntKind.u64.wrap (a1))), Az.2.1, Az.2.2))))
set_option maxHeartbeats 8000000 in
set_option maxRecDepth 100000 in
theorem aU.calls (g : Nat) (s0_0 : Int) (s0_1 : Int) (a1 : Int) (r1 : Int) (r2 : Int) (r3 : Int) (w0 w : World) (hI : aX w0 w g s0_0 s0_1) (hB : Below w0.heap.size w0 w) (h : aU.f s0_0 s0_1 a1 = some (r1, r2, r3)) :
 Calls Try.prog 33 #[.pointer (some ⟨g, 0, none⟩), .int .i64 a1] w fun e w' => e = .returned (.int .i64 r1) ∧ aX w0 w' g r2 r3 ∧ Below w0.heap.size w0 w' ∧ ak w w' g none := by
 have HI0 := aa.mk hI; have HK := aa.mk (ak.refl w g none); have HL := aa.mk hB.size; clear hI; have HW0 := aa.mk hB.size; have HB := aa.mk hB; clear hB; have H : (if a1 < 2 then (some (0, s0_0, s0_1)) else ((eU.f s0_0 s0_1).bind fun Az => (if (IntKind.u64.wrap (a1)) = 0 then (none) else (some (wrap64 (Int.tmod (Az.1 / 2048) (IntKind.u64.wrap (a1))), Az.2.1, Az.2.2))))) = some (r1, r2, r3) := h; clear h; by_cases c3 : a1 < 2
 ·rw [if_pos c3] at H; have rX : decide (a1 < 2) = true := decide_eq_true c3; clear c3; simp only [Option.some.injEq, Prod.mk.injEq] at H; obtain ⟨rfl, rfl, rfl⟩ := H; go_enter Try.func33, Try.ntmps33; go_wp2
  go_ret
  exact ⟨by rfl, by exact HI0.out, by exact HB.out, by exact HK.out⟩
 ·rw [if_neg c3] at H; have rX : decide (a1 < 2) = false := decide_eq_false c3; clear c3; replace H := Option.bind_eq_some_iff.mp H; obtain ⟨⟨agd, afF, aga⟩, A40, H⟩ := H; dsimp only at H; have A4 := aa.mk A40; clear A40; by_cases c5 : (IntKind.u64.wrap (a1)) = 0
  ·rw [if_pos c5] at H; exact absurd H (by simp)
  ·rw [if_neg c5] at H; have BS : ((IntKind.u64.wrap (a1)) == 0) = false := beq_eq_false_iff_ne.mpr c5; have LJ : ((IntKind.u64.wrap (a1)) != 0) = true := bne_iff_ne.mpr c5; simp only [Option.some.injEq, Prod.mk.injEq] at H; obtain ⟨rfl, rfl, rfl⟩ := H; go_enter Try.func33, Try.ntmps33; go_wp2_with (((with_reducible refine bT (f := 53) rfl ?_); refine fC (some 8) rfl rfl Try.func53 (by kernel_rfl) rfl #[.pointer (some ⟨g, 0, none⟩)] rfl (by (simp only [List.map_toArray, List.map_cons, List.map_nil]); rfl) ?_; (with_reducible refine (eU.calls g s0_0 s0_1 agd afF aga w0 _ ?side1 ?side2 A4.out).mono ?_); (case side1 => exact HI0.out); (case side2 => exact HB.out); rintro e w6 ⟨rfl, hi, hb, hk⟩; refine ⟨_, rfl, ?_⟩; replace HK := aa.mk (ak.trans (by exact HK.out) hk (.inl rfl)); replace HB := aa.mk (hb); replace HI0 := aa.mk (hi); clear hb; clear hk; (clear hi)))
   go_ret
   exact ⟨by rfl, by exact HI0.out, by exact HB.out, by exact HK.out⟩
def dF.f (s0_0 : Int) (s0_1 : Int) (a1 : Int) (a2 : Int) : Option (Bool × Int × Int) := (aU.f s0_0 s0_1 a2).bind fun AF => (some (decide (AF.1 < a1), AF.2.1, AF.2.2))
set_option maxHeartbeats 8000000 in
set_option maxRecDepth 100000 in
theorem dF.calls (g : Nat) (s0_0 : Int) (s0_1 : Int) (a1 : Int) (a2 : Int) (r1 : Bool) (r2 : Int) (r3 : Int) (w0 w : World) (hI : aX w0 w g s0_0 s0_1) (hB : Below w0.heap.size w0 w) (h : dF.f s0_0 s0_1 a1 a2 = some (r1, r2, r3)) :
 Calls Try.prog 32 #[.pointer (some ⟨g, 0, none⟩), .int .i64 a1, .int .i64 a2] w fun e w' => e = .returned (.bool r1) ∧ aX w0 w' g r2 r3 ∧ Below w0.heap.size w0 w' ∧ ak w w' g none := by
 have HI0 := aa.mk hI; have HK := aa.mk (ak.refl w g none); have HL := aa.mk hB.size; clear hI; have HW0 := aa.mk hB.size; have HB := aa.mk hB; clear hB; have H : ((aU.f s0_0 s0_1 a2).bind fun AF => (some (decide (AF.1 < a1), AF.2.1, AF.2.2))) = some (r1, r2, r3) := h; clear h; replace H := Option.bind_eq_some_iff.mp H; obtain ⟨⟨afs, afH, afM⟩, A40, H⟩ := H; dsimp only at H; have A4 := aa.mk A40; clear A40; simp only [Option.some.injEq, Prod.mk.injEq] at H; obtain ⟨rfl, rfl, rfl⟩ := H; go_enter Try.func32, Try.ntmps32; go_wp2_with (((with_reducible refine bT (f := 33) rfl ?_); refine fC (some 9) rfl rfl Try.func33 (by kernel_rfl) rfl #[.pointer (some ⟨g, 0, none⟩), .int .i64 a2] rfl (by (simp only [List.map_toArray, List.map_cons, List.map_nil]); rfl) ?_; (with_reducible refine (aU.calls g s0_0 s0_1 a2 afs afH afM w0 _ ?side1 ?side2 A4.out).mono ?_); (case side1 => exact HI0.out); (case side2 => exact HB.out); rintro e w5 ⟨rfl, hi, hb, hk⟩; refine ⟨_, rfl, ?_⟩; replace HK := aa.mk (ak.trans (by exact HK.out) hk (.inl rfl)); replace HB := aa.mk (hb); replace HI0 := aa.mk (hi); clear hb; clear hk; (clear hi)))
 go_ret
 exact ⟨by rfl, by exact HI0.out, by exact HB.out, by exact HK.out⟩
def di.f (s0_0 : Int) (s0_1 : Int) (a1 : Int) (a2 : Int) : Option (Int × Int × Int) := (aU.f s0_0 s0_1 (wrap64 ((wrap64 (a2 - a1)) + 1))).bind fun Bq => (some (wrap64 (a1 + Bq.1), Bq.2.1, Bq.2.2))
set_option maxHeartbeats 8000000 in
set_option maxRecDepth 100000 in
theorem di.calls (g : Nat) (s0_0 : Int) (s0_1 : Int) (a1 : Int) (a2 : Int) (r1 : Int) (r2 : Int) (r3 : Int) (w0 w : World) (hI : aX w0 w g s0_0 s0_1) (hB : Below w0.heap.size w0 w) (h : di.f s0_0 s0_1 a1 a2 = some (r1, r2, r3)) :
 Calls Try.prog 50 #[.pointer (some ⟨g, 0, none⟩), .int .i64 a1, .int .i64 a2] w fun e w' => e = .returned (.int .i64 r1) ∧ aX w0 w' g r2 r3 ∧ Below w0.heap.size w0 w' ∧ ak w w' g none := by
 have HI0 := aa.mk hI; have HK := aa.mk (ak.refl w g none); have HL := aa.mk hB.size; clear hI; have HW0 := aa.mk hB.size; have HB := aa.mk hB; clear hB; have H : ((aU.f s0_0 s0_1 (wrap64 ((wrap64 (a2 - a1)) + 1))).bind fun Bq => (some (wrap64 (a1 + Bq.1), Bq.2.1, Bq.2.2))) = some (r1, r2, r3) := h; clear h; replace H := Option.bind_eq_some_iff.mp H; obtain ⟨⟨af7, aeL, afN⟩, A40, H⟩ := H; dsimp only at H; have A4 := aa.mk A40; clear A40; simp only [Option.some.injEq, Prod.mk.injEq] at H; obtain ⟨rfl, rfl, rfl⟩ := H; go_enter Try.func50, Try.ntmps50; go_wp2_with (((with_reducible refine bT (f := 33) rfl ?_); refine fC (some 13) rfl rfl Try.func33 (by kernel_rfl) rfl #[.pointer (some ⟨g, 0, none⟩), .int .i64 (wrap64 ((wrap64 (a2 - a1)) + 1))] rfl (by (simp only [List.map_toArray, List.map_cons, List.map_nil]); rfl) ?_; (with_reducible refine (aU.calls g s0_0 s0_1 (wrap64 ((wrap64 (a2 - a1)) + 1)) af7 aeL afN w0 _ ?side1 ?side2 A4.out).mono ?_); (case side1 => exact HI0.out); (case side2 => exact HB.out); rintro e w5 ⟨rfl, hi, hb, hk⟩; refine ⟨_, rfl, ?_⟩; replace HK := aa.mk (ak.trans (by exact HK.out) hk (.inl rfl)); replace HB := aa.mk (hb); replace HI0 := aa.mk (hi); clear hb; clear hk; (clear hi)))
 go_ret
 exact ⟨by rfl, by exact HI0.out, by exact HB.out, by exact HK.out⟩
mutual
def aD.l0 : Nat → Int → Int → Int → Int → Int → Int → List (S86) → Option (Int × Int × (List (S86)) × Int × Int)
 | 0, _, _, _, _, _, _, _ => none
 | k + 1, x7, x8, lw, lF, xB, wY, vF => if x8 > 0 then (aD.j1 k x7 x8 (decide (x7 < 26)) lw lF xB wY vF) else (aD.j1 k x7 x8 false lw lF xB wY vF)
def aD.j1 : Nat → Int → Int → Bool → Int → Int → Int → Int → List (S86) → Option (Int × Int × (List (S86)) × Int × Int)
 | 0, _, _, _, _, _, _, _, _ => none
 | k + 1, x7, x8, x27, lw, lF, xB, wY, vF => if x27 = true then ((aU.f lw lF (mn 4 (wrap64 (26 - x7)))).bind fun wV => ((di.f wV.2.1 wV.2.2 1 31).bind fun Al => (if vF.length < 8796093022208 then (aD.l0 k (wrap64 ((wrap64 (x7 + wV.1)) + 1)) (wrap64 (x8 - 1)) Al.2.1 Al.2.2 xB wY (vF ++ [(⟨(wrap64 (65 + (wrap64 (x7 + wV.1)))) % 256, Al.1⟩ : S86)])) else (none)))) else (some (xB, wY, vF, lw, lF))
end
def aD.f (k : Nat) (s0_0 : Int) (s0_1 : Int) (a1 : Int) : Option (Int × Int × (List (S86)) × Int × Int) := (di.f s0_0 s0_1 (-600) 300).bind fun xk => ((aU.f xk.2.1 xk.2.2 200).bind fun Bf => ((di.f Bf.2.1 Bf.2.2 1 a1).bind fun Ba => (aD.l0 k 0 Ba.1 Ba.2.1 Ba.2.2 xk.1 (wrap64 (xk.1 + Bf.1)) ([] : List (S86)))))
theorem aD.fO : ∀ k, (∀ y0 y1 y2 y3 y4 y5 y6, LeO (aD.l0 k y0 y1 y2 y3 y4 y5 y6) (aD.l0 (k + 1) y0 y1 y2 y3 y4 y5 y6)) ∧ (∀ y0 y1 y2 y3 y4 y5 y6 y7, LeO (aD.j1 k y0 y1 y2 y3 y4 y5 y6 y7) (aD.j1 (k + 1) y0 y1 y2 y3 y4 y5 y6 y7))
 | 0 => ⟨fun _ _ _ _ _ _ _ r h => by simp [aD.l0] at h, fun _ _ _ _ _ _ _ _ r h => by simp [aD.j1] at h⟩
 | k + 1 => by
  obtain ⟨ih0, ih1⟩ := aD.fO k; refine ⟨?_, ?_⟩
  ·intro y0 y1 y2 y3 y4 y5 y6; unfold aD.l0
   repeat' first | (with_reducible exact ih1 _ _ _ _ _ _ _ _) | (with_reducible refine LeO.ite ?_ ?_)
  ·intro y0 y1 y2 y3 y4 y5 y6 y7; unfold aD.j1
   repeat' first | (with_reducible exact ih0 _ _ _ _ _ _ _) | (with_reducible exact LeO.refl _) | (with_reducible refine LeO.ite ?_ ?_) | (with_reducible refine LeO.bind ?_ (fun _ => ?_))
theorem aD.mono : ∀ a0 a1 a2 k, LeO (aD.f k a0 a1 a2) (aD.f (k + 1) a0 a1 a2) := by
 intro a0 a1 a2 k; obtain ⟨ih0, ih1⟩ := aD.fO k; unfold aD.f
 repeat' first | (with_reducible exact ih0 _ _ _ _ _ _ _) | (with_reducible exact LeO.refl _) | (with_reducible refine LeO.bind ?_ (fun _ => ?_))
def aD.T8 : Bool × List (List Nat × List Nat) := (true, [([], []), ([0], [0]), ([], []), ([2], [2]), ([3], [3]), ([], []), ([5], [5]), ([4, 6], [4, 6]), ([7], [7]), ([1, 8, 6], [1, 8]), ([0, 1, 2, 3, 4, 5, 6, 7, 8, 9], []), ([10, 9, 9, 0, 1, 2, 3, 4, 5, 6, 7, 8, 9], [9, 10])])
def aD.B8 : List Nat := [0, 1, 0, 4, 12, 0, 32, 124, 252, 511, 1023, 2047]
theorem aD.afX : ow .any (opsOf Try.f51 8) = aD.T8 := by kernel_rfl
theorem aD.Z8 : mX aD.T8.2 aD.B8 = true := by kernel_rfl
set_option maxHeartbeats 8000000 in
set_option maxRecDepth 100000 in
theorem aD.calls (k : Nat) (g : Nat) (s0_0 : Int) (s0_1 : Int) (a1 : Int) (r1 : Int) (r2 : Int) (r3 : List (S86)) (r4 : Int) (r5 : Int) (w0 w : World) (hI : aX w0 w g s0_0 s0_1) (hB : Below w0.heap.size w0 w) (h : aD.f k s0_0 s0_1 a1 = some (r1, r2, r3, r4, r5)) :
 Calls Try.prog 51 #[.pointer (some ⟨g, 0, none⟩), .int .i64 a1] w fun e w' => ∃ v2_ : Value, e = .returned (.agg #[.int .i64 r1, .int .i64 r2, v2_]) ∧ Kd.R k86 86 w' w.heap.size (fun _ => True) v2_ r3 ∧ aX w0 w' g r4 r5 ∧ Below w0.heap.size w0 w' ∧ ak w w' g none := by
 have hu66 := Try.underlying66; have hu63 := Try.underlying63; have hu86 := Try.underlying86; have HI0 := aa.mk hI; have HK := aa.mk (ak.refl w g none); have HL := aa.mk hB.size; clear hI; have HW0 := aa.mk hB.size; have HB := aa.mk hB; clear hB; have H : ((di.f s0_0 s0_1 (-600) 300).bind fun xk => ((aU.f xk.2.1 xk.2.2 200).bind fun Bf => ((di.f Bf.2.1 Bf.2.2 1 a1).bind fun Ba => (aD.l0 k 0 Ba.1 Ba.2.1 Ba.2.2 xk.1 (wrap64 (xk.1 + Bf.1)) ([] : List (S86)))))) = some (r1, r2, r3, r4, r5) := h; clear h; replace H := Option.bind_eq_some_iff.mp H; obtain ⟨⟨oC, ZY, Ym⟩, A30, H⟩ := H; dsimp only at H; have A3 := aa.mk A30; clear A30; replace H := Option.bind_eq_some_iff.mp H; obtain ⟨⟨xK, QA, PZ⟩, A40, H⟩ := H; dsimp only at H; have A4 := aa.mk A40; clear A40; replace H := Option.bind_eq_some_iff.mp H; obtain ⟨⟨aa6, aae, Zf⟩, A50, H⟩ := H; dsimp only at H; have A5 := aa.mk A50; clear A50; have H' := aa.mk H; clear H; go_enter Try.func51, Try.ntmps51; (go_wp2_with (first | ((with_reducible refine dh (N := 4) rfl ?_); refine dA ?hg (N := 4) ?hd (cs := #[.int .i64 0, .int .i64 0, .slice none 0 0]) (t := 66) ?hr ?_; (case hd => rfl); (case hg => rfl); (case hr => (go_simp; done)); intro pV hg w6 hbox hb; replace HB := aa.mk (aW (by exact HB.out) hb); have kw := aa.mk (hbox); have ZT := aa.mk ((by rw [hg]; exact (bZ (w := w) (g := g) (row := none) (by exact HK.out)) : w.heap.size ≤ pV)); have Zv := aa.mk ((Nat.le_trans HW0.out (by rw [hg]; exact (bZ (w := w) (g := g) (row := none) (by exact HK.out)) : w.heap.size ≤ pV) : w0.heap.size ≤ pV)); replace HK := aa.mk (ak.trans (by exact HK.out) (ak.of_below hb g none) (.inl rfl)); have JN := aa.mk ((by rw [hg]; exact Nat.ne_of_lt (aX.lt (show aX w0 _ g s0_0 s0_1 from by exact HI0.out)) : g ≠ pV)); have vY := aa.mk ((by rw [hg]; exact Nat.ne_of_gt (aX.lt (show aX w0 _ g s0_0 s0_1 from by exact HI0.out)) : pV ≠ g)); replace HI0 := aa.mk (aX.below (by exact HI0.out) hb); clear hb hbox hg) | ((with_reducible refine bT (f := 50) rfl ?_); refine fC (some 11) rfl rfl Try.func50 (by kernel_rfl) rfl #[.pointer (some ⟨g, 0, none⟩), .int .i64 (-600), .int .i64 300] rfl (by (simp only [List.map_toArray, List.map_cons, List.map_nil]); rfl) ?_; (with_reducible refine (di.calls g s0_0 s0_1 (-600) 300 oC ZY Ym w0 _ ?side1 ?side2 A3.out).mono ?_); (case side1 => exact HI0.out); (case side2 => exact HB.out); rintro e w7 ⟨rfl, hi, hb, hk⟩; refine ⟨_, rfl, ?_⟩; replace kw := aa.mk (ak.blk hk (bU kw.out) vY.out (by simp)); replace HK := aa.mk (ak.trans (by exact HK.out) hk (.inl rfl)); replace HB := aa.mk (hb); replace HI0 := aa.mk (hi); clear hb; clear hk; (clear hi)) | ((with_reducible refine bT (f := 33) rfl ?_); refine fC (some 15) rfl rfl Try.func33 (by kernel_rfl) rfl #[.pointer (some ⟨g, 0, none⟩), .int .i64 200] rfl (by (simp only [List.map_toArray, List.map_cons, List.map_nil]); rfl) ?_; (with_reducible refine (aU.calls g ZY Ym 200 xK QA PZ w0 _ ?side1 ?side2 A4.out).mono ?_); (case side1 => exact HI0.out); (case side2 => exact HB.out); rintro e w8 ⟨rfl, hi, hb, hk⟩; refine ⟨_, rfl, ?_⟩; replace kw := aa.mk (ak.blk hk (bU kw.out) vY.out (by simp)); replace HK := aa.mk (ak.trans (by exact HK.out) hk (.inl rfl)); replace HB := aa.mk (hb); replace HI0 := aa.mk (hi); clear hb; clear hk; (clear hi)) | ((with_reducible refine dh (N := 6) rfl ?_); refine dA ?hg (N := 6) ?hd (cs := #[.int .i64 0, .int .i64 0, .slice none 0 0]) (t := 66) ?hr ?_; (case hd => rfl); (case hg => rfl); (case hr => (go_simp; done)); intro qH hg w9 hbox hb; replace HB := aa.mk (aW (by exact HB.out) hb); have jo := aa.mk (hbox); have Ur := aa.mk ((by rw [hg]; exact (bZ (w := w) (g := g) (row := none) (by exact HK.out)) : w.heap.size ≤ qH)); have Vu := aa.mk ((Nat.le_trans HW0.out (by rw [hg]; exact (bZ (w := w) (g := g) (row := none) (by exact HK.out)) : w.heap.size ≤ qH) : w0.heap.size ≤ qH)); replace HK := aa.mk (ak.trans (by exact HK.out) (ak.of_below hb g none) (.inl rfl)); have oL := aa.mk ((by rw [hg]; exact Nat.ne_of_lt (bF (g := pV) (o := .cells #[.int .i64 0, .int .i64 0, .slice none 0 0] 66 (0, 0)) (bU kw.out)) : pV ≠ qH)); have yU := aa.mk ((by rw [hg]; exact Nat.ne_of_gt (bF (g := pV) (o := .cells #[.int .i64 0, .int .i64 0, .slice none 0 0] 66 (0, 0)) (bU kw.out)) : qH ≠ pV)); replace kw := aa.mk (aG (bU kw.out) hb); have zX := aa.mk ((by rw [hg]; exact Nat.ne_of_lt (aX.lt (show aX w0 _ g QA PZ from by exact HI0.out)) : g ≠ qH)); have xG := aa.mk ((by rw [hg]; exact Nat.ne_of_gt (aX.lt (show aX w0 _ g QA PZ from by exact HI0.out)) : qH ≠ g)); replace HI0 := aa.mk (aX.below (by exact HI0.out) hb); clear hb hbox hg; have agu := yU.out; have ahM := oL.out; have Vz := xG.out; have U2 := zX.out; obtain ⟨Af, zP, I4, zT, zY, Km⟩ := cells3 jo.out) | ((with_reducible refine bT (f := 50) rfl ?_); refine fC (some 21) rfl rfl Try.func50 (by kernel_rfl) rfl #[.pointer (some ⟨g, 0, none⟩), .int .i64 1, .int .i64 a1] rfl (by (simp only [List.map_toArray, List.map_cons, List.map_nil]); rfl) ?_; (with_reducible refine (di.calls g QA PZ 1 a1 aa6 aae Zf w0 _ ?side1 ?side2 A5.out).mono ?_); (case side1 => repeat ((with_reducible first | exact HI0.out | refine aX.far ?_ zX.out _))); (case side2 => repeat ((with_reducible first | exact HB.out | refine bV ?_ Vu.out))); rintro e w13 ⟨rfl, hi, hb, hk⟩; refine ⟨_, rfl, ?_⟩; replace kw := aa.mk (ak.blk hk (g' := pV) (o := .cells #[.int .i64 0, .int .i64 0, .slice none 0 0] 66 (0, 0)) (by (with_reducible skip); refine bC ?_ oL.out _; (with_reducible skip); refine bC ?_ oL.out _; (with_reducible skip); refine bC ?_ oL.out _; (with_reducible skip); exact kw.out) vY.out (by simp)); replace jo := aa.mk (ak.blk hk (g' := qH) (o := .cells #[.int .i64 oC, .int .i64 (wrap64 (oC + xK)), .slice none 0 0] 66 (0, 0)) (by (with_reducible skip); refine bR (cs := #[.int .i64 oC, .int .i64 (wrap64 (oC + xK)), .slice none 0 0]) ?_ 2 _ rfl; (with_reducible skip); refine bR (cs := #[.int .i64 oC, .int .i64 0, .slice none 0 0]) ?_ 1 _ rfl; (with_reducible skip); refine bR (cs := #[.int .i64 0, .int .i64 0, .slice none 0 0]) ?_ 0 _ rfl; (with_reducible skip); exact jo.out) xG.out (by simp)); replace HK := aa.mk (ak.trans (by repeat ((with_reducible first | exact HK.out | refine lX ?_ Ur.out _))) hk (.inl rfl)); replace HB := aa.mk (hb); replace HI0 := aa.mk (hi); clear hb; clear hk; (clear hi)))); (go_loopg [7, 8] k (fun kq v7 v8 w' => ∃ (wy : Int) (Cr : Int) (kV : Int) (kN : Int) (ku : List (S86)) (qh : Value), v7 = .int .i64 wy ∧ v8 = .int .i64 Cr ∧ aa (aD.l0 kq wy Cr kV kN oC (wrap64 (oC + xK)) ku = some (r1, r2, r3, r4, r5)) ∧ aa (kq ≤ k) ∧ aa (Kd.R k86 86 w' w.heap.size (fun _ => True) qh ku) ∧ aa (w'.heap[pV]? = some (.cells #[.int .i64 0, .int .i64 0, (.slice none 0 0)] 66 (0, 0))) ∧ aa (w'.heap[qH]? = some (.cells #[.int .i64 oC, .int .i64 (wrap64 (oC + xK)), qh] 66 (0, 0))) ∧ aa (aX w0 w' g kV kN) ∧ aa (ak w w' g none) ∧ aa (Below w0.heap.size w0 w'))); case atStart => exact ⟨(0), (aa6), (aae), (Zf), (([] : List (S86))), (.slice none 0 0), (by rfl), (by rfl), H', ⟨Nat.le_refl _⟩, ⟨by exact Kd.wC _ _ _ _ _⟩, ⟨by (with_reducible skip); exact kw.out⟩, ⟨by (with_reducible skip); exact jo.out⟩, ⟨by exact HI0.out⟩, ⟨by exact HK.out⟩, ⟨by exact HB.out⟩⟩
 case round =>
  clear H' Af zP I4 zT zY Km; obtain ⟨wy, Cr, kV, kN, ku, qh, rfl, rfl, HA, HK1, ig, kw, jo, HI0, HK, HB⟩ := hrel
  cases gk with
  | zero => exact absurd HA.out (by simp [aD.l0])
  | succ k1 =>
   have H := HA.out; clear HA; simp only [aD.l0] at H; have Xx := aa.mk H; clear H; (go_upto_region 5 with (fail)); go_cut [27] (fun v27 wc => ∃ (kq : Nat) (EA : Bool), v27 = .bool EA ∧ aa (aD.j1 kq wy Cr EA kV kN oC (wrap64 (oC + xK)) ku = some (r1, r2, r3, r4, r5)) ∧ aa (kq ≤ k1) ∧ aa (Kd.R k86 86 wc w.heap.size (fun _ => True) qh ku) ∧ aa (wc.heap[pV]? = some (.cells #[.int .i64 0, .int .i64 0, (.slice none 0 0)] 66 (0, 0))) ∧ aa (wc.heap[qH]? = some (.cells #[.int .i64 oC, .int .i64 (wrap64 (oC + xK)), qh] 66 (0, 0))) ∧ aa (aX w0 wc g kV kN) ∧ aa (ak w wc g none) ∧ aa (Below w0.heap.size w0 wc))
   case first =>
    have H := Xx.out; clear Xx; by_cases c15 : Cr > 0
    ·rw [if_pos c15] at H; have UX : decide (0 < Cr) = true := decide_eq_true c15; clear c15; (skip); have H' := aa.mk H; clear H; go_wp2; go_meet; case rel => exact ⟨_, (decide (wy < 26)), (by rfl), H', ⟨by have := HK1.out; omega⟩, ⟨by (with_reducible skip); exact ig.out⟩, ⟨by (with_reducible skip); exact kw.out⟩, ⟨by (with_reducible skip); exact jo.out⟩, ⟨by exact HI0.out⟩, ⟨by exact HK.out⟩, ⟨by exact HB.out⟩⟩
    ·rw [if_neg c15] at H; have UX : decide (0 < Cr) = false := decide_eq_false c15; clear c15; (skip); have H' := aa.mk H; clear H; go_wp2; go_meet; case rel => exact ⟨_, (false), (by rfl), H', ⟨by have := HK1.out; omega⟩, ⟨by (with_reducible skip); exact ig.out⟩, ⟨by (with_reducible skip); exact kw.out⟩, ⟨by (with_reducible skip); exact jo.out⟩, ⟨by exact HI0.out⟩, ⟨by exact HK.out⟩, ⟨by exact HB.out⟩⟩
   case rest =>
    clear Xx; obtain ⟨kq, EA, rfl, HA, HJ13, ig, kw, jo, HI0, HK, HB⟩ := hcut
    cases kq with
    | zero => exact absurd HA.out (by simp [aD.j1])
    | succ kj13 =>
     have H := HA.out; clear HA; simp only [aD.j1] at H; by_cases c16 : EA = true
     ·subst c16; rw [if_pos rfl] at H; obtain ⟨Ug, UE⟩ : ∃ j_ : Int, (mn 4 (wrap64 (26 - wy))) = j_ := ⟨_, rfl⟩; (replace H : ((aU.f kV kN (Ug)).bind fun wV => ((di.f wV.2.1 wV.2.2 1 31).bind fun Al => (if ku.length < 8796093022208 then (aD.l0 kj13 (wrap64 ((wrap64 (wy + wV.1)) + 1)) (wrap64 (Cr - 1)) Al.2.1 Al.2.2 oC (wrap64 (oC + xK)) (ku ++ [(⟨(wrap64 (65 + (wrap64 (wy + wV.1)))) % 256, Al.1⟩ : S86)])) else (none)))) = some (r1, r2, r3, r4, r5) := by (rw [UE] at H; exact H)); have afp : (if (wrap64 (26 - wy)) < 4 then (wrap64 (26 - wy)) else 4) = Ug := UE; replace H := Option.bind_eq_some_iff.mp H; obtain ⟨⟨Iw, We, V7⟩, YT, H⟩ := H; dsimp only at H; have A18 := aa.mk YT; clear YT; replace H := Option.bind_eq_some_iff.mp H; obtain ⟨⟨PS, VS, XA⟩, N8, H⟩ := H; dsimp only at H; have A19 := aa.mk N8; clear N8; by_cases c20 : ku.length < 8796093022208
      ·rw [if_pos c20] at H; have OD := aa.mk c20; clear c20; obtain ⟨QW, Nt⟩ : ∃ y_ : List (S86), y_ = (ku ++ [(⟨(wrap64 (65 + (wrap64 (wy + Iw)))) % 256, PS⟩ : S86)]) := ⟨_, rfl⟩; (replace H : (aD.l0 kj13 (wrap64 ((wrap64 (wy + Iw)) + 1)) (wrap64 (Cr - 1)) VS XA oC (wrap64 (oC + xK)) QW) = some (r1, r2, r3, r4, r5) := by (rw [Nt]; with_reducible exact H)); have X5 := aa.mk Nt; clear Nt; have H' := aa.mk H; clear H; (go_wp2_with (((with_reducible refine bT (f := 33) rfl ?_); refine fC (some 35) rfl rfl Try.func33 (by kernel_rfl) rfl #[.pointer (some ⟨g, 0, none⟩), .int .i64 Ug] rfl (by (simp only [List.map_toArray, List.map_cons, List.map_nil]); rfl) ?_; (with_reducible refine (aU.calls g kV kN Ug Iw We V7 w0 _ ?side1 ?side2 A18.out).mono ?_); (case side1 => exact HI0.out); (case side2 => exact HB.out); rintro e w21 ⟨rfl, hi, hb, hk⟩; refine ⟨_, rfl, ?_⟩; replace ig := aa.mk (Kd.df (Kd.lG (aX.apart (show aX w0 _ g kV kN from by exact HI0.out) (rU ig.out) (by decide)) hk (fun _ h => h.2)) (fun _ h => h.1)); replace kw := aa.mk (ak.blk hk (bU kw.out) vY.out (by simp)); replace jo := aa.mk (ak.blk hk (bU jo.out) xG.out (by simp)); replace HK := aa.mk (ak.trans (by exact HK.out) hk (.inl rfl)); replace HB := aa.mk (hb); replace HI0 := aa.mk (hi); clear hb; clear hk; (clear hi)))); replace ig := aa.mk (Kd.qz ig.out); replace kw := aa.mk (dQ kw.out); replace jo := aa.mk (dQ jo.out); replace HI0 := aa.mk (aX.drew HI0.out); replace HK := aa.mk (qw HK.out); replace HB := aa.mk (dD HB.out); refine rP (n := 12) (S := fun w' => w'.cell? ⟨qH, 0, none⟩ = some (.int .i64 oC) ∧ w'.cell? ⟨qH, 1, none⟩ = some (.int .i64 (wrap64 (oC + xK))) ∧ w'.cell? ⟨qH, 2, none⟩ = some (qh)) (ds := [11]) #[false, false, false, false, false, false, false, false, false, false, false, false] (by kernel_rfl) rfl rfl ⟨(ag jo.out 0).trans rfl, (ag jo.out 1).trans rfl, (ag jo.out 2).trans rfl⟩ (fun cz => ?_); refine nH aD.afX aD.Z8 (fun HT_ HW_ => ?_); generalize w21.drew = w22 at ig kw jo HI0 HK HB cz ⊢; refine eY (i := 0) (N := some 37) (v := ?_) (a' := ?_) #[true, false, false, false, false, false, false, false, false, false, false, false] rfl rfl (dP HT_.out (by kernel_rfl)) (fun _ _ _ h => h) (Or.inl ⟨by rfl, ?_⟩) ?_ ?_; rotate_left
       ·intro w'; go_simp; with_reducible rfl
       rotate_left
       ·simp only [Act.put, List.setIfInBounds_toArray, List.set_cons_zero, List.set_cons_succ, cu, cZ]; rfl
       refine eY (i := 2) (N := some 39) (v := ?_) (a' := ?_) #[true, false, true, false, false, false, false, false, false, false, false, false] rfl rfl (dP HT_.out (by kernel_rfl)) (fun _ _ _ h => h) (Or.inl ⟨by rfl, ?_⟩) ?_ ?_; rotate_left
       ·intro w'; go_simp; with_reducible rfl
       rotate_left
       ·simp only [Act.put, List.setIfInBounds_toArray, List.set_cons_zero, List.set_cons_succ, cu, cZ]; rfl
       refine eY (i := 3) (N := some 40) (v := ?_) (a' := ?_) #[true, false, true, true, false, false, false, false, false, false, false, false] rfl rfl (dP HT_.out (by kernel_rfl)) (fun _ _ _ h => h) (Or.inl ⟨by rfl, ?_⟩) ?_ ?_; rotate_left
       ·intro w'; go_simp; with_reducible rfl
       rotate_left
       ·simp only [Act.put, List.setIfInBounds_toArray, List.set_cons_zero, List.set_cons_succ, cu, cZ]; rfl
       refine eY (i := 4) (N := some 41) (v := ?_) (a' := ?_) #[true, false, true, true, true, false, false, false, false, false, false, false] rfl rfl (dP HT_.out (by kernel_rfl)) (fun _ _ _ h => h) (Or.inl ⟨by rfl, ?_⟩) ?_ ?_; rotate_left
       ·intro w'; go_simp; with_reducible rfl
       rotate_left
       ·simp only [Act.put, List.setIfInBounds_toArray, List.set_cons_zero, List.set_cons_succ, cu, cZ]; rfl
       refine eY (i := 5) (N := some 42) (v := ?_) (a' := ?_) #[true, false, true, true, true, true, false, false, false, false, false, false] rfl rfl (dP HT_.out (by kernel_rfl)) (fun _ _ _ h => h) (Or.inl ⟨by rfl, ?_⟩) ?_ ?_; rotate_left
       ·intro w'; go_simp; with_reducible rfl
       rotate_left
       ·simp only [Act.put, List.setIfInBounds_toArray, List.set_cons_zero, List.set_cons_succ, cu, cZ]; rfl
       refine kJ (i := 1) (N := some 38) (v := ?_) (a' := ?_) #[true, true, true, true, true, true, false, false, false, false, false, false] rfl rfl (gW HT_.out HW_.out (by kernel_rfl)) (fun _ _ _ h => h) (Or.inl ⟨by rfl, ?_⟩) cz ?_ ?_; rotate_left
       ·rintro w' ⟨s0, s1, s2⟩; go_simp; with_reducible rfl
       rotate_left
       ·simp only [Act.put, List.setIfInBounds_toArray, List.set_cons_zero, List.set_cons_succ, cu, cZ]; rfl
       refine qd (i := 6) (N := some 43) #[true, true, true, true, true, true, true, false, false, false, false, false] rfl rfl (iQ HT_.out (by kernel_rfl)) (by decide) (fun K hK => ?_); refine Gd Try.func50 (by kernel_rfl) rfl #[.pointer (some ⟨g, 0, none⟩), .int .i64 1, .int .i64 31] (by rfl) rfl rfl (by (simp only [List.map_toArray, List.map_cons, List.map_nil]); rfl) ?_; (with_reducible refine (di.calls g We V7 1 31 PS VS XA w0 _ ?side1 ?side2 A19.out).mono ?_); (case side1 => exact HI0.out); (case side2 => exact HB.out); rintro e w23 ⟨rfl, hi, hb, hk⟩; refine ⟨_, rfl, ?_⟩; replace ig := aa.mk (Kd.df (Kd.lG (aX.apart (show aX w0 _ g We V7 from by exact HI0.out) (rU ig.out) (by decide)) hk (fun _ h => h.2)) (fun _ h => h.1)); replace kw := aa.mk (ak.blk hk (bU kw.out) vY.out (by simp)); replace jo := aa.mk (ak.blk hk (bU jo.out) xG.out (by simp)); replace HK := aa.mk (ak.trans (by exact HK.out) hk (.inl rfl)); replace HB := aa.mk (hb); replace HI0 := aa.mk (hi); (clear hb); (skip); (clear hk); (clear hi); refine hK.out _ _ ⟨(ag jo.out 0).trans rfl, (ag jo.out 1).trans rfl, (ag jo.out 2).trans rfl⟩ (fun cz => ?_); clear hK K; refine gI (a' := ?_) ?_ ?_; rotate_left
       ·show Act.put _ (some 43) _ = _; simp only [Act.put, List.setIfInBounds_toArray, List.set_cons_zero, List.set_cons_succ, cu, cZ]; rfl
       refine eY (i := 7) (N := some 44) (v := ?_) (a' := ?_) #[true, true, true, true, true, true, true, true, false, false, false, false] rfl rfl (dP HT_.out (by kernel_rfl)) (fun _ _ _ h => h) (Or.inl ⟨by rfl, ?_⟩) ?_ ?_; rotate_left
       ·intro w'; go_simp; with_reducible rfl
       rotate_left
       ·simp only [Act.put, List.setIfInBounds_toArray, List.set_cons_zero, List.set_cons_succ, cu, cZ]; rfl
       refine qd (i := 8) (N := some 45) #[true, true, true, true, true, true, true, true, true, false, false, false] rfl rfl (iQ HT_.out (by kernel_rfl)) (by decide) (fun K hK => ?_); refine yB (w1 := ?_) (v := ?_) (by rfl) rfl ?_ ?_; rotate_left 2
       ·go_simp; constructor
        ·rfl
        ·rfl
       refine hK.out _ _ ⟨(ag (dm jo.out _) 0).trans rfl, (ag (dm jo.out _) 1).trans rfl, (ag (dm jo.out _) 2).trans rfl⟩ (fun cz => ?_); clear hK K; refine gI (a' := ?_) ?_ ?_; rotate_left
       ·show Act.put _ (some 45) _ = _; simp only [Act.put, List.setIfInBounds_toArray, List.set_cons_zero, List.set_cons_succ, cu, cZ]; rfl
       refine qd (i := 9) (N := some 46) #[true, true, true, true, true, true, true, true, true, true, false, false] rfl rfl (iQ HT_.out (by kernel_rfl)) (by decide) (fun K hK => ?_); refine Kd.rQ k86 w.heap.size (by rfl) (.tmp 38) (.tmp 45) 64 86 (.agg #[(.int .u8 0), (.int .i64 0)]) 16 rfl Try.underlying64 OY rfl (by decide) (by omega) qh ku (⟨(wrap64 (65 + (wrap64 (wy + Iw)))) % 256, PS⟩ : S86) [.int .u8 ((wrap64 (65 + (wrap64 (wy + Iw)))) % 256), .int .i64 PS] (fun _ => True) (fun _ => False) rfl rfl ?aP (fun _ hk => hk.elim) ?aF ?aO (Below.refl _ _) ?aS ?aL ?_; (case aP => exact tZ _ _ _ (⟨(wrap64 (65 + (wrap64 (wy + Iw)))) % 256, PS⟩ : S86)); (case aF => exact (fun _ _ => trivial)); (case aO => exact (rU ig.out)); (case aS => exact (bZ (w := w) (g := g) (row := none) (by exact HK.out))); (case aL => have := OD.out; omega); intro aiz w24 ho hb hg hat; rw [← X5.out] at ho; replace kw := aa.mk (dn (bU kw.out) hg (Kd.mP ig.out kw.out (by decide))); replace jo := aa.mk (dn (bU jo.out) hg (Kd.mP ig.out jo.out (by decide))); replace HI0 := aa.mk (aX.grown (by exact HI0.out) hg (aX.own_ne HI0.out ig.out (by decide))); replace HB := aa.mk (lM (by exact HB.out) HL.out hb); replace HK := aa.mk (ak.trans (by exact HK.out) (ak.mU hg g) (Kd.wh ig.out)); have UO := aa.mk (ho); clear ig ho hb hg hat; obtain ⟨Qh, Sb, Xg⟩ := Kd.fu UO.out; (subst Xg); refine hK.out _ _ ⟨(ag jo.out 0).trans rfl, (ag jo.out 1).trans rfl, (ag jo.out 2).trans rfl⟩ (fun cz => ?_); clear hK K; refine gI (a' := ?_) ?_ ?_; rotate_left
       ·show Act.put _ (some 46) _ = _; simp only [Act.put, List.setIfInBounds_toArray, List.set_cons_zero, List.set_cons_succ, cu, cZ]; rfl
       refine eY (i := 10) (N := some 47) (v := ?_) (a' := ?_) #[true, true, true, true, true, true, true, true, true, true, true, false] rfl rfl (dP HT_.out (by kernel_rfl)) (fun _ _ _ h => h) (Or.inl ⟨by rfl, ?_⟩) ?_ ?_; rotate_left
       ·intro w'; go_simp; with_reducible rfl
       rotate_left
       ·simp only [Act.put, List.setIfInBounds_toArray, List.set_cons_zero, List.set_cons_succ, cu, cZ]; rfl
       refine Cc (i := 11) (N := none) #[true, true, true, true, true, true, true, true, true, true, true, true] rfl rfl (iQ HT_.out (by kernel_rfl)) (by decide) (fun K hK => ?_); have hs26 : w24.cell? ⟨qH, 2, none⟩ = some (qh) := (ag jo.out 2).trans rfl; have hfs26 := aM jo.out 2; have hns26_0 := oL.out; have hms26_0 := yU.out; refine wJ (w1 := ?_) (by rfl) rfl ?_ ?_; rotate_left
       ·go_simp; rfl
       refine hK.out _ _ ?_; clear hK K; refine wG (rq HT_.out (by kernel_rfl)) ?_; go_wp2; go_roundg kj13; (case measure => have := HK1.out; have := HJ13.out; omega); case rel => exact ⟨(wrap64 ((wrap64 (wy + Iw)) + 1)), (wrap64 (Cr - 1)), (VS), (XA), (QW), (.slice Qh QW.length Sb), (by rfl), (by rfl), H', ⟨by have := HK1.out; have := HJ13.out; omega⟩, ⟨by (with_reducible skip); exact Kd.df (Kd.jP (p := ⟨qH, 2, none⟩) (Kd.ek UO.out jo.out (by decide)) (fun _ hk => hk.2) (.slice Qh QW.length Sb)) (fun _ hk => trivial)⟩, ⟨by (with_reducible skip); refine bC ?_ oL.out _; (with_reducible skip); exact kw.out⟩, ⟨by (with_reducible skip); refine bR (cs := #[.int .i64 oC, .int .i64 (wrap64 (oC + xK)), qh]) ?_ 2 _ rfl; (with_reducible skip); exact jo.out⟩, ⟨by repeat ((with_reducible first | exact HI0.out | refine aX.far ?_ zX.out _))⟩, ⟨by repeat ((with_reducible first | exact HK.out | refine lX ?_ Ur.out _))⟩, ⟨by repeat ((with_reducible first | exact HB.out | refine bV ?_ Vu.out))⟩⟩
      ·rw [if_neg c20] at H; exact absurd H (by simp)
     ·replace c16 := Bool.eq_false_iff.mpr c16; subst c16; rw [if_neg (show ¬ (false = true) by decide)] at H; simp only [Option.some.injEq, Prod.mk.injEq] at H; obtain ⟨rfl, rfl, rfl, rfl, rfl⟩ := H; have ahB := yU.out; have agJ := oL.out; have ZV := xG.out; have ZW := zX.out; obtain ⟨aes, adw, adr, adc, adq, adY⟩ := cells3 jo.out; have aay := vY.out; have aaq := JN.out; obtain ⟨IY, Kq, Ua, Ki, J7, Rk⟩ := cells3 kw.out; obtain ⟨Zj, Yb, afw⟩ := Kd.fu ig.out; subst afw; go_wp2; refine bodyPost_ret (results_cell_row rfl _ _ pV 66 #[.int .i64 oC, .int .i64 (wrap64 (oC + xK)), .slice Zj ku.length Yb] (0, 0) _ rfl (by (with_reducible skip); refine bR (cs := #[.int .i64 oC, .int .i64 (wrap64 (oC + xK)), .slice none 0 0]) ?_ 2 _ rfl; (with_reducible skip); refine bR (cs := #[.int .i64 oC, .int .i64 0, .slice none 0 0]) ?_ 1 _ rfl; (with_reducible skip); refine bR (cs := #[.int .i64 0, .int .i64 0, .slice none 0 0]) ?_ 0 _ rfl; (with_reducible skip); exact kw.out) Try.underlying66 rfl (by kernel_rfl)) rfl ?_; exact ⟨_, by rfl, by (with_reducible skip); exact Kd.df (Kd.jP (p := ⟨pV, 2, none⟩) (Kd.jP (p := ⟨pV, 1, none⟩) (Kd.jP (p := ⟨pV, 0, none⟩) (Kd.ek ig.out kw.out (by decide)) (fun _ hk => hk.2) (.int .i64 oC)) (fun _ hk => hk.2) (.int .i64 (wrap64 (oC + xK)))) (fun _ hk => hk.2) (.slice Zj ku.length Yb)) (fun _ hk => trivial), by repeat ((with_reducible first | exact HI0.out | refine aX.far ?_ JN.out _)), by repeat ((with_reducible first | exact HB.out | refine bV ?_ Zv.out)), by repeat ((with_reducible first | exact HK.out | refine lX ?_ ZT.out _))⟩
def ed.f (s0_0 : Int) (s0_1 : Int) (l1 : List Int) : Option (Int × Int × Int) := if (l1.length : Int) = 0 then (some (0, s0_0, s0_1)) else ((aU.f s0_0 s0_1 (l1.length : Int)).bind fun vv => (if 0 ≤ vv.1 then (if vv.1 < (l1.length : Int) then (some (rd l1 vv.1, vv.2.1, vv.2.2)) else (none)) else (none)))
set_option maxHeartbeats 8000000 in
set_option maxRecDepth 100000 in
theorem ed.calls (g : Nat) (s0_0 : Int) (s0_1 : Int) (A1 : Option Addr) (c1 : Nat) (l1 : List Int) (r1 : Int) (r2 : Int) (r3 : Int) (w0 w : World) (hI : aX w0 w g s0_0 s0_1) (hB : Below w0.heap.size w0 w) (hr1 : Kd.C (Kd.int .i64) w A1 l1.length l1) (hc1 : l1.length ≤ c1) (hf1 : ∀ ad, A1 = some ad → 0 < l1.length → ad.block ≠ g) (h : ed.f s0_0 s0_1 l1 = some (r1, r2, r3)) :
 Calls Try.prog 52 #[.pointer (some ⟨g, 0, none⟩), .slice A1 l1.length c1] w fun e w' => e = .returned (.int .i64 r1) ∧ aX w0 w' g r2 r3 ∧ Below w0.heap.size w0 w' ∧ ak w w' g none := by
 have HR1 := aa.mk hr1; have HC1 := aa.mk hc1; clear hr1 hc1; have HI0 := aa.mk hI; have HK := aa.mk (ak.refl w g none); have HL := aa.mk hB.size; clear hI; have HW0 := aa.mk hB.size; have HB := aa.mk hB; clear hB; have H : (if (l1.length : Int) = 0 then (some (0, s0_0, s0_1)) else ((aU.f s0_0 s0_1 (l1.length : Int)).bind fun vv => (if 0 ≤ vv.1 then (if vv.1 < (l1.length : Int) then (some (rd l1 vv.1, vv.2.1, vv.2.2)) else (none)) else (none)))) = some (r1, r2, r3) := h; clear h; by_cases c3 : (l1.length : Int) = 0
 ·rw [if_pos c3] at H; have rX : ((l1.length : Int) == 0) = true := beq_iff_eq.mpr c3; have Cj : ((l1.length : Int) != 0) = false := bne_eq_false_iff_eq.mpr c3; clear c3; simp only [Option.some.injEq, Prod.mk.injEq] at H; obtain ⟨rfl, rfl, rfl⟩ := H; go_enter Try.func52, Try.ntmps52; go_wp2
  go_ret
  exact ⟨by rfl, by exact HI0.out, by exact HB.out, by exact HK.out⟩
 ·rw [if_neg c3] at H; have rX : ((l1.length : Int) == 0) = false := beq_eq_false_iff_ne.mpr c3; have Cj : ((l1.length : Int) != 0) = true := bne_iff_ne.mpr c3; (have ail : ¬ (l1 = []) := fun h_ => c3 (by rw [h_]; rfl)); replace H := Option.bind_eq_some_iff.mp H; obtain ⟨⟨Fq, aft, ae9⟩, A40, H⟩ := H; dsimp only at H; have A4 := aa.mk A40; clear A40; by_cases c5 : 0 ≤ Fq
  ·rw [if_pos c5] at H; have BS : decide (0 ≤ Fq) = true := decide_eq_true c5; clear c5; by_cases c6 : Fq < (l1.length : Int)
   ·rw [if_pos c6] at H; have K9 : decide (Fq < (l1.length : Int)) = true := decide_eq_true c6; clear c6; simp only [Option.some.injEq, Prod.mk.injEq] at H; obtain ⟨rfl, rfl, rfl⟩ := H; go_enter Try.func52, Try.ntmps52; go_wp2_with (((with_reducible refine bT (f := 33) rfl ?_); refine fC (some 12) rfl rfl Try.func33 (by kernel_rfl) rfl #[.pointer (some ⟨g, 0, none⟩), .int .i64 (l1.length : Int)] rfl (by (simp only [List.map_toArray, List.map_cons, List.map_nil]); rfl) ?_; (with_reducible refine (aU.calls g s0_0 s0_1 (l1.length : Int) Fq aft ae9 w0 _ ?side1 ?side2 A4.out).mono ?_); (case side1 => exact HI0.out); (case side2 => exact HB.out); rintro e w7 ⟨rfl, hi, hb, hk⟩; refine ⟨_, rfl, ?_⟩; replace HK := aa.mk (ak.trans (by exact HK.out) hk (.inl rfl)); replace HB := aa.mk (hb); replace HI0 := aa.mk (hi); clear hb; clear hk; clear hi; have VB : 0 ≤ (Fq : Int) := of_decide_eq_true (by with_reducible assumption); have V4 : Fq < (l1.length : Int) := of_decide_eq_true (by with_reducible assumption); obtain ⟨agv, e377, JK⟩ := Kd.ul HR1.out Fq VB V4; cases e377; replace JK := KU HK.out JK (by (rw [add_block]; exact hf1 _ rfl (by omega))); replace VB := eq_true VB; replace V4 := eq_true V4))
    go_ret
    exact ⟨by rfl, by exact HI0.out, by exact HB.out, by exact HK.out⟩
   ·rw [if_neg c6] at H; exact absurd H (by simp)
  ·rw [if_neg c5] at H; exact absurd H (by simp)
mutual
def af.l0 : Nat → Int → Int → Int → Int → Int → List (S66) → Int → Int → Int → Option ((List (S66)) × Int × Int × Int × (List (List (S27))) × Int × ByteArray × List Int × Int × Int)
 | 0, _, _, _, _, _, _, _, _, _ => none
 | k + 1, x2, x3, x11, lw, lF, ib, iV, iX, jm => if x11 > 0 then ((aD.f k lw lF x2).bind fun Fh => ((some (([(⟨(⟨Fh.1, Fh.2.1⟩ : S63), Fh.2.2.1⟩ : S66)] : List (S66)) : List (S66))).bind fun Bc => (if ib.length + Bc.length < 3518437208883 then (af.l0 k x2 x3 (wrap64 (x11 - 1)) Fh.2.2.2.1 Fh.2.2.2.2 (ib ++ Bc) iV iX jm) else (none)))) else ((aU.f lw lF (ib.length : Int)).bind fun CE => (if 0 ≤ CE.1 then (if CE.1 < (ib.length : Int) then ((di.f CE.2.1 CE.2.2 1 x3).bind fun BU => (af.l1 k ((ah ib CE.1).f1) 0 BU.1 BU.2.1 BU.2.2 ib iV iX jm ([] : List (List (S27))) CE.1 (⟨#[]⟩ : ByteArray) ([] : List Int))) else (none)) else (none)))
def af.l1 : Nat → List (S86) → Int → Int → Int → Int → List (S66) → Int → Int → Int → List (List (S27)) → Int → ByteArray → List Int → Option ((List (S66)) × Int × Int × Int × (List (List (S27))) × Int × ByteArray × List Int × Int × Int)
 | 0, _, _, _, _, _, _, _, _, _, _, _, _, _ => none
 | k + 1, x13, x14, x15, lw, lF, ib, iV, iX, jm, jv, jL, jC, jB => if x15 > 0 then ((aU.f lw lF (x13.length : Int)).bind fun Bg => (if 0 ≤ Bg.1 then (if Bg.1 < (x13.length : Int) then ((aU.f Bg.2.1 Bg.2.2 (wrap64 (iV + 1))).bind fun AB => ((aU.f AB.2.1 AB.2.2 (wrap64 (iX + 1))).bind fun uS => (af.l2 k x13 x14 x15 ((aj x13 Bg.1).f1) AB.1 uS.1 0 uS.2.1 uS.2.2 ib iV iX jm jv jL jC jB ((aj x13 Bg.1).f0) ((aj x13 Bg.1).f1)))) else (none)) else (none))) else ((ed.f lw lF (([0, 0, 1, 2] : List Int))).bind fun BZ => (some (ib, iV, iX, mn 40 (wrap64 (x14 + BZ.1)), jv, jL, jC, jB, BZ.2.1, BZ.2.2)))
def af.l2 : Nat → List (S86) → Int → Int → Int → Int → Int → Int → Int → Int → List (S66) → Int → Int → Int → List (List (S27)) → Int → ByteArray → List Int → Int → Int → Option ((List (S66)) × Int × Int × Int × (List (List (S27))) × Int × ByteArray × List Int × Int × Int)
 | 0, _, _, _, _, _, _, _, _, _, _, _, _, _, _, _, _, _, _, _ => none
 | k + 1, x13, x14, x15, x17, x18, x19, x20, lw, lF, ib, iV, iX, jm, jv, jL, jC, jB, kR, jI => if x20 < 5 then (if 0 ≤ x20 then (if (Go.bits .and .i64 (shr .i64 jI x20) 1) = 1 then (if x18 > 0 then ((dF.f lw lF 1 3).bind fun AQ => (af.j3 k x13 x14 x15 x17 x18 x19 x20 ((Go.bits .and .i64 (shr .i64 jI x20) 1) == 1) AQ.1 AQ.2.1 AQ.2.2 ib iV iX jm jv jL jC jB kR jI)) else (af.j3 k x13 x14 x15 x17 x18 x19 x20 ((Go.bits .and .i64 (shr .i64 jI x20) 1) == 1) false lw lF ib iV iX jm jv jL jC jB kR jI)) else (af.j3 k x13 x14 x15 x17 x18 x19 x20 ((Go.bits .and .i64 (shr .i64 jI x20) 1) == 1) false lw lF ib iV iX jm jv jL jC jB kR jI)) else (none)) else ((ed.f lw lF (([0, 1, 1, 2, 3] : List Int))).bind fun Cf => (af.l3 k x13 x14 x15 x17 ([] : List (S27)) Cf.1 Cf.2.1 Cf.2.2 ib iV iX jm jv jL jC jB kR jI))
def af.j3 : Nat → List (S86) → Int → Int → Int → Int → Int → Int → Bool → Bool → Int → Int → List (S66) → Int → Int → Int → List (List (S27)) → Int → ByteArray → List Int → Int → Int → Option ((List (S66)) × Int × Int × Int × (List (List (S27))) × Int × ByteArray × List Int × Int × Int)
 | 0, _, _, _, _, _, _, _, _, _, _, _, _, _, _, _, _, _, _, _, _, _ => none
 | k + 1, x13, x14, x15, x17, x18, x19, x20, x21, aeZ, lw, lF, ib, iV, iX, jm, jv, jL, jC, jB, kR, jI => if aeZ = true then (if 0 ≤ x20 then (if x21 = true then (af.l2 k x13 (wrap64 (x14 + 1)) x15 (wrap64 (x17 - (shl .i64 1 x20))) (wrap64 (x18 - 1)) x19 (wrap64 (x20 + 1)) lw lF ib iV iX jm jv jL jC jB kR jI) else (if x19 > 0 then ((dF.f lw lF 1 3).bind fun pE => (if pE.1 = true then (af.l2 k x13 (wrap64 ((wrap64 (x14 + 1)) + 1)) x15 (wrap64 ((wrap64 (x17 - (shl .i64 1 x20))) + (shl .i64 1 x20))) (wrap64 (x18 - 1)) (wrap64 (x19 - 1)) (wrap64 (x20 + 1)) pE.2.1 pE.2.2 ib iV iX jm jv jL jC jB kR jI) else (af.l2 k x13 (wrap64 (x14 + 1)) x15 (wrap64 (x17 - (shl .i64 1 x20))) (wrap64 (x18 - 1)) x19 (wrap64 (x20 + 1)) pE.2.1 pE.2.2 ib iV iX jm jv jL jC jB kR jI))) else (af.l2 k x13 (wrap64 (x14 + 1)) x15 (wrap64 (x17 - (shl .i64 1 x20))) (wrap64 (x18 - 1)) x19 (wrap64 (x20 + 1)) lw lF ib iV iX jm jv jL jC jB kR jI))) else (none)) else (if x21 = true then (af.l2 k x13 x14 x15 x17 x18 x19 (wrap64 (x20 + 1)) lw lF ib iV iX jm jv jL jC jB kR jI) else (if x19 > 0 then ((dF.f lw lF 1 3).bind fun vB => (if vB.1 = true then (if 0 ≤ x20 then (af.l2 k x13 (wrap64 (x14 + 1)) x15 (wrap64 (x17 + (shl .i64 1 x20))) x18 (wrap64 (x19 - 1)) (wrap64 (x20 + 1)) vB.2.1 vB.2.2 ib iV iX jm jv jL jC jB kR jI) else (none)) else (af.l2 k x13 x14 x15 x17 x18 x19 (wrap64 (x20 + 1)) vB.2.1 vB.2.2 ib iV iX jm jv jL jC jB kR jI))) else (af.l2 k x13 x14 x15 x17 x18 x19 (wrap64 (x20 + 1)) lw lF ib iV iX jm jv jL jC jB kR jI)))
def af.l3 : Nat → List (S86) → Int → Int → Int → List (S27) → Int → Int → Int → List (S66) → Int → Int → Int → List (List (S27)) → Int → ByteArray → List Int → Int → Int → Option ((List (S66)) × Int × Int × Int × (List (List (S27))) × Int × ByteArray × List Int × Int × Int)
 | 0, _, _, _, _, _, _, _, _, _, _, _, _, _, _, _, _, _, _ => none
 | k + 1, x13, x14, x15, x17, x22, x23, lw, lF, ib, iV, iX, jm, jv, jL, jC, jB, kR, jI => if x23 > 0 then ((aU.f lw lF 32).bind fun Ou => ((ed.f Ou.2.1 Ou.2.2 (([31, 15, Ou.1] : List Int))).bind fun rC => ((some (([(⟨rC.1, Go.bits .and .i64 x17 rC.1⟩ : S27)] : List (S27)) : List (S27))).bind fun su => (if x22.length + su.length < 8796093022208 then (af.l3 k x13 x14 x15 x17 (x22 ++ su) (wrap64 (x23 - 1)) rC.2.1 rC.2.2 ib iV iX jm jv jL jC jB kR jI) else (none))))) else ((some (([kR] : List Int) : List Int)).bind fun iL => (if jC.size + (strOfNums iL).size ≤ 9223372036854775807 then ((some (([x17] : List Int) : List Int)).bind fun kI => (if jB.length + kI.length < 17592186044416 then ((some (([x22] : List (List (S27))) : List (List (S27)))).bind fun rR => (if jv.length + rR.length < 5864062014805 then (af.l1 k x13 x14 (wrap64 (x15 - 1)) lw lF ib iV iX jm (jv ++ rR) jL (jC ++ (strOfNums iL)) (jB ++ kI)) else (none))) else (none))) else (none)))
end
def af.f (k : Nat) (s0_0 : Int) (s0_1 : Int) (a1 : Int) (a2 : Int) (a3 : Int) : Option ((List (S66)) × Int × Int × Int × (List (List (S27))) × Int × ByteArray × List Int × Int × Int) := (aU.f s0_0 s0_1 3).bind fun BC => ((aU.f BC.2.1 BC.2.2 3).bind fun uR => ((di.f uR.2.1 uR.2.2 1 a1).bind fun qy => (af.l0 k a2 a3 qy.1 qy.2.1 qy.2.2 ([] : List (S66)) BC.1 uR.1 0)))
theorem af.fO : ∀ k, (∀ y0 y1 y2 y3 y4 y5 y6 y7 y8, LeO (af.l0 k y0 y1 y2 y3 y4 y5 y6 y7 y8) (af.l0 (k + 1) y0 y1 y2 y3 y4 y5 y6 y7 y8)) ∧ (∀ y0 y1 y2 y3 y4 y5 y6 y7 y8 y9 y10 y11 y12, LeO (af.l1 k y0 y1 y2 y3 y4 y5 y6 y7 y8 y9 y10 y11 y12) (af.l1 (k + 1) y0 y1 y2 y3 y4 y5 y6 y7 y8 y9 y10 y11 y12)) ∧ (∀ y0 y1 y2 y3 y4 y5 y6 y7 y8 y9 y10 y11 y12 y13 y14 y15 y16 y17 y18, LeO (af.l2 k y0 y1 y2 y3 y4 y5 y6 y7 y8 y9 y10 y11 y12 y13 y14 y15 y16 y17 y18) (af.l2 (k + 1) y0 y1 y2 y3 y4 y5 y6 y7 y8 y9 y10 y11 y12 y13 y14 y15 y16 y17 y18)) ∧ (∀ y0 y1 y2 y3 y4 y5 y6 y7 y8 y9 y10 y11 y12 y13 y14 y15 y16 y17 y18 y19 y20, LeO (af.j3 k y0 y1 y2 y3 y4 y5 y6 y7 y8 y9 y10 y11 y12 y13 y14 y15 y16 y17 y18 y19 y20) (af.j3 (k + 1) y0 y1 y2 y3 y4 y5 y6 y7 y8 y9 y10 y11 y12 y13 y14 y15 y16 y17 y18 y19 y20)) ∧ (∀ y0 y1 y2 y3 y4 y5 y6 y7 y8 y9 y10 y11 y12 y13 y14 y15 y16 y17, LeO (af.l3 k y0 y1 y2 y3 y4 y5 y6 y7 y8 y9 y10 y11 y12 y13 y14 y15 y16 y17) (af.l3 (k + 1) y0 y1 y2 y3 y4 y5 y6 y7 y8 y9 y10 y11 y12 y13 y14 y15 y16 y17))
 | 0 => ⟨fun _ _ _ _ _ _ _ _ _ r h => by simp [af.l0] at h, fun _ _ _ _ _ _ _ _ _ _ _ _ _ r h => by simp [af.l1] at h, fun _ _ _ _ _ _ _ _ _ _ _ _ _ _ _ _ _ _ _ r h => by simp [af.l2] at h, fun _ _ _ _ _ _ _ _ _ _ _ _ _ _ _ _ _ _ _ _ _ r h => by simp [af.j3] at h, fun _ _ _ _ _ _ _ _ _ _ _ _ _ _ _ _ _ _ r h => by simp [af.l3] at h⟩
 | k + 1 => by
  obtain ⟨ih0, ih1, ih2, ih3, ih4⟩ := af.fO k; refine ⟨?_, ?_, ?_, ?_, ?_⟩
  ·intro y0 y1 y2 y3 y4 y5 y6 y7 y8; unfold af.l0
   repeat' first
   | (with_reducible exact ih0 _ _ _ _ _ _ _ _ _)
   | (with_reducible exact ih1 _ _ _ _ _ _ _ _ _ _ _ _ _)
   | (with_reducible exact ih2 _ _ _ _ _ _ _ _ _ _ _ _ _ _ _ _ _ _ _)
   | (with_reducible exact ih3 _ _ _ _ _ _ _ _ _ _ _ _ _ _ _ _ _ _ _ _ _)
   | (with_reducible exact ih4 _ _ _ _ _ _ _ _ _ _ _ _ _ _ _ _ _ _)
   | (with_reducible exact aD.mono _ _ _ _)
   | (with_reducible exact LeO.refl _)
   | (with_reducible exact LeO.none _)
   | (with_reducible refine LeO.ite ?_ ?_)
   | (with_reducible refine LeO.bind ?_ (fun _ => ?_))
   | exact ih0 _ _ _ _ _ _ _ _ _
   | exact ih1 _ _ _ _ _ _ _ _ _ _ _ _ _
   | exact ih2 _ _ _ _ _ _ _ _ _ _ _ _ _ _ _ _ _ _ _
   | exact ih3 _ _ _ _ _ _ _ _ _ _ _ _ _ _ _ _ _ _ _ _ _
   | exact ih4 _ _ _ _ _ _ _ _ _ _ _ _ _ _ _ _ _ _
   | exact aD.mono _ _ _ _
   | exact LeO.none _
   | refine LeO.ite ?_ ?_
   | refine LeO.bind ?_ (fun _ => ?_)
  ·intro y0 y1 y2 y3 y4 y5 y6 y7 y8 y9 y10 y11 y12; unfold af.l1
   repeat' first
   | (with_reducible exact ih0 _ _ _ _ _ _ _ _ _)
   | (with_reducible exact ih1 _ _ _ _ _ _ _ _ _ _ _ _ _)
   | (with_reducible exact ih2 _ _ _ _ _ _ _ _ _ _ _ _ _ _ _ _ _ _ _)
   | (with_reducible exact ih3 _ _ _ _ _ _ _ _ _ _ _ _ _ _ _ _ _ _ _ _ _)
   | (with_reducible exact ih4 _ _ _ _ _ _ _ _ _ _ _ _ _ _ _ _ _ _)
   | (with_reducible exact aD.mono _ _ _ _)
   | (with_reducible exact LeO.refl _)
   | (with_reducible exact LeO.none _)
   | (with_reducible refine LeO.ite ?_ ?_)
   | (with_reducible refine LeO.bind ?_ (fun _ => ?_))
   | exact ih0 _ _ _ _ _ _ _ _ _
   | exact ih1 _ _ _ _ _ _ _ _ _ _ _ _ _
   | exact ih2 _ _ _ _ _ _ _ _ _ _ _ _ _ _ _ _ _ _ _
   | exact ih3 _ _ _ _ _ _ _ _ _ _ _ _ _ _ _ _ _ _ _ _ _
   | exact ih4 _ _ _ _ _ _ _ _ _ _ _ _ _ _ _ _ _ _
   | exact aD.mono _ _ _ _
   | exact LeO.none _
   | refine LeO.ite ?_ ?_
   | refine LeO.bind ?_ (fun _ => ?_)
  ·intro y0 y1 y2 y3 y4 y5 y6 y7 y8 y9 y10 y11 y12 y13 y14 y15 y16 y17 y18; unfold af.l2
   repeat' first
   | (with_reducible exact ih0 _ _ _ _ _ _ _ _ _)
   | (with_reducible exact ih1 _ _ _ _ _ _ _ _ _ _ _ _ _)
   | (with_reducible exact ih2 _ _ _ _ _ _ _ _ _ _ _ _ _ _ _ _ _ _ _)
   | (with_reducible exact ih3 _ _ _ _ _ _ _ _ _ _ _ _ _ _ _ _ _ _ _ _ _)
   | (with_reducible exact ih4 _ _ _ _ _ _ _ _ _ _ _ _ _ _ _ _ _ _)
   | (with_reducible exact aD.mono _ _ _ _)
   | (with_reducible exact LeO.refl _)
   | (with_reducible exact LeO.none _)
   | (with_reducible refine LeO.ite ?_ ?_)
   | (with_reducible refine LeO.bind ?_ (fun _ => ?_))
   | exact ih0 _ _ _ _ _ _ _ _ _
   | exact ih1 _ _ _ _ _ _ _ _ _ _ _ _ _
   | exact ih2 _ _ _ _ _ _ _ _ _ _ _ _ _ _ _ _ _ _ _
   | exact ih3 _ _ _ _ _ _ _ _ _ _ _ _ _ _ _ _ _ _ _ _ _
   | exact ih4 _ _ _ _ _ _ _ _ _ _ _ _ _ _ _ _ _ _
   | exact aD.mono _ _ _ _
   | exact LeO.none _
   | refine LeO.ite ?_ ?_
   | refine LeO.bind ?_ (fun _ => ?_)
  ·intro y0 y1 y2 y3 y4 y5 y6 y7 y8 y9 y10 y11 y12 y13 y14 y15 y16 y17 y18 y19 y20; unfold af.j3
   repeat' first
   | (with_reducible exact ih0 _ _ _ _ _ _ _ _ _)
   | (with_reducible exact ih1 _ _ _ _ _ _ _ _ _ _ _ _ _)
   | (with_reducible exact ih2 _ _ _ _ _ _ _ _ _ _ _ _ _ _ _ _ _ _ _)
   | (with_reducible exact ih3 _ _ _ _ _ _ _ _ _ _ _ _ _ _ _ _ _ _ _ _ _)
   | (with_reducible exact ih4 _ _ _ _ _ _ _ _ _ _ _ _ _ _ _ _ _ _)
   | (with_reducible exact aD.mono _ _ _ _)
   | (with_reducible exact LeO.refl _)
   | (with_reducible exact LeO.none _)
   | (with_reducible refine LeO.ite ?_ ?_)
   | (with_reducible refine LeO.bind ?_ (fun _ => ?_))
   | exact ih0 _ _ _ _ _ _ _ _ _
   | exact ih1 _ _ _ _ _ _ _ _ _ _ _ _ _
   | exact ih2 _ _ _ _ _ _ _ _ _ _ _ _ _ _ _ _ _ _ _
   | exact ih3 _ _ _ _ _ _ _ _ _ _ _ _ _ _ _ _ _ _ _ _ _
   | exact ih4 _ _ _ _ _ _ _ _ _ _ _ _ _ _ _ _ _ _
   | exact aD.mono _ _ _ _
   | exact LeO.none _
   | refine LeO.ite ?_ ?_
   | refine LeO.bind ?_ (fun _ => ?_)
  ·intro y0 y1 y2 y3 y4 y5 y6 y7 y8 y9 y10 y11 y12 y13 y14 y15 y16 y17; unfold af.l3
   repeat' first
   | (with_reducible exact ih0 _ _ _ _ _ _ _ _ _)
   | (with_reducible exact ih1 _ _ _ _ _ _ _ _ _ _ _ _ _)
   | (with_reducible exact ih2 _ _ _ _ _ _ _ _ _ _ _ _ _ _ _ _ _ _ _)
   | (with_reducible exact ih3 _ _ _ _ _ _ _ _ _ _ _ _ _ _ _ _ _ _ _ _ _)
   | (with_reducible exact ih4 _ _ _ _ _ _ _ _ _ _ _ _ _ _ _ _ _ _)
   | (with_reducible exact aD.mono _ _ _ _)
   | (with_reducible exact LeO.refl _)
   | (with_reducible exact LeO.none _)
   | (with_reducible refine LeO.ite ?_ ?_)
   | (with_reducible refine LeO.bind ?_ (fun _ => ?_))
   | exact ih0 _ _ _ _ _ _ _ _ _
   | exact ih1 _ _ _ _ _ _ _ _ _ _ _ _ _
   | exact ih2 _ _ _ _ _ _ _ _ _ _ _ _ _ _ _ _ _ _ _
   | exact ih3 _ _ _ _ _ _ _ _ _ _ _ _ _ _ _ _ _ _ _ _ _
   | exact ih4 _ _ _ _ _ _ _ _ _ _ _ _ _ _ _ _ _ _
   | exact aD.mono _ _ _ _
   | exact LeO.none _
   | refine LeO.ite ?_ ?_
   | refine LeO.bind ?_ (fun _ => ?_)
theorem af.mono : ∀ a0 a1 a2 a3 a4 k, LeO (af.f k a0 a1 a2 a3 a4) (af.f (k + 1) a0 a1 a2 a3 a4) := by
 intro a0 a1 a2 a3 a4 k; obtain ⟨ih0, ih1, ih2, ih3, ih4⟩ := af.fO k; unfold af.f
 repeat' first
  | (with_reducible exact ih0 _ _ _ _ _ _ _ _ _)
  | (with_reducible exact ih1 _ _ _ _ _ _ _ _ _ _ _ _ _)
  | (with_reducible exact ih2 _ _ _ _ _ _ _ _ _ _ _ _ _ _ _ _ _ _ _)
  | (with_reducible exact ih3 _ _ _ _ _ _ _ _ _ _ _ _ _ _ _ _ _ _ _ _ _)
  | (with_reducible exact ih4 _ _ _ _ _ _ _ _ _ _ _ _ _ _ _ _ _ _)
  | (with_reducible exact aD.mono _ _ _ _)
  | (with_reducible exact LeO.refl _)
  | (with_reducible exact LeO.none _)
  | (with_reducible refine LeO.ite ?_ ?_)
  | (with_reducible refine LeO.bind ?_ (fun _ => ?_))
  | exact ih0 _ _ _ _ _ _ _ _ _
  | exact ih1 _ _ _ _ _ _ _ _ _ _ _ _ _
  | exact ih2 _ _ _ _ _ _ _ _ _ _ _ _ _ _ _ _ _ _ _
  | exact ih3 _ _ _ _ _ _ _ _ _ _ _ _ _ _ _ _ _ _ _ _ _
  | exact ih4 _ _ _ _ _ _ _ _ _ _ _ _ _ _ _ _ _ _
  | exact aD.mono _ _ _ _
  | exact LeO.none _
  | refine LeO.ite ?_ ?_
  | refine LeO.bind ?_ (fun _ => ?_)
def eZ.f (a0 : Int) (a1 : Int) (a2 : Int) : Option (Bool) := if a1 ≤ a0 then (some (decide (a0 ≤ a2))) else (some false)
set_option maxHeartbeats 8000000 in
set_option maxRecDepth 100000 in
theorem eZ.calls (a0 : Int) (a1 : Int) (a2 : Int) (r : Bool) (w : World) (h : eZ.f a0 a1 a2 = some r) :
 Calls Try.prog 64 #[.int .i64 a0, .int .i64 a1, .int .i64 a2] w fun e w' => e = .returned (.bool r) ∧ dB w w' := by
 have H : (if a1 ≤ a0 then (some (decide (a0 ≤ a2))) else (some false)) = some r := h; clear h; by_cases c4 : a1 ≤ a0
 ·rw [if_pos c4] at H; have zI : decide (a1 ≤ a0) = true := decide_eq_true c4; clear c4; obtain rfl := Option.some.inj H; go_enter Try.func64, Try.ntmps64; go_wp2
  go_ret
  exact ⟨by rfl, by exact dB.refl _⟩
 ·rw [if_neg c4] at H; have zI : decide (a1 ≤ a0) = false := decide_eq_false c4; clear c4; obtain rfl := Option.some.inj H; go_enter Try.func64, Try.ntmps64; go_wp2
  go_ret
  exact ⟨by rfl, by exact dB.refl _⟩
mutual
def aI.j0 : Nat → Bool → Int → Int → List (S86) → Option (Int)
 | 0, _, _, _, _ => none
 | k + 1, x5, rD, rf, mD => if x5 = true then (some 1) else (if rD > rf then (some 5) else (if (mD.length : Int) = 0 then (some 7) else (if (mD.length : Int) > 8 then (some 6) else (aI.l0 k mD (mD.length : Int) 0 rD rf mD))))
def aI.l0 : Nat → List (S86) → Int → Int → Int → Int → List (S86) → Option (Int)
 | 0, _, _, _, _, _, _ => none
 | k + 1, x35, x36, x37, rD, rf, mD => if x37 < x36 then (if 0 ≤ x37 then (if x37 < (x35.length : Int) then (if ((aj x35 x37).f0) < 65 then (aI.j2 k x37 x35 x36 x37 (decide (((aj x35 x37).f0) < 65)) rD rf mD ((aj x35 x37).f0) ((aj x35 x37).f1)) else (aI.j2 k x37 x35 x36 x37 (decide (((aj x35 x37).f0) > 90)) rD rf mD ((aj x35 x37).f0) ((aj x35 x37).f1))) else (none)) else (none)) else (some 0)
def aI.j2 : Nat → Int → List (S86) → Int → Int → Bool → Int → Int → List (S86) → Int → Int → Option (Int)
 | 0, _, _, _, _, _, _, _, _, _, _ => none
 | k + 1, x3, x35, x36, x37, x42, rD, rf, mD, P5, Tt => if x42 = true then (some 8) else ((eZ.f Tt 1 1023).bind fun XF => (if XF = true then (if x3 > 0 then (if 0 ≤ (wrap64 (x3 - 1)) then (if (wrap64 (x3 - 1)) < (mD.length : Int) then (if P5 ≤ ((aj mD (wrap64 (x3 - 1))).f0) then (some 5) else (aI.l0 k x35 x36 (wrap64 (x37 + 1)) rD rf mD)) else (none)) else (none)) else (aI.l0 k x35 x36 (wrap64 (x37 + 1)) rD rf mD)) else (some 1)))
end
def aI.f (k : Nat) (fq : Int) (bz : Int) (fU : List (S86)) : Option (Int) := (eZ.f fq (-3000) 3000).bind fun FR => (if FR = true then ((eZ.f bz (-3000) 3000).bind fun LD => (aI.j0 k (!LD) fq bz fU)) else (aI.j0 k (!FR) fq bz fU))
theorem aI.fO : ∀ k, (∀ y0 y1 y2 y3, LeO (aI.j0 k y0 y1 y2 y3) (aI.j0 (k + 1) y0 y1 y2 y3)) ∧ (∀ y0 y1 y2 y3 y4 y5, LeO (aI.l0 k y0 y1 y2 y3 y4 y5) (aI.l0 (k + 1) y0 y1 y2 y3 y4 y5)) ∧ (∀ y0 y1 y2 y3 y4 y5 y6 y7 y8 y9, LeO (aI.j2 k y0 y1 y2 y3 y4 y5 y6 y7 y8 y9) (aI.j2 (k + 1) y0 y1 y2 y3 y4 y5 y6 y7 y8 y9))
 | 0 => ⟨fun _ _ _ _ r h => by simp [aI.j0] at h, fun _ _ _ _ _ _ r h => by simp [aI.l0] at h, fun _ _ _ _ _ _ _ _ _ _ r h => by simp [aI.j2] at h⟩
 | k + 1 => by
  obtain ⟨ih0, ih1, ih2⟩ := aI.fO k; refine ⟨?_, ?_, ?_⟩
  ·intro y0 y1 y2 y3; unfold aI.j0
   repeat' first | (with_reducible exact ih1 _ _ _ _ _ _) | (with_reducible exact LeO.refl _) | (with_reducible refine LeO.ite ?_ ?_)
  ·intro y0 y1 y2 y3 y4 y5; unfold aI.l0
   repeat' first | (with_reducible exact ih2 _ _ _ _ _ _ _ _ _ _) | (with_reducible exact LeO.refl _) | (with_reducible refine LeO.ite ?_ ?_)
  ·intro y0 y1 y2 y3 y4 y5 y6 y7 y8 y9; unfold aI.j2
   repeat' first | (with_reducible exact ih1 _ _ _ _ _ _) | (with_reducible exact LeO.refl _) | (with_reducible refine LeO.ite ?_ ?_) | (with_reducible refine LeO.bind ?_ (fun _ => ?_))
theorem aI.mono : ∀ a0 a1 a2 k, LeO (aI.f k a0 a1 a2) (aI.f (k + 1) a0 a1 a2) := by
 intro a0 a1 a2 k; obtain ⟨ih0, ih1, ih2⟩ := aI.fO k; unfold aI.f
 repeat' first | (with_reducible exact ih0 _ _ _ _) | (with_reducible exact LeO.refl _) | (with_reducible refine LeO.ite ?_ ?_) | (with_reducible refine LeO.bind ?_ (fun _ => ?_))
set_option maxHeartbeats 8000000 in
set_option maxRecDepth 100000 in
theorem aI.calls (k : Nat) (fq : Int) (bz : Int) (Mk : Option Addr) (EE : Nat) (fU : List (S86)) (r : Int) (w : World) (UK : Kd.C k86 w Mk fU.length fU) (U5 : fU.length ≤ EE) (h : aI.f k fq bz fU = some r) :
 Calls Try.prog 63 #[.agg #[.int .i64 fq, .int .i64 bz, .slice Mk fU.length EE]] w fun e w' => e = .returned (.int .i64 r) ∧ Below w.heap.size w w' := by
 have hu66 := Try.underlying66; have hu86 := Try.underlying86; have Ce := aa.mk UK; have ag9 := aa.mk U5; clear UK U5; have HB := aa.mk (Below.refl w.heap.size w); have H : ((eZ.f fq (-3000) 3000).bind fun FR => (if FR = true then ((eZ.f bz (-3000) 3000).bind fun LD => (aI.j0 k (!LD) fq bz fU)) else (aI.j0 k (!FR) fq bz fU))) = some r := h; clear h; replace H := Option.bind_eq_some_iff.mp H; obtain ⟨FR, A20, H⟩ := H; have A2 := aa.mk A20; clear A20; have HC3 := aa.mk H; clear H; go_enter Try.func63, Try.ntmps63; (go_upto_if 5 with (first | ((with_reducible refine dh (N := 1) rfl ?_); refine dA ?hg (N := 1) ?hd (cs := #[.int .i64 fq, .int .i64 bz, .slice Mk fU.length EE]) (t := 66) ?hr ?_; (case hd => rfl); (case hg => rfl); (case hr => (go_simp; done)); intro yh hg w4 hbox hb; have lC := aa.mk (hbox); have ahq := aa.mk ((by rw [hg]; exact (az (by exact HB.out)) : w.heap.size ≤ yh)); have agV := aa.mk ((by rw [hg]; exact (az (by exact HB.out)) : w.heap.size ≤ yh)); replace HB := aa.mk (aW (by exact HB.out) hb); clear hb hbox hg; obtain ⟨Ib, Hr, GY, Iz, IJ, Ip⟩ := cells3 lC.out) | (go_at_call 64; (with_reducible refine (eZ.calls fq (-3000) 3000 FR _ A2.out).mono ?_); rintro e w' ⟨rfl, ⟨nd, rfl⟩⟩))); (skip); go_cut [5] (fun v5 wc => ∃ (kq : Nat) (Sj : Bool), v5 = .bool Sj ∧ aa (aI.j0 kq Sj fq bz fU = some r) ∧ aa (kq ≤ k) ∧ aa (wc.heap[yh]? = some (.cells #[.int .i64 fq, .int .i64 bz, (.slice Mk fU.length EE)] 66 (0, 0))) ∧ aa (Below w.heap.size w wc))
 case first =>
  have H := HC3.out; clear HC3; by_cases c6 : FR = true
  ·subst c6; rw [if_pos rfl] at H; replace H := Option.bind_eq_some_iff.mp H; obtain ⟨LD, A70, H⟩ := H; have A7 := aa.mk A70; clear A70; have H' := aa.mk H; clear H; obtain ⟨DI, DV, Py, Ej, EB, Od⟩ := cells3 lC.out; (go_wp2_with ((go_at_call 64; (with_reducible refine (eZ.calls bz (-3000) 3000 LD _ A7.out).mono ?_); rintro e w' ⟨rfl, ⟨nd, rfl⟩⟩))); go_meet; case rel => exact ⟨_, (!LD), (by rfl), H', ⟨by omega⟩, ⟨by (with_reducible repeat (refine gU ?_ _)); exact lC.out⟩, ⟨by exact lU HB.out⟩⟩
  ·replace c6 := Bool.eq_false_iff.mpr c6; subst c6; rw [if_neg (show ¬ (false = true) by decide)] at H; have H' := aa.mk H; clear H; go_wp2; go_meet; case rel => exact ⟨_, (!false), (by rfl), H', ⟨by omega⟩, ⟨by (with_reducible repeat (refine gU ?_ _)); exact lC.out⟩, ⟨by exact lU HB.out⟩⟩
 case rest =>
  clear HC3 Ib Hr GY Iz IJ Ip; obtain ⟨kq, Sj, rfl, HA, HJ2, lC, HB⟩ := hcut
  cases kq with
  | zero => exact absurd HA.out (by simp [aI.j0])
  | succ kj2 =>
   have H := HA.out; clear HA; simp only [aI.j0] at H; by_cases c9 : Sj = true
   ·subst c9; rw [if_pos rfl] at H; obtain rfl := Option.some.inj H; go_wp2
    go_ret
    exact ⟨by rfl, by exact HB.out⟩
   ·replace c9 := Bool.eq_false_iff.mpr c9; subst c9; rw [if_neg (show ¬ (false = true) by decide)] at H; by_cases c10 : fq > bz
    ·rw [if_pos c10] at H; have xq : decide (bz < fq) = true := decide_eq_true c10; clear c10; obtain rfl := Option.some.inj H; obtain ⟨adh, ac9, acs, adP, ael, aen⟩ := cells3 lC.out; go_wp2
     go_ret
     exact ⟨by rfl, by exact HB.out⟩
    ·rw [if_neg c10] at H; have xq : decide (bz < fq) = false := decide_eq_false c10; clear c10; by_cases c12 : (fU.length : Int) = 0
     ·rw [if_pos c12] at H; have zD : ((fU.length : Int) == 0) = true := beq_iff_eq.mpr c12; have Ko : ((fU.length : Int) != 0) = false := bne_eq_false_iff_eq.mpr c12; clear c12; obtain rfl := Option.some.inj H; obtain ⟨Kr, IW, ady, JG, Ja, acg⟩ := cells3 lC.out; go_wp2
      go_ret
      exact ⟨by rfl, by exact HB.out⟩
     ·rw [if_neg c12] at H; have zD : ((fU.length : Int) == 0) = false := beq_eq_false_iff_ne.mpr c12; have Ko : ((fU.length : Int) != 0) = true := bne_iff_ne.mpr c12; (have aaJ : ¬ (fU = []) := fun h_ => c12 (by rw [h_]; rfl)); by_cases c14 : (fU.length : Int) > 8
      ·rw [if_pos c14] at H; have EU : decide (8 < (fU.length : Int)) = true := decide_eq_true c14; have EM : decide (8 < fU.length) = true := decide_eq_true (by omega); clear c14; obtain rfl := Option.some.inj H; obtain ⟨TW, QF, RP, Qo, Qu, RJ⟩ := cells3 lC.out; go_wp2
       go_ret
       exact ⟨by rfl, by exact HB.out⟩
      ·rw [if_neg c14] at H; have EU : decide (8 < (fU.length : Int)) = false := decide_eq_false c14; have EM : decide (8 < fU.length) = false := decide_eq_false (by omega); clear c14; have H' := aa.mk H; clear H; obtain ⟨Dp, Dl, DR, Df, Dc, ED⟩ := cells3 lC.out; go_wp2; (go_loopg [37] kj2 (fun kq v37 w' => ∃ (gN : Int), v37 = .int .i64 gN ∧ aa (aI.l0 kq fU (fU.length : Int) gN fq bz fU = some r) ∧ aa (kq ≤ kj2) ∧ aa (w'.heap[yh]? = some (.cells #[.int .i64 fq, .int .i64 bz, (.slice Mk fU.length EE)] 66 (0, 0))) ∧ aa (Below w.heap.size w w'))); case atStart => exact ⟨(0), (by rfl), H', ⟨Nat.le_refl _⟩, ⟨by (with_reducible skip); exact lC.out⟩, ⟨by exact HB.out⟩⟩
       case round =>
        clear H' xq c12 zD Ko aaJ EU EM Dp Dl DR Df Dc ED; obtain ⟨gN, rfl, HA, HK2, lC, HB⟩ := hrel
        cases gk with
        | zero => exact absurd HA.out (by simp [aI.l0])
        | succ k2 =>
         have H := HA.out; clear HA; simp only [aI.l0] at H; by_cases c17 : gN < (fU.length : Int)
         ·rw [if_pos c17] at H; have Cx : decide (gN < (fU.length : Int)) = true := decide_eq_true c17; clear c17; by_cases c18 : 0 ≤ gN
          ·rw [if_pos c18] at H; have CW : decide (0 ≤ gN) = true := decide_eq_true c18; clear c18; by_cases c19 : gN < (fU.length : Int)
           ·rw [if_pos c19] at H; have NB : decide (gN < (fU.length : Int)) = true := decide_eq_true c19; clear c19; have Xp := aa.mk H; clear H; have PW : 0 ≤ (gN : Int) := of_decide_eq_true (by with_reducible assumption); have RD : gN < (fU.length : Int) := of_decide_eq_true (by with_reducible assumption); obtain ⟨xh, e107, zU, zO⟩ := qE Ce.out gN PW RD; cases e107; replace zU := (HB.out.cell (World.block_lt_of_cell? w _ zU)).trans zU; replace zO := (HB.out.cell (World.block_lt_of_cell? w _ zO)).trans zO; replace PW := eq_true PW; replace RD := eq_true RD; (go_upto_if 42 with (((with_reducible refine dh (N := 4) rfl ?_); refine dA ?hg (N := 4) ?hd (cs := #[.int .u8 0, .int .i64 0]) (t := 86) ?hr ?_; (case hd => rfl); (case hg => rfl); (case hr => (go_simp; done)); intro Gl hg w21 hbox hb; have xZ := aa.mk (hbox); have ahp := aa.mk ((by rw [hg]; exact (az (by exact HB.out)) : w.heap.size ≤ Gl)); have UA := aa.mk ((by rw [hg]; exact (az (by exact HB.out)) : w.heap.size ≤ Gl)); replace HB := aa.mk (aW (by exact HB.out) hb); have lY := aa.mk ((by rw [hg]; exact Nat.ne_of_lt (bF (g := yh) (o := .cells #[.int .i64 fq, .int .i64 bz, .slice (some xh) fU.length EE] 66 (0, 0)) (bU lC.out)) : yh ≠ Gl)); have qp := aa.mk ((by rw [hg]; exact Nat.ne_of_gt (bF (g := yh) (o := .cells #[.int .i64 fq, .int .i64 bz, .slice (some xh) fU.length EE] 66 (0, 0)) (bU lC.out)) : Gl ≠ yh)); replace lC := aa.mk (aG (bU lC.out) hb); clear hb hbox hg; have abh := qp.out; have abb := lY.out; obtain ⟨JZ, Jg, Jr, Jj⟩ := ko xZ.out))); (skip); go_cut [42] (fun v42 wc => ∃ (kq : Nat) (Dh : Bool), v42 = .bool Dh ∧ aa (aI.j2 kq gN fU (fU.length : Int) gN Dh fq bz fU ((aj fU gN).f0) ((aj fU gN).f1) = some r) ∧ aa (kq ≤ k2) ∧ aa (wc.heap[yh]? = some (.cells #[.int .i64 fq, .int .i64 bz, (.slice (some xh) fU.length EE)] 66 (0, 0))) ∧ aa (wc.heap[Gl]? = some (.cells #[.int .u8 ((aj fU gN).f0), .int .i64 ((aj fU gN).f1)] 86 (0, 0))) ∧ aa (Below w.heap.size w wc))
            case first =>
             have H := Xp.out; clear Xp; by_cases c24 : ((aj fU gN).f0) < 65
             ·rw [if_pos c24] at H; have NT : decide (((aj fU gN).f0) < 65) = true := decide_eq_true c24; clear c24; (rw [NT]); have H' := aa.mk H; clear H; go_wp2; go_meet; case rel => exact ⟨_, (decide (((aj fU gN).f0) < 65)), (by simp [*]; done), H', ⟨by have := HJ2.out; have := HK2.out; omega⟩, ⟨by (with_reducible skip); refine bC ?_ lY.out _; (with_reducible skip); refine bC ?_ lY.out _; (with_reducible skip); exact lC.out⟩, ⟨by (with_reducible skip); refine bR (cs := #[.int .u8 ((aj fU gN).f0), .int .i64 0]) ?_ 1 _ rfl; (with_reducible skip); refine bR (cs := #[.int .u8 0, .int .i64 0]) ?_ 0 _ rfl; (with_reducible skip); exact xZ.out⟩, ⟨by repeat ((with_reducible first | exact HB.out | refine bV ?_ UA.out))⟩⟩
             ·rw [if_neg c24] at H; have NT : decide (((aj fU gN).f0) < 65) = false := decide_eq_false c24; clear c24; (rw [NT]); have H' := aa.mk H; clear H; have Z0 := qp.out; have abj := lY.out; obtain ⟨Rp, Tu, Ud, Qs⟩ := ko xZ.out; go_wp2; go_meet; case rel => exact ⟨_, (decide (((aj fU gN).f0) > 90)), (by rfl), H', ⟨by have := HJ2.out; have := HK2.out; omega⟩, ⟨by (with_reducible skip); refine bC ?_ lY.out _; (with_reducible skip); refine bC ?_ lY.out _; (with_reducible skip); exact lC.out⟩, ⟨by (with_reducible skip); refine bR (cs := #[.int .u8 ((aj fU gN).f0), .int .i64 0]) ?_ 1 _ rfl; (with_reducible skip); refine bR (cs := #[.int .u8 0, .int .i64 0]) ?_ 0 _ rfl; (with_reducible skip); exact xZ.out⟩, ⟨by repeat ((with_reducible first | exact HB.out | refine bV ?_ UA.out))⟩⟩
            case rest =>
             clear Xp Cx CW NB JZ Jg Jr Jj zU zO PW RD; obtain ⟨kq, Dh, rfl, HA, HJ19, lC, xZ, HB⟩ := hcut
             cases kq with
             | zero => exact absurd HA.out (by simp [aI.j2])
             | succ kj19 =>
              have H := HA.out; clear HA; simp only [aI.j2] at H; by_cases c27 : Dh = true
              ·subst c27; rw [if_pos rfl] at H; obtain rfl := Option.some.inj H; go_wp2
               go_ret
               exact ⟨by rfl, by exact HB.out⟩
              ·replace c27 := Bool.eq_false_iff.mpr c27; subst c27; rw [if_neg (show ¬ (false = true) by decide)] at H; replace H := Option.bind_eq_some_iff.mp H; obtain ⟨XF, abA, H⟩ := H; have A28 := aa.mk abA; clear abA; by_cases c29 : XF = true
               ·subst c29; rw [if_pos rfl] at H; by_cases c30 : gN > 0
                ·rw [if_pos c30] at H; have aaj : decide (0 < gN) = true := decide_eq_true c30; clear c30; obtain ⟨nQ, Vk⟩ : ∃ j_ : Int, (wrap64 (gN - 1)) = j_ := ⟨_, rfl⟩; (replace H : (if 0 ≤ (nQ) then (if (nQ) < (fU.length : Int) then (if ((aj fU gN).f0) ≤ ((aj fU (nQ)).f0) then (some 5) else (aI.l0 kj19 fU (fU.length : Int) (wrap64 (gN + 1)) fq bz fU)) else (none)) else (none)) = some r := by (rw [Vk] at H; exact H)); (skip); have aez : (IntKind.i64.wrap (gN - 1)) = nQ := (cu _).trans Vk; by_cases c32 : 0 ≤ (nQ)
                 ·rw [if_pos c32] at H; have Vm : decide (0 ≤ (nQ)) = true := decide_eq_true c32; clear c32; by_cases c33 : (nQ) < (fU.length : Int)
                  ·rw [if_pos c33] at H; have NC : decide ((nQ) < (fU.length : Int)) = true := decide_eq_true c33; clear c33; by_cases c34 : ((aj fU gN).f0) ≤ ((aj fU (nQ)).f0)
                   ·rw [if_pos c34] at H; have Zx : decide (((aj fU gN).f0) ≤ ((aj fU (nQ)).f0)) = true := decide_eq_true c34; clear c34; obtain rfl := Option.some.inj H; have OZ := qp.out; have NA := lY.out; obtain ⟨RI, RZ, PV, RX⟩ := ko xZ.out; (go_wp2_with ((go_at_call 64; (with_reducible refine (eZ.calls ((aj fU gN).f1) 1 1023 true _ A28.out).mono ?_); rintro e w' ⟨rfl, ⟨nd, rfl⟩⟩; obtain ⟨vD, wm, vT, vG, vE, vJ⟩ := cells3 lC.out; have qO : 0 ≤ ((nQ) : Int) := of_decide_eq_true (by with_reducible assumption); have qM : (nQ) < (fU.length : Int) := of_decide_eq_true (by with_reducible assumption); obtain ⟨uG, e110, iT, iW⟩ := qE Ce.out (nQ) qO qM; obtain rfl : xh = uG := (by injection e110); replace iT := (HB.out.cell (World.block_lt_of_cell? w _ iT)).trans iT; replace iW := (HB.out.cell (World.block_lt_of_cell? w _ iW)).trans iW; replace qO := eq_true qO; replace qM := eq_true qM))); repeat (go_quiet (first | (go_at_call 64; (with_reducible refine (eZ.calls ((aj fU gN).f1) 1 1023 true _ A28.out).mono ?_); rintro e w' ⟨rfl, ⟨nd, rfl⟩⟩; (try first | exact ⟨rfl, _, World.drewN_drewN _ _ _⟩ | exact ⟨rfl, _, Eq.trans (World.drewN_drewN _ _ _) (congrArg (World.drewN _) (Nat.add_assoc _ _ _))⟩); obtain ⟨vD, wm, vT, vG, vE, vJ⟩ := cells3 lC.out; have qO : 0 ≤ ((nQ) : Int) := of_decide_eq_true (by first | (with_reducible assumption) | assumption); have qM : (nQ) < (fU.length : Int) := of_decide_eq_true (by first | (with_reducible assumption) | assumption); obtain ⟨uG, e110, iT, iW⟩ := qE Ce.out (nQ) qO qM; obtain rfl : xh = uG := (by injection e110); replace iT := (HB.out.cell (World.block_lt_of_cell? w _ iT)).trans iT; replace iW := (HB.out.cell (World.block_lt_of_cell? w _ iW)).trans iW; replace qO := eq_true qO; replace qM := eq_true qM)); go_wp2_with (first | (go_at_call 64; (with_reducible refine (eZ.calls ((aj fU gN).f1) 1 1023 true _ A28.out).mono ?_); rintro e w' ⟨rfl, ⟨nd, rfl⟩⟩; (try first | exact ⟨rfl, _, World.drewN_drewN _ _ _⟩ | exact ⟨rfl, _, Eq.trans (World.drewN_drewN _ _ _) (congrArg (World.drewN _) (Nat.add_assoc _ _ _))⟩); obtain ⟨vD, wm, vT, vG, vE, vJ⟩ := cells3 lC.out; have qO : 0 ≤ ((nQ) : Int) := of_decide_eq_true (by first | (with_reducible assumption) | assumption); have qM : (nQ) < (fU.length : Int) := of_decide_eq_true (by first | (with_reducible assumption) | assumption); obtain ⟨uG, e110, iT, iW⟩ := qE Ce.out (nQ) qO qM; obtain rfl : xh = uG := (by injection e110); replace iT := (HB.out.cell (World.block_lt_of_cell? w _ iT)).trans iT; replace iW := (HB.out.cell (World.block_lt_of_cell? w _ iW)).trans iW; replace qO := eq_true qO; replace qM := eq_true qM)))
                    go_ret
                    exact ⟨by rfl, by exact lU HB.out⟩
                   ·rw [if_neg c34] at H; have Zx : decide (((aj fU gN).f0) ≤ ((aj fU (nQ)).f0)) = false := decide_eq_false c34; clear c34; have H' := aa.mk H; clear H; have ahi := qp.out; have agT := lY.out; obtain ⟨aci, acU, acu, aeo⟩ := ko xZ.out; (go_wp2_with ((go_at_call 64; (with_reducible refine (eZ.calls ((aj fU gN).f1) 1 1023 true _ A28.out).mono ?_); rintro e w' ⟨rfl, ⟨nd, rfl⟩⟩; obtain ⟨JL, IU, JH, Jn, Ky, Jl⟩ := cells3 lC.out; have qO : 0 ≤ ((nQ) : Int) := of_decide_eq_true (by with_reducible assumption); have qM : (nQ) < (fU.length : Int) := of_decide_eq_true (by with_reducible assumption); obtain ⟨uG, e110, iT, iW⟩ := qE Ce.out (nQ) qO qM; obtain rfl : xh = uG := (by injection e110); replace iT := (HB.out.cell (World.block_lt_of_cell? w _ iT)).trans iT; replace iW := (HB.out.cell (World.block_lt_of_cell? w _ iW)).trans iW; replace qO := eq_true qO; replace qM := eq_true qM))); (repeat (go_quiet (first | (go_at_call 64; (with_reducible refine (eZ.calls ((aj fU gN).f1) 1 1023 true _ A28.out).mono ?_); rintro e w' ⟨rfl, ⟨nd, rfl⟩⟩; (try first | exact ⟨rfl, _, World.drewN_drewN _ _ _⟩ | exact ⟨rfl, _, Eq.trans (World.drewN_drewN _ _ _) (congrArg (World.drewN _) (Nat.add_assoc _ _ _))⟩); obtain ⟨JL, IU, JH, Jn, Ky, Jl⟩ := cells3 lC.out; have qO : 0 ≤ ((nQ) : Int) := of_decide_eq_true (by first | (with_reducible assumption) | assumption); have qM : (nQ) < (fU.length : Int) := of_decide_eq_true (by first | (with_reducible assumption) | assumption); obtain ⟨uG, e110, iT, iW⟩ := qE Ce.out (nQ) qO qM; obtain rfl : xh = uG := (by injection e110); replace iT := (HB.out.cell (World.block_lt_of_cell? w _ iT)).trans iT; replace iW := (HB.out.cell (World.block_lt_of_cell? w _ iW)).trans iW; replace qO := eq_true qO; replace qM := eq_true qM)); go_wp2_with (first | (go_at_call 64; (with_reducible refine (eZ.calls ((aj fU gN).f1) 1 1023 true _ A28.out).mono ?_); rintro e w' ⟨rfl, ⟨nd, rfl⟩⟩; (try first | exact ⟨rfl, _, World.drewN_drewN _ _ _⟩ | exact ⟨rfl, _, Eq.trans (World.drewN_drewN _ _ _) (congrArg (World.drewN _) (Nat.add_assoc _ _ _))⟩); obtain ⟨JL, IU, JH, Jn, Ky, Jl⟩ := cells3 lC.out; have qO : 0 ≤ ((nQ) : Int) := of_decide_eq_true (by first | (with_reducible assumption) | assumption); have qM : (nQ) < (fU.length : Int) := of_decide_eq_true (by first | (with_reducible assumption) | assumption); obtain ⟨uG, e110, iT, iW⟩ := qE Ce.out (nQ) qO qM; obtain rfl : xh = uG := (by injection e110); replace iT := (HB.out.cell (World.block_lt_of_cell? w _ iT)).trans iT; replace iW := (HB.out.cell (World.block_lt_of_cell? w _ iW)).trans iW; replace qO := eq_true qO; replace qM := eq_true qM)))); go_roundg kj19; (case measure => have := HJ2.out; have := HK2.out; have := HJ19.out; omega); case rel => exact ⟨(wrap64 (gN + 1)), (by rfl), H', ⟨by have := HJ2.out; have := HK2.out; have := HJ19.out; omega⟩, ⟨by (with_reducible repeat (refine gU ?_ _)); exact lC.out⟩, ⟨by exact lU HB.out⟩⟩
                  ·rw [if_neg c33] at H; exact absurd H (by simp)
                 ·rw [if_neg c32] at H; exact absurd H (by simp)
                ·rw [if_neg c30] at H; have aaj : decide (0 < gN) = false := decide_eq_false c30; clear c30; have H' := aa.mk H; clear H; have J4 := qp.out; have Js := lY.out; obtain ⟨R9, Qk, SS, Rh⟩ := ko xZ.out; (go_wp2_with ((go_at_call 64; (with_reducible refine (eZ.calls ((aj fU gN).f1) 1 1023 true _ A28.out).mono ?_); rintro e w' ⟨rfl, ⟨nd, rfl⟩⟩))); (repeat (go_quiet (first | (go_at_call 64; (with_reducible refine (eZ.calls ((aj fU gN).f1) 1 1023 true _ A28.out).mono ?_); rintro e w' ⟨rfl, ⟨nd, rfl⟩⟩; (try first | exact ⟨rfl, _, World.drewN_drewN _ _ _⟩ | exact ⟨rfl, _, Eq.trans (World.drewN_drewN _ _ _) (congrArg (World.drewN _) (Nat.add_assoc _ _ _))⟩))); go_wp2_with (first | (go_at_call 64; (with_reducible refine (eZ.calls ((aj fU gN).f1) 1 1023 true _ A28.out).mono ?_); rintro e w' ⟨rfl, ⟨nd, rfl⟩⟩; (try first | exact ⟨rfl, _, World.drewN_drewN _ _ _⟩ | exact ⟨rfl, _, Eq.trans (World.drewN_drewN _ _ _) (congrArg (World.drewN _) (Nat.add_assoc _ _ _))⟩))))); go_roundg kj19; (case measure => have := HJ2.out; have := HK2.out; have := HJ19.out; omega); case rel => exact ⟨(wrap64 (gN + 1)), (by rfl), H', ⟨by have := HJ2.out; have := HK2.out; have := HJ19.out; omega⟩, ⟨by (with_reducible repeat (refine gU ?_ _)); exact lC.out⟩, ⟨by exact lU HB.out⟩⟩
               ·replace c29 := Bool.eq_false_iff.mpr c29; subst c29; rw [if_neg (show ¬ (false = true) by decide)] at H; obtain rfl := Option.some.inj H; have IP := qp.out; have Jo := lY.out; obtain ⟨Ub, Rn, QD, QQ⟩ := ko xZ.out; go_wp2_with ((go_at_call 64; (with_reducible refine (eZ.calls ((aj fU gN).f1) 1 1023 false _ A28.out).mono ?_); rintro e w' ⟨rfl, ⟨nd, rfl⟩⟩))
                go_ret
                exact ⟨by rfl, by exact lU HB.out⟩
           ·rw [if_neg c19] at H; exact absurd H (by simp)
          ·rw [if_neg c18] at H; exact absurd H (by simp)
         ·rw [if_neg c17] at H; have Cx : decide (gN < (fU.length : Int)) = false := decide_eq_false c17; clear c17; obtain rfl := Option.some.inj H; go_wp2
          go_ret
          exact ⟨by rfl, by exact HB.out⟩
def fH.f (a0 : Int) (a1 : Int) : Option (Int) := some (Go.bits .andNot .i64 a0 a1)
set_option maxHeartbeats 8000000 in
set_option maxRecDepth 100000 in
theorem fH.calls (a0 : Int) (a1 : Int) (r : Int) (w : World) (h : fH.f a0 a1 = some r) :
 Calls Try.prog 65 #[.int .i64 a0, .int .i64 a1] w fun e w' => e = .returned (.int .i64 r) ∧ dB w w' := by
 have H : (some (Go.bits .andNot .i64 a0 a1)) = some r := h; clear h; obtain rfl := Option.some.inj H; go_enter Try.func65, Try.ntmps65; go_wp2
 go_ret
 exact ⟨by first | rfl | (simp; done) | (simp [*]; done), by repeat (first | exact dB.refl _ | apply dB.step)⟩
mutual
def aN.l0 : Nat → List (S66) → Int → Int → List (S66) → Int → Int → Int → List (List (S27)) → Option (Int)
 | 0, _, _, _, _, _, _, _, _ => none
 | k + 1, x21, x22, x23, yj, vO, wo, vW, qf => if x23 < x22 then (if 0 ≤ x23 then (if x23 < (x21.length : Int) then ((aI.f k ((ah x21 x23).f0.f0) ((ah x21 x23).f0.f1) ((ah x21 x23).f1)).bind fun Ck => (if Ck = 0 then (aN.l0 k x21 x22 (wrap64 (x23 + 1)) yj vO wo vW qf) else (some Ck))) else (none)) else (none)) else ((eZ.f vO 0 10).bind fun MS => (if MS = true then ((eZ.f wo 0 10).bind fun Qq => (if Qq = true then ((eZ.f vW 0 40).bind fun PX => (aN.j1 k (!PX) yj vO wo vW qf)) else (aN.j1 k (!Qq) yj vO wo vW qf))) else (aN.j1 k (!MS) yj vO wo vW qf)))
def aN.j1 : Nat → Bool → List (S66) → Int → Int → Int → List (List (S27)) → Option (Int)
 | 0, _, _, _, _, _, _ => none
 | k + 1, x33, yj, vO, wo, vW, qf => if x33 = true then (some 1) else (if (qf.length : Int) = 0 then (some 7) else (if (qf.length : Int) > 8 then (some 6) else (aN.l1 k qf (qf.length : Int) 0)))
def aN.l1 : Nat → List (List (S27)) → Int → Int → Option (Int)
 | 0, _, _, _ => none
 | k + 1, x57, x58, x59 => if x59 < x58 then (if 0 ≤ x59 then (if x59 < (x57.length : Int) then (if ((fB x57 x59).length : Int) > 4 then (some 6) else (aN.l2 k x57 x58 x59 (fB x57 x59) ((fB x57 x59).length : Int) 0)) else (none)) else (none)) else (some 0)
def aN.l2 : Nat → List (List (S27)) → Int → Int → List (S27) → Int → Int → Option (Int)
 | 0, _, _, _, _, _, _ => none
 | k + 1, x57, x58, x59, x66, x67, x68 => if x68 < x67 then (if 0 ≤ x68 then (if x68 < (x66.length : Int) then ((eZ.f ((fT x66 x68).f0) 0 1023).bind fun Ol => (if Ol = true then ((eZ.f ((fT x66 x68).f1) 0 1023).bind fun QU => (aN.j4 k x57 x58 x59 x66 x67 x68 (!QU) ((fT x66 x68).f0) ((fT x66 x68).f1))) else (aN.j4 k x57 x58 x59 x66 x67 x68 (!Ol) ((fT x66 x68).f0) ((fT x66 x68).f1)))) else (none)) else (none)) else (aN.l1 k x57 x58 (wrap64 (x59 + 1)))
def aN.j4 : Nat → List (List (S27)) → Int → Int → List (S27) → Int → Int → Bool → Int → Int → Option (Int)
 | 0, _, _, _, _, _, _, _, _, _ => none
 | k + 1, x57, x58, x59, x66, x67, x68, x72, QI, P7 => if x72 = true then (some 1) else ((fH.f P7 QI).bind fun Dx => (if Dx = 0 then (aN.l2 k x57 x58 x59 x66 x67 (wrap64 (x68 + 1))) else (some 2)))
end
def aN.f (k : Nat) (aZ : List (S66)) (bz : Int) (bS : Int) (bW : Int) (bB : List (List (S27))) : Option (Int) := if (aZ.length : Int) = 0 then (some 7) else (if (aZ.length : Int) > 4 then (some 6) else (aN.l0 k aZ (aZ.length : Int) 0 aZ bz bS bW bB))
theorem aN.fO : ∀ k, (∀ y0 y1 y2 y3 y4 y5 y6 y7, LeO (aN.l0 k y0 y1 y2 y3 y4 y5 y6 y7) (aN.l0 (k + 1) y0 y1 y2 y3 y4 y5 y6 y7)) ∧ (∀ y0 y1 y2 y3 y4 y5, LeO (aN.j1 k y0 y1 y2 y3 y4 y5) (aN.j1 (k + 1) y0 y1 y2 y3 y4 y5)) ∧ (∀ y0 y1 y2, LeO (aN.l1 k y0 y1 y2) (aN.l1 (k + 1) y0 y1 y2)) ∧ (∀ y0 y1 y2 y3 y4 y5, LeO (aN.l2 k y0 y1 y2 y3 y4 y5) (aN.l2 (k + 1) y0 y1 y2 y3 y4 y5)) ∧ (∀ y0 y1 y2 y3 y4 y5 y6 y7 y8, LeO (aN.j4 k y0 y1 y2 y3 y4 y5 y6 y7 y8) (aN.j4 (k + 1) y0 y1 y2 y3 y4 y5 y6 y7 y8))
 | 0 => ⟨fun _ _ _ _ _ _ _ _ r h => by simp [aN.l0] at h, fun _ _ _ _ _ _ r h => by simp [aN.j1] at h, fun _ _ _ r h => by simp [aN.l1] at h, fun _ _ _ _ _ _ r h => by simp [aN.l2] at h, fun _ _ _ _ _ _ _ _ _ r h => by simp [aN.j4] at h⟩
 | k + 1 => by
  obtain ⟨ih0, ih1, ih2, ih3, ih4⟩ := aN.fO k; refine ⟨?_, ?_, ?_, ?_, ?_⟩
  ·intro y0 y1 y2 y3 y4 y5 y6 y7; unfold aN.l0
   repeat' first | (with_reducible exact ih0 _ _ _ _ _ _ _ _) | (with_reducible exact ih1 _ _ _ _ _ _) | (with_reducible exact aI.mono _ _ _ _) | (with_reducible exact LeO.refl _) | (with_reducible refine LeO.ite ?_ ?_) | (with_reducible refine LeO.bind ?_ (fun _ => ?_))
  ·intro y0 y1 y2 y3 y4 y5; unfold aN.j1
   repeat' first | (with_reducible exact ih2 _ _ _) | (with_reducible exact LeO.refl _) | (with_reducible refine LeO.ite ?_ ?_)
  ·intro y0 y1 y2; unfold aN.l1
   repeat' first | (with_reducible exact ih3 _ _ _ _ _ _) | (with_reducible exact LeO.refl _) | (with_reducible refine LeO.ite ?_ ?_)
  ·intro y0 y1 y2 y3 y4 y5; unfold aN.l2
   repeat' first | (with_reducible exact ih2 _ _ _) | (with_reducible exact ih4 _ _ _ _ _ _ _ _ _) | (with_reducible exact LeO.refl _) | (with_reducible refine LeO.ite ?_ ?_) | (with_reducible refine LeO.bind ?_ (fun _ => ?_))
  ·intro y0 y1 y2 y3 y4 y5 y6 y7 y8; unfold aN.j4
   repeat' first | (with_reducible exact ih3 _ _ _ _ _ _) | (with_reducible exact LeO.refl _) | (with_reducible refine LeO.ite ?_ ?_) | (with_reducible refine LeO.bind ?_ (fun _ => ?_))
theorem aN.mono : ∀ a0 a1 a2 a3 a4 k, LeO (aN.f k a0 a1 a2 a3 a4) (aN.f (k + 1) a0 a1 a2 a3 a4) := by
 intro a0 a1 a2 a3 a4 k; obtain ⟨ih0, ih1, ih2, ih3, ih4⟩ := aN.fO k; unfold aN.f
 repeat' first | (with_reducible exact ih0 _ _ _ _ _ _ _ _) | (with_reducible exact LeO.refl _) | (with_reducible refine LeO.ite ?_ ?_)
set_option maxHeartbeats 8000000 in
set_option maxRecDepth 100000 in
theorem aN.calls (k : Nat) (eX : Option Addr) (dZ : Nat) (aZ : List (S66)) (bz : Int) (bS : Int) (bW : Int) (eB : Option Addr) (dW : Nat) (bB : List (List (S27))) (r : Int) (w : World) (lZ : Kd.C k66 w eX aZ.length aZ) (nz : aZ.length ≤ dZ) (mf : Kd.C (Kd.slice 27 k27) w eB bB.length bB) (nD : bB.length ≤ dW) (h : aN.f k aZ bz bS bW bB = some r) :
 Calls Try.prog 40 #[.agg #[.slice eX aZ.length dZ, .int .i64 bz, .int .i64 bS, .int .i64 bW, .slice eB bB.length dW]] w fun e w' => e = .returned (.int .i64 r) ∧ Below w.heap.size w w' := by
 have hu25 := Try.underlying25; have hu66 := Try.underlying66; have hu27 := Try.underlying27; have pU := aa.mk lZ; have uW := aa.mk nz; clear lZ nz; have ry := aa.mk mf; have uT := aa.mk nD; clear mf nD; have HB := aa.mk (Below.refl w.heap.size w); have H : (if (aZ.length : Int) = 0 then (some 7) else (if (aZ.length : Int) > 4 then (some 6) else (aN.l0 k aZ (aZ.length : Int) 0 aZ bz bS bW bB))) = some r := h; clear h; by_cases c2 : (aZ.length : Int) = 0
 ·rw [if_pos c2] at H; have GJ : ((aZ.length : Int) == 0) = true := beq_iff_eq.mpr c2; have ZU : ((aZ.length : Int) != 0) = false := bne_eq_false_iff_eq.mpr c2; clear c2; obtain rfl := Option.some.inj H; go_enter Try.func40, Try.ntmps40; go_wp2_with (((with_reducible refine dh (N := 1) rfl ?_); refine dA ?hg (N := 1) ?hd (cs := #[.slice eX aZ.length dZ, .int .i64 bz, .int .i64 bS, .int .i64 bW, .slice eB bB.length dW]) (t := 25) ?hr ?_; (case hd => rfl); (case hg => rfl); (case hr => (go_simp; done)); intro lm hg w3 hbox hb; have ik := aa.mk (hbox); have U9 := aa.mk ((by rw [hg]; exact (az (by exact HB.out)) : w.heap.size ≤ lm)); have Uz := aa.mk ((by rw [hg]; exact (az (by exact HB.out)) : w.heap.size ≤ lm)); replace HB := aa.mk (aW (by exact HB.out) hb); clear hb hbox hg; obtain ⟨af5, aeF, aeJ, afm, aeG, aeB, afG, agb, af8, ae3⟩ := cells5 ik.out))
  go_ret
  exact ⟨by rfl, by exact HB.out⟩
 ·rw [if_neg c2] at H; have GJ : ((aZ.length : Int) == 0) = false := beq_eq_false_iff_ne.mpr c2; have ZU : ((aZ.length : Int) != 0) = true := bne_iff_ne.mpr c2; (have afL : ¬ (aZ = []) := fun h_ => c2 (by rw [h_]; rfl)); by_cases c5 : (aZ.length : Int) > 4
  ·rw [if_pos c5] at H; have BS : decide (4 < (aZ.length : Int)) = true := decide_eq_true c5; have LJ : decide (4 < aZ.length) = true := decide_eq_true (by omega); clear c5; obtain rfl := Option.some.inj H; go_enter Try.func40, Try.ntmps40; go_wp2_with (((with_reducible refine dh (N := 1) rfl ?_); refine dA ?hg (N := 1) ?hd (cs := #[.slice eX aZ.length dZ, .int .i64 bz, .int .i64 bS, .int .i64 bW, .slice eB bB.length dW]) (t := 25) ?hr ?_; (case hd => rfl); (case hg => rfl); (case hr => (go_simp; done)); intro lm hg w6 hbox hb; have ik := aa.mk (hbox); have U9 := aa.mk ((by rw [hg]; exact (az (by exact HB.out)) : w.heap.size ≤ lm)); have Uz := aa.mk ((by rw [hg]; exact (az (by exact HB.out)) : w.heap.size ≤ lm)); replace HB := aa.mk (aW (by exact HB.out) hb); clear hb hbox hg; obtain ⟨VT, Xz, afD, afu, afz, XQ, WZ, afA, afV, afT⟩ := cells5 ik.out))
   go_ret
   exact ⟨by rfl, by exact HB.out⟩
  ·rw [if_neg c5] at H; have BS : decide (4 < (aZ.length : Int)) = false := decide_eq_false c5; have LJ : decide (4 < aZ.length) = false := decide_eq_false (by omega); clear c5; have H' := aa.mk H; clear H; go_enter Try.func40, Try.ntmps40; (go_wp2_with (((with_reducible refine dh (N := 1) rfl ?_); refine dA ?hg (N := 1) ?hd (cs := #[.slice eX aZ.length dZ, .int .i64 bz, .int .i64 bS, .int .i64 bW, .slice eB bB.length dW]) (t := 25) ?hr ?_; (case hd => rfl); (case hg => rfl); (case hr => (go_simp; done)); intro lm hg w8 hbox hb; have ik := aa.mk (hbox); have U9 := aa.mk ((by rw [hg]; exact (az (by exact HB.out)) : w.heap.size ≤ lm)); have Uz := aa.mk ((by rw [hg]; exact (az (by exact HB.out)) : w.heap.size ≤ lm)); replace HB := aa.mk (aW (by exact HB.out) hb); clear hb hbox hg; obtain ⟨O3, Mt, WI, Xa, VJ, MH, Pb, WY, VZ, Wm⟩ := cells5 ik.out))); (go_loopg [23] k (fun kq v23 w' => ∃ (iI : Int), v23 = .int .i64 iI ∧ aa (aN.l0 kq aZ (aZ.length : Int) iI aZ bz bS bW bB = some r) ∧ aa (kq ≤ k) ∧ aa (w'.heap[lm]? = some (.cells #[(.slice eX aZ.length dZ), .int .i64 bz, .int .i64 bS, .int .i64 bW, (.slice eB bB.length dW)] 25 (0, 0))) ∧ aa (Below w.heap.size w w'))); case atStart => exact ⟨(0), (by rfl), H', ⟨Nat.le_refl _⟩, ⟨by (with_reducible skip); exact ik.out⟩, ⟨by exact HB.out⟩⟩
   case round =>
    clear H' c2 GJ ZU afL BS LJ O3 Mt WI Xa VJ MH Pb WY VZ Wm; obtain ⟨iI, rfl, HA, HK1, ik, HB⟩ := hrel
    cases gk with
    | zero => exact absurd HA.out (by simp [aN.l0])
    | succ k1 =>
     have H := HA.out; clear HA; simp only [aN.l0] at H; by_cases c10 : iI < (aZ.length : Int)
     ·rw [if_pos c10] at H; have xq : decide (iI < (aZ.length : Int)) = true := decide_eq_true c10; clear c10; by_cases c11 : 0 ≤ iI
      ·rw [if_pos c11] at H; have IQ : decide (0 ≤ iI) = true := decide_eq_true c11; clear c11; by_cases c12 : iI < (aZ.length : Int)
       ·rw [if_pos c12] at H; have zD : decide (iI < (aZ.length : Int)) = true := decide_eq_true c12; clear c12; replace H := Option.bind_eq_some_iff.mp H; obtain ⟨Ck, OL, H⟩ := H; have A13 := aa.mk OL; clear OL; by_cases c14 : Ck = 0
        ·rw [if_pos c14] at H; have EU : (Ck == 0) = true := beq_iff_eq.mpr c14; have EM : (Ck != 0) = false := bne_eq_false_iff_eq.mpr c14; clear c14; have H' := aa.mk H; clear H; have GN : 0 ≤ (iI : Int) := of_decide_eq_true (by with_reducible assumption); have GV : iI < (aZ.length : Int) := of_decide_eq_true (by with_reducible assumption); obtain ⟨AA, A112_2, c112_2, e112, tQ, tT, tX, wW, xW⟩ := oM pU.out iI GN GV; cases e112; replace tQ := (HB.out.cell (World.block_lt_of_cell? w _ tQ)).trans tQ; replace tT := (HB.out.cell (World.block_lt_of_cell? w _ tT)).trans tT; replace tX := (HB.out.cell (World.block_lt_of_cell? w _ tX)).trans tX; have Ez := aa.mk xW; have Dq := aa.mk wW; clear xW wW; replace GN := eq_true GN; replace GV := eq_true GV; (go_wp2_with (first | ((with_reducible refine dh (N := 4) rfl ?_); refine dA ?hg (N := 4) ?hd (cs := #[.int .i64 0, .int .i64 0, .slice none 0 0]) (t := 66) ?hr ?_; (case hd => rfl); (case hg => rfl); (case hr => (go_simp; done)); intro uK hg w15 hbox hb; have Cg := aa.mk (hbox); have aa7 := aa.mk ((by rw [hg]; exact (az (by exact HB.out)) : w.heap.size ≤ uK)); have F9 := aa.mk ((by rw [hg]; exact (az (by exact HB.out)) : w.heap.size ≤ uK)); replace HB := aa.mk (aW (by exact HB.out) hb); have mG := aa.mk ((by rw [hg]; exact Nat.ne_of_lt (bF (g := lm) (o := .cells #[.slice (some AA) aZ.length dZ, .int .i64 bz, .int .i64 bS, .int .i64 bW, .slice eB bB.length dW] 25 (0, 0)) (bU ik.out)) : lm ≠ uK)); have yJ := aa.mk ((by rw [hg]; exact Nat.ne_of_gt (bF (g := lm) (o := .cells #[.slice (some AA) aZ.length dZ, .int .i64 bz, .int .i64 bS, .int .i64 bW, .slice eB bB.length dW] 25 (0, 0)) (bU ik.out)) : uK ≠ lm)); replace ik := aa.mk (aG (bU ik.out) hb); clear hb hbox hg; have ag6 := yJ.out; have agO := mG.out; obtain ⟨J6, JC, I5, Je, Jv, J9⟩ := cells3 Cg.out) | ((with_reducible refine bT (f := 63) rfl ?_); refine fC (some 28) rfl rfl Try.func63 (by kernel_rfl) rfl #[.agg #[.int .i64 ((ah aZ iI).f0.f0), .int .i64 ((ah aZ iI).f0.f1), .slice A112_2 ((ah aZ iI).f1).length c112_2]] rfl (by (simp only [List.map_toArray, List.map_cons, List.map_nil]); rfl) ?_; (with_reducible refine (aI.calls k1 ((ah aZ iI).f0.f0) ((ah aZ iI).f0.f1) _ _ ((ah aZ iI).f1) Ck _ ?side1 ?side2 A13.out).mono ?_); (case side1 => exact Kd.eT Ez.out (by repeat ((with_reducible first | exact HB.out | refine bV ?_ F9.out)))); (case side2 => exact Dq.out); rintro e w18 ⟨rfl, hb⟩; refine ⟨_, rfl, ?_⟩; replace ik := aa.mk (aG (g := lm) (o := .cells #[.slice (some AA) aZ.length dZ, .int .i64 bz, .int .i64 bS, .int .i64 bW, .slice eB bB.length dW] 25 (0, 0)) (by (with_reducible skip); refine bC ?_ mG.out _; (with_reducible skip); refine bC ?_ mG.out _; (with_reducible skip); refine bC ?_ mG.out _; (with_reducible skip); exact ik.out) hb); replace Cg := aa.mk (aG (g := uK) (o := .cells #[.int .i64 ((ah aZ iI).f0.f0), .int .i64 ((ah aZ iI).f0.f1), .slice A112_2 ((ah aZ iI).f1).length c112_2] 66 (0, 0)) (by (with_reducible skip); refine bR (cs := #[.int .i64 ((ah aZ iI).f0.f0), .int .i64 ((ah aZ iI).f0.f1), .slice none 0 0]) ?_ 2 _ rfl; (with_reducible skip); refine bR (cs := #[.int .i64 ((ah aZ iI).f0.f0), .int .i64 0, .slice none 0 0]) ?_ 1 _ rfl; (with_reducible skip); refine bR (cs := #[.int .i64 0, .int .i64 0, .slice none 0 0]) ?_ 0 _ rfl; (with_reducible skip); exact Cg.out) hb); replace HB := aa.mk (aW (by repeat ((with_reducible first | exact HB.out | refine bV ?_ F9.out))) hb); (clear hb)))); go_roundg k1; (case measure => have := HK1.out; omega); case rel => exact ⟨(wrap64 (iI + 1)), (by rfl), H', ⟨by have := HK1.out; omega⟩, ⟨by (with_reducible skip); exact ik.out⟩, ⟨by exact HB.out⟩⟩
        ·rw [if_neg c14] at H; have EU : (Ck == 0) = false := beq_eq_false_iff_ne.mpr c14; have EM : (Ck != 0) = true := bne_iff_ne.mpr c14; obtain rfl := Option.some.inj H; have GN : 0 ≤ (iI : Int) := of_decide_eq_true (by with_reducible assumption); have GV : iI < (aZ.length : Int) := of_decide_eq_true (by with_reducible assumption); obtain ⟨AA, A112_2, c112_2, e112, tQ, tT, tX, wW, xW⟩ := oM pU.out iI GN GV; cases e112; replace tQ := (HB.out.cell (World.block_lt_of_cell? w _ tQ)).trans tQ; replace tT := (HB.out.cell (World.block_lt_of_cell? w _ tT)).trans tT; replace tX := (HB.out.cell (World.block_lt_of_cell? w _ tX)).trans tX; have Ez := aa.mk xW; have Dq := aa.mk wW; clear xW wW; replace GN := eq_true GN; replace GV := eq_true GV; go_wp2_with (first | ((with_reducible refine dh (N := 4) rfl ?_); refine dA ?hg (N := 4) ?hd (cs := #[.int .i64 0, .int .i64 0, .slice none 0 0]) (t := 66) ?hr ?_; (case hd => rfl); (case hg => rfl); (case hr => (go_simp; done)); intro uK hg w19 hbox hb; have Cg := aa.mk (hbox); have aa7 := aa.mk ((by rw [hg]; exact (az (by exact HB.out)) : w.heap.size ≤ uK)); have F9 := aa.mk ((by rw [hg]; exact (az (by exact HB.out)) : w.heap.size ≤ uK)); replace HB := aa.mk (aW (by exact HB.out) hb); have mG := aa.mk ((by rw [hg]; exact Nat.ne_of_lt (bF (g := lm) (o := .cells #[.slice (some AA) aZ.length dZ, .int .i64 bz, .int .i64 bS, .int .i64 bW, .slice eB bB.length dW] 25 (0, 0)) (bU ik.out)) : lm ≠ uK)); have yJ := aa.mk ((by rw [hg]; exact Nat.ne_of_gt (bF (g := lm) (o := .cells #[.slice (some AA) aZ.length dZ, .int .i64 bz, .int .i64 bS, .int .i64 bW, .slice eB bB.length dW] 25 (0, 0)) (bU ik.out)) : uK ≠ lm)); replace ik := aa.mk (aG (bU ik.out) hb); clear hb hbox hg; have ahQ := yJ.out; have ag2 := mG.out; obtain ⟨Sm, PY, Qr, Sg, Ui, R7⟩ := cells3 Cg.out) | ((with_reducible refine bT (f := 63) rfl ?_); refine fC (some 28) rfl rfl Try.func63 (by kernel_rfl) rfl #[.agg #[.int .i64 ((ah aZ iI).f0.f0), .int .i64 ((ah aZ iI).f0.f1), .slice A112_2 ((ah aZ iI).f1).length c112_2]] rfl (by (simp only [List.map_toArray, List.map_cons, List.map_nil]); rfl) ?_; (with_reducible refine (aI.calls k1 ((ah aZ iI).f0.f0) ((ah aZ iI).f0.f1) _ _ ((ah aZ iI).f1) Ck _ ?side1 ?side2 A13.out).mono ?_); (case side1 => exact Kd.eT Ez.out (by repeat ((with_reducible first | exact HB.out | refine bV ?_ F9.out)))); (case side2 => exact Dq.out); rintro e w22 ⟨rfl, hb⟩; refine ⟨_, rfl, ?_⟩; replace ik := aa.mk (aG (g := lm) (o := .cells #[.slice (some AA) aZ.length dZ, .int .i64 bz, .int .i64 bS, .int .i64 bW, .slice eB bB.length dW] 25 (0, 0)) (by (with_reducible skip); refine bC ?_ mG.out _; (with_reducible skip); refine bC ?_ mG.out _; (with_reducible skip); refine bC ?_ mG.out _; (with_reducible skip); exact ik.out) hb); replace Cg := aa.mk (aG (g := uK) (o := .cells #[.int .i64 ((ah aZ iI).f0.f0), .int .i64 ((ah aZ iI).f0.f1), .slice A112_2 ((ah aZ iI).f1).length c112_2] 66 (0, 0)) (by (with_reducible skip); refine bR (cs := #[.int .i64 ((ah aZ iI).f0.f0), .int .i64 ((ah aZ iI).f0.f1), .slice none 0 0]) ?_ 2 _ rfl; (with_reducible skip); refine bR (cs := #[.int .i64 ((ah aZ iI).f0.f0), .int .i64 0, .slice none 0 0]) ?_ 1 _ rfl; (with_reducible skip); refine bR (cs := #[.int .i64 0, .int .i64 0, .slice none 0 0]) ?_ 0 _ rfl; (with_reducible skip); exact Cg.out) hb); replace HB := aa.mk (aW (by repeat ((with_reducible first | exact HB.out | refine bV ?_ F9.out))) hb); (clear hb)))
         go_ret
         exact ⟨by rfl, by exact HB.out⟩
       ·rw [if_neg c12] at H; exact absurd H (by simp)
      ·rw [if_neg c11] at H; exact absurd H (by simp)
     ·rw [if_neg c10] at H; have xq : decide (iI < (aZ.length : Int)) = false := decide_eq_false c10; clear c10; replace H := Option.bind_eq_some_iff.mp H; obtain ⟨MS, abz, H⟩ := H; have A23 := aa.mk abz; clear abz; have VY := aa.mk H; clear H; obtain ⟨R3, Td, Sq, P9, RV, QC, Q9, Re, QH, SG⟩ := cells5 ik.out; (go_upto_if 33 with (((with_reducible refine bT (f := 64) rfl ?_); refine fC (some 36) rfl rfl Try.func64 (by kernel_rfl) rfl #[.int .i64 bz, .int .i64 0, .int .i64 10] rfl (by (simp only [List.map_toArray, List.map_cons, List.map_nil]); rfl) ?_; (with_reducible refine (eZ.calls bz 0 10 MS _ A23.out).mono ?_); rintro e w' ⟨rfl, ⟨nd, rfl⟩⟩; refine ⟨_, rfl, ?_⟩))); (skip); go_cut [33] (fun v33 wc => ∃ (kq : Nat) (Ea : Bool), v33 = .bool Ea ∧ aa (aN.j1 kq Ea aZ bz bS bW bB = some r) ∧ aa (kq ≤ k1) ∧ aa (wc.heap[lm]? = some (.cells #[(.slice eX aZ.length dZ), .int .i64 bz, .int .i64 bS, .int .i64 bW, (.slice eB bB.length dW)] 25 (0, 0))) ∧ aa (Below w.heap.size w wc))
      case first =>
       have H := VY.out; clear VY; by_cases c26 : MS = true
       ·subst c26; rw [if_pos rfl] at H; replace H := Option.bind_eq_some_iff.mp H; obtain ⟨Qq, YS, H⟩ := H; have A27 := aa.mk YS; clear YS; by_cases c28 : Qq = true
        ·subst c28; rw [if_pos rfl] at H; replace H := Option.bind_eq_some_iff.mp H; obtain ⟨PX, YJ, H⟩ := H; have A29 := aa.mk YJ; clear YJ; have H' := aa.mk H; clear H; obtain ⟨abS, ab6, acl, ac7, acA, adC, acI, adm, adL, aeh⟩ := cells5 ik.out; (go_wp2_with (first | ((with_reducible refine bT (f := 64) rfl ?_); refine fC (some 40) rfl rfl Try.func64 (by kernel_rfl) rfl #[.int .i64 bS, .int .i64 0, .int .i64 10] rfl (by (simp only [List.map_toArray, List.map_cons, List.map_nil]); rfl) ?_; (with_reducible refine (eZ.calls bS 0 10 true _ A27.out).mono ?_); rintro e w' ⟨rfl, ⟨nd, rfl⟩⟩; refine ⟨_, rfl, ?_⟩) | ((with_reducible refine bT (f := 64) rfl ?_); refine fC (some 44) rfl rfl Try.func64 (by kernel_rfl) rfl #[.int .i64 bW, .int .i64 0, .int .i64 40] rfl (by (simp only [List.map_toArray, List.map_cons, List.map_nil]); rfl) ?_; (with_reducible refine (eZ.calls bW 0 40 PX _ A29.out).mono ?_); rintro e w' ⟨rfl, ⟨nd, rfl⟩⟩; refine ⟨_, rfl, ?_⟩))); go_meet; case rel => exact ⟨_, (!PX), (by rfl), H', ⟨by have := HK1.out; omega⟩, ⟨by (with_reducible repeat (refine gU ?_ _)); exact ik.out⟩, ⟨by exact lU HB.out⟩⟩
        ·replace c28 := Bool.eq_false_iff.mpr c28; subst c28; rw [if_neg (show ¬ (false = true) by decide)] at H; have H' := aa.mk H; clear H; obtain ⟨IY, Kq, Ua, adO, acD, Ki, J7, Rk, aer, adz⟩ := cells5 ik.out; (go_wp2_with (((with_reducible refine bT (f := 64) rfl ?_); refine fC (some 40) rfl rfl Try.func64 (by kernel_rfl) rfl #[.int .i64 bS, .int .i64 0, .int .i64 10] rfl (by (simp only [List.map_toArray, List.map_cons, List.map_nil]); rfl) ?_; (with_reducible refine (eZ.calls bS 0 10 false _ A27.out).mono ?_); rintro e w' ⟨rfl, ⟨nd, rfl⟩⟩; refine ⟨_, rfl, ?_⟩))); go_meet; case rel => exact ⟨_, (!false), (by rfl), H', ⟨by have := HK1.out; omega⟩, ⟨by (with_reducible repeat (refine gU ?_ _)); exact ik.out⟩, ⟨by exact lU HB.out⟩⟩
       ·replace c26 := Bool.eq_false_iff.mpr c26; subst c26; rw [if_neg (show ¬ (false = true) by decide)] at H; have H' := aa.mk H; clear H; go_wp2; go_meet; case rel => exact ⟨_, (!false), (by rfl), H', ⟨by have := HK1.out; omega⟩, ⟨by (with_reducible repeat (refine gU ?_ _)); exact ik.out⟩, ⟨by exact lU HB.out⟩⟩
      case rest =>
       clear VY xq R3 Td Sq P9 RV QC Q9 Re QH SG; obtain ⟨kq, Ea, rfl, HA, HJ23, ik, HB⟩ := hcut
       cases kq with
       | zero => exact absurd HA.out (by simp [aN.j1])
       | succ kj23 =>
        have H := HA.out; clear HA; simp only [aN.j1] at H; by_cases c32 : Ea = true
        ·subst c32; rw [if_pos rfl] at H; obtain rfl := Option.some.inj H; go_wp2
         go_ret
         exact ⟨by rfl, by exact HB.out⟩
        ·replace c32 := Bool.eq_false_iff.mpr c32; subst c32; rw [if_neg (show ¬ (false = true) by decide)] at H; by_cases c33 : (bB.length : Int) = 0
         ·rw [if_pos c33] at H; have NC : ((bB.length : Int) == 0) = true := beq_iff_eq.mpr c33; have UY : ((bB.length : Int) != 0) = false := bne_eq_false_iff_eq.mpr c33; clear c33; obtain rfl := Option.some.inj H; obtain ⟨aca, ad6, acT, acC, acY, acQ, adQ, acv, abI, ac5⟩ := cells5 ik.out; go_wp2
          go_ret
          exact ⟨by rfl, by exact HB.out⟩
         ·rw [if_neg c33] at H; have NC : ((bB.length : Int) == 0) = false := beq_eq_false_iff_ne.mpr c33; have UY : ((bB.length : Int) != 0) = true := bne_iff_ne.mpr c33; (have aaz : ¬ (bB = []) := fun h_ => c33 (by rw [h_]; rfl)); by_cases c35 : (bB.length : Int) > 8
          ·rw [if_pos c35] at H; have Vw : decide (8 < (bB.length : Int)) = true := decide_eq_true c35; have UW : decide (8 < bB.length) = true := decide_eq_true (by omega); clear c35; obtain rfl := Option.some.inj H; obtain ⟨RI, RZ, ab4, ac4, abK, PV, RX, abP, adu, adW⟩ := cells5 ik.out; go_wp2
           go_ret
           exact ⟨by rfl, by exact HB.out⟩
          ·rw [if_neg c35] at H; have Vw : decide (8 < (bB.length : Int)) = false := decide_eq_false c35; have UW : decide (8 < bB.length) = false := decide_eq_false (by omega); clear c35; have H' := aa.mk H; clear H; obtain ⟨vD, wm, vT, Ee, Dz, vG, vE, vJ, DK, Dy⟩ := cells5 ik.out; go_wp2; (go_loopg [59] kj23 (fun kq v59 w' => ∃ (gu : Int), v59 = .int .i64 gu ∧ aa (aN.l1 kq bB (bB.length : Int) gu = some r) ∧ aa (kq ≤ kj23) ∧ aa (w'.heap[lm]? = some (.cells #[(.slice eX aZ.length dZ), .int .i64 bz, .int .i64 bS, .int .i64 bW, (.slice eB bB.length dW)] 25 (0, 0))) ∧ aa (Below w.heap.size w w'))); case atStart => exact ⟨(0), (by rfl), H', ⟨Nat.le_refl _⟩, ⟨by (with_reducible skip); exact ik.out⟩, ⟨by exact HB.out⟩⟩
           case round =>
            clear H' c33 NC UY aaz Vw UW vD wm vT Ee Dz vG vE vJ DK Dy; obtain ⟨gu, rfl, HA, HK3, ik, HB⟩ := hrel
            cases gk with
            | zero => exact absurd HA.out (by simp [aN.l1])
            | succ k3 =>
             have H := HA.out; clear HA; simp only [aN.l1] at H; by_cases c38 : gu < (bB.length : Int)
             ·rw [if_pos c38] at H; have U1 : decide (gu < (bB.length : Int)) = true := decide_eq_true c38; clear c38; by_cases c39 : 0 ≤ gu
              ·rw [if_pos c39] at H; have aao : decide (0 ≤ gu) = true := decide_eq_true c39; clear c39; by_cases c40 : gu < (bB.length : Int)
               ·rw [if_pos c40] at H; have ZB : decide (gu < (bB.length : Int)) = true := decide_eq_true c40; clear c40; by_cases c41 : ((fB bB gu).length : Int) > 4
                ·rw [if_pos c41] at H; have UB : decide (4 < ((fB bB gu).length : Int)) = true := decide_eq_true c41; have Vs : decide (4 < (fB bB gu).length) = true := decide_eq_true (by omega); clear c41; obtain rfl := Option.some.inj H; have Gc : 0 ≤ (gu : Int) := of_decide_eq_true (by with_reducible assumption); have Gg : gu < (bB.length : Int) := of_decide_eq_true (by with_reducible assumption); obtain ⟨FJ, A118_0, c118_0, e118, rz, yf, yl⟩ := JB ry.out gu Gc Gg; cases e118; replace rz := (HB.out.cell (World.block_lt_of_cell? w _ rz)).trans rz; have Kv := aa.mk yl; have Sw := aa.mk yf; clear yl yf; replace Gc := eq_true Gc; replace Gg := eq_true Gg; go_wp2
                 go_ret
                 exact ⟨by rfl, by exact HB.out⟩
                ·rw [if_neg c41] at H; have UB : decide (4 < ((fB bB gu).length : Int)) = false := decide_eq_false c41; have Vs : decide (4 < (fB bB gu).length) = false := decide_eq_false (by omega); clear c41; have H' := aa.mk H; clear H; have Gc : 0 ≤ (gu : Int) := of_decide_eq_true (by with_reducible assumption); have Gg : gu < (bB.length : Int) := of_decide_eq_true (by with_reducible assumption); obtain ⟨FJ, A118_0, c118_0, e118, rz, yf, yl⟩ := JB ry.out gu Gc Gg; cases e118; replace rz := (HB.out.cell (World.block_lt_of_cell? w _ rz)).trans rz; have Kv := aa.mk yl; have Sw := aa.mk yf; clear yl yf; replace Gc := eq_true Gc; replace Gg := eq_true Gg; go_wp2; (go_loopg [68] k3 (fun kq v68 w' => ∃ (jG : Int), v68 = .int .i64 jG ∧ aa (aN.l2 kq bB (bB.length : Int) gu (fB bB gu) ((fB bB gu).length : Int) jG = some r) ∧ aa (kq ≤ k3) ∧ aa (w'.heap[lm]? = some (.cells #[(.slice eX aZ.length dZ), .int .i64 bz, .int .i64 bS, .int .i64 bW, (.slice (some FJ) bB.length dW)] 25 (0, 0))) ∧ aa (Below w.heap.size w w'))); case atStart => exact ⟨(0), (by rfl), H', ⟨Nat.le_refl _⟩, ⟨by (with_reducible skip); exact ik.out⟩, ⟨by exact HB.out⟩⟩
                 case round =>
                  clear H' U1 aao ZB UB Vs rz Gc Gg; obtain ⟨jG, rfl, HA, HK4, ik, HB⟩ := hrel
                  cases gk with
                  | zero => exact absurd HA.out (by simp [aN.l2])
                  | succ k4 =>
                   have H := HA.out; clear HA; simp only [aN.l2] at H; by_cases c42 : jG < ((fB bB gu).length : Int)
                   ·rw [if_pos c42] at H; have UZ : decide (jG < ((fB bB gu).length : Int)) = true := decide_eq_true c42; clear c42; by_cases c43 : 0 ≤ jG
                    ·rw [if_pos c43] at H; have aar : decide (0 ≤ jG) = true := decide_eq_true c43; clear c43; by_cases c44 : jG < ((fB bB gu).length : Int)
                     ·rw [if_pos c44] at H; have ZH : decide (jG < ((fB bB gu).length : Int)) = true := decide_eq_true c44; clear c44; replace H := Option.bind_eq_some_iff.mp H; obtain ⟨Ol, Yk, H⟩ := H; have A45 := aa.mk Yk; clear Yk; have Xr := aa.mk H; clear H; have S9 : 0 ≤ (jG : Int) := of_decide_eq_true (by with_reducible assumption); have TR : jG < ((fB bB gu).length : Int) := of_decide_eq_true (by with_reducible assumption); obtain ⟨ahr, e119, Aa, zQ⟩ := DX Kv.out jG S9 TR; cases e119; replace Aa := (HB.out.cell (World.block_lt_of_cell? w _ Aa)).trans Aa; replace zQ := (HB.out.cell (World.block_lt_of_cell? w _ zQ)).trans zQ; replace S9 := eq_true S9; replace TR := eq_true TR; (go_upto_if 72 with (first | ((with_reducible refine dh (N := 9) rfl ?_); refine dA ?hg (N := 9) ?hd (cs := #[.int .i64 0, .int .i64 0]) (t := 27) ?hr ?_; (case hd => rfl); (case hg => rfl); (case hr => (go_simp; done)); intro Fz hg w47 hbox hb; have BF := aa.mk (hbox); have ahN := aa.mk ((by rw [hg]; exact (az (by exact HB.out)) : w.heap.size ≤ Fz)); have Uw := aa.mk ((by rw [hg]; exact (az (by exact HB.out)) : w.heap.size ≤ Fz)); replace HB := aa.mk (aW (by exact HB.out) hb); have ny := aa.mk ((by rw [hg]; exact Nat.ne_of_lt (bF (g := lm) (o := .cells #[.slice eX aZ.length dZ, .int .i64 bz, .int .i64 bS, .int .i64 bW, .slice (some FJ) bB.length dW] 25 (0, 0)) (bU ik.out)) : lm ≠ Fz)); have vM := aa.mk ((by rw [hg]; exact Nat.ne_of_gt (bF (g := lm) (o := .cells #[.slice eX aZ.length dZ, .int .i64 bz, .int .i64 bS, .int .i64 bW, .slice (some FJ) bB.length dW] 25 (0, 0)) (bU ik.out)) : Fz ≠ lm)); replace ik := aa.mk (aG (bU ik.out) hb); clear hb hbox hg; have ag3 := vM.out; have ag5 := ny.out; obtain ⟨Te, Ru, QR, Sl⟩ := ko BF.out) | ((with_reducible refine bT (f := 64) rfl ?_); refine fC (some 75) rfl rfl Try.func64 (by kernel_rfl) rfl #[.int .i64 ((fT (fB bB gu) jG).f0), .int .i64 0, .int .i64 1023] rfl (by (simp only [List.map_toArray, List.map_cons, List.map_nil]); rfl) ?_; (with_reducible refine (eZ.calls ((fT (fB bB gu) jG).f0) 0 1023 Ol _ A45.out).mono ?_); rintro e w' ⟨rfl, ⟨nd, rfl⟩⟩; refine ⟨_, rfl, ?_⟩))); (skip); go_cut [72] (fun v72 wc => ∃ (kq : Nat) (DU : Bool), v72 = .bool DU ∧ aa (aN.j4 kq bB (bB.length : Int) gu (fB bB gu) ((fB bB gu).length : Int) jG DU ((fT (fB bB gu) jG).f0) ((fT (fB bB gu) jG).f1) = some r) ∧ aa (kq ≤ k4) ∧ aa (wc.heap[lm]? = some (.cells #[(.slice eX aZ.length dZ), .int .i64 bz, .int .i64 bS, .int .i64 bW, (.slice (some FJ) bB.length dW)] 25 (0, 0))) ∧ aa (wc.heap[Fz]? = some (.cells #[.int .i64 ((fT (fB bB gu) jG).f0), .int .i64 ((fT (fB bB gu) jG).f1)] 27 (0, 0))) ∧ aa (Below w.heap.size w wc))
                      case first =>
                       have H := Xr.out; clear Xr; by_cases c50 : Ol = true
                       ·subst c50; rw [if_pos rfl] at H; replace H := Option.bind_eq_some_iff.mp H; obtain ⟨QU, Pm, H⟩ := H; have A51 := aa.mk Pm; clear Pm; have H' := aa.mk H; clear H; have agt := vM.out; have ahL := ny.out; obtain ⟨acb, adV, acJ, adB⟩ := ko BF.out; (go_wp2_with (((with_reducible refine bT (f := 64) rfl ?_); refine fC (some 79) rfl rfl Try.func64 (by kernel_rfl) rfl #[.int .i64 ((fT (fB bB gu) jG).f1), .int .i64 0, .int .i64 1023] rfl (by (simp only [List.map_toArray, List.map_cons, List.map_nil]); rfl) ?_; (with_reducible refine (eZ.calls ((fT (fB bB gu) jG).f1) 0 1023 QU _ A51.out).mono ?_); rintro e w' ⟨rfl, ⟨nd, rfl⟩⟩; refine ⟨_, rfl, ?_⟩))); go_meet; case rel => exact ⟨_, (!QU), (by rfl), H', ⟨by have := HK1.out; have := HJ23.out; have := HK3.out; have := HK4.out; omega⟩, ⟨by (with_reducible repeat (refine gU ?_ _)); refine bC ?_ ny.out _; (with_reducible skip); refine bC ?_ ny.out _; (with_reducible skip); exact ik.out⟩, ⟨by (with_reducible repeat (refine gU ?_ _)); refine bR (cs := #[.int .i64 ((fT (fB bB gu) jG).f0), .int .i64 0]) ?_ 1 _ rfl; (with_reducible skip); refine bR (cs := #[.int .i64 0, .int .i64 0]) ?_ 0 _ rfl; (with_reducible skip); exact BF.out⟩, ⟨by repeat ((with_reducible first | exact HB.out | apply cK | refine bV ?_ Uw.out))⟩⟩
                       ·replace c50 := Bool.eq_false_iff.mpr c50; subst c50; rw [if_neg (show ¬ (false = true) by decide)] at H; have H' := aa.mk H; clear H; go_wp2; go_meet; case rel => exact ⟨_, (!false), (by rfl), H', ⟨by have := HK1.out; have := HJ23.out; have := HK3.out; have := HK4.out; omega⟩, ⟨by (with_reducible repeat (refine gU ?_ _)); refine bC ?_ ny.out _; (with_reducible skip); refine bC ?_ ny.out _; (with_reducible skip); exact ik.out⟩, ⟨by (with_reducible repeat (refine gU ?_ _)); refine bR (cs := #[.int .i64 ((fT (fB bB gu) jG).f0), .int .i64 0]) ?_ 1 _ rfl; (with_reducible skip); refine bR (cs := #[.int .i64 0, .int .i64 0]) ?_ 0 _ rfl; (with_reducible skip); exact BF.out⟩, ⟨by repeat ((with_reducible first | exact HB.out | apply cK | refine bV ?_ Uw.out))⟩⟩
                      case rest =>
                       clear Xr UZ aar ZH Te Ru QR Sl Aa zQ S9 TR; obtain ⟨kq, DU, rfl, HA, HJ45, ik, BF, HB⟩ := hcut
                       cases kq with
                       | zero => exact absurd HA.out (by simp [aN.j4])
                       | succ kj45 =>
                        have H := HA.out; clear HA; simp only [aN.j4] at H; by_cases c54 : DU = true
                        ·subst c54; rw [if_pos rfl] at H; obtain rfl := Option.some.inj H; go_wp2
                         go_ret
                         exact ⟨by rfl, by exact HB.out⟩
                        ·replace c54 := Bool.eq_false_iff.mpr c54; subst c54; rw [if_neg (show ¬ (false = true) by decide)] at H; replace H := Option.bind_eq_some_iff.mp H; obtain ⟨Dx, PD, H⟩ := H; have A55 := aa.mk PD; clear PD; by_cases c56 : Dx = 0
                         ·rw [if_pos c56] at H; have Z4 : (Dx == 0) = true := beq_iff_eq.mpr c56; have Zw : (Dx != 0) = false := bne_eq_false_iff_eq.mpr c56; clear c56; have H' := aa.mk H; clear H; have agH := vM.out; have ahy := ny.out; obtain ⟨ad8, adj, adG, ade⟩ := ko BF.out; (go_wp2_with (((with_reducible refine bT (f := 65) rfl ?_); refine fC (some 86) rfl rfl Try.func65 (by kernel_rfl) rfl #[.int .i64 ((fT (fB bB gu) jG).f1), .int .i64 ((fT (fB bB gu) jG).f0)] rfl (by (simp only [List.map_toArray, List.map_cons, List.map_nil]); rfl) ?_; (with_reducible refine (fH.calls ((fT (fB bB gu) jG).f1) ((fT (fB bB gu) jG).f0) Dx _ A55.out).mono ?_); rintro e w' ⟨rfl, ⟨nd, rfl⟩⟩; refine ⟨_, rfl, ?_⟩))); go_roundg kj45; (case measure => have := HK1.out; have := HJ23.out; have := HK3.out; have := HK4.out; have := HJ45.out; omega); case rel => exact ⟨(wrap64 (jG + 1)), (by rfl), H', ⟨by have := HK1.out; have := HJ23.out; have := HK3.out; have := HK4.out; have := HJ45.out; omega⟩, ⟨by (with_reducible repeat (refine gU ?_ _)); exact ik.out⟩, ⟨by exact lU HB.out⟩⟩
                         ·rw [if_neg c56] at H; have Z4 : (Dx == 0) = false := beq_eq_false_iff_ne.mpr c56; have Zw : (Dx != 0) = true := bne_iff_ne.mpr c56; obtain rfl := Option.some.inj H; have PM := vM.out; have Pw := ny.out; obtain ⟨adp, aed, acp, ab0⟩ := ko BF.out; go_wp2_with (((with_reducible refine bT (f := 65) rfl ?_); refine fC (some 86) rfl rfl Try.func65 (by kernel_rfl) rfl #[.int .i64 ((fT (fB bB gu) jG).f1), .int .i64 ((fT (fB bB gu) jG).f0)] rfl (by (simp only [List.map_toArray, List.map_cons, List.map_nil]); rfl) ?_; (with_reducible refine (fH.calls ((fT (fB bB gu) jG).f1) ((fT (fB bB gu) jG).f0) Dx _ A55.out).mono ?_); rintro e w' ⟨rfl, ⟨nd, rfl⟩⟩; refine ⟨_, rfl, ?_⟩))
                          go_ret
                          exact ⟨by rfl, by exact lU HB.out⟩
                     ·rw [if_neg c44] at H; exact absurd H (by simp)
                    ·rw [if_neg c43] at H; exact absurd H (by simp)
                   ·rw [if_neg c42] at H; have UZ : decide (jG < ((fB bB gu).length : Int)) = false := decide_eq_false c42; clear c42; have H' := aa.mk H; clear H; go_wp2; go_roundg k4; (case measure => have := HK1.out; have := HJ23.out; have := HK3.out; have := HK4.out; omega); case rel => exact ⟨(wrap64 (gu + 1)), (by rfl), H', ⟨by have := HK1.out; have := HJ23.out; have := HK3.out; have := HK4.out; omega⟩, ⟨by (with_reducible skip); exact ik.out⟩, ⟨by exact HB.out⟩⟩
               ·rw [if_neg c40] at H; exact absurd H (by simp)
              ·rw [if_neg c39] at H; exact absurd H (by simp)
             ·rw [if_neg c38] at H; have U1 : decide (gu < (bB.length : Int)) = false := decide_eq_false c38; clear c38; obtain rfl := Option.some.inj H; go_wp2
              go_ret
              exact ⟨by rfl, by exact HB.out⟩
mutual
def dz.l0 : Nat → List (S27) → Int → Int → Bool → List (S27) → Int → Int → Option (Int × Int × Bool)
 | 0, _, _, _, _, _, _, _ => none
 | k + 1, x0, x2, x3, x4, x9, x10, x11 => if x11 < x10 then (if 0 ≤ x11 then (if x11 < (x9.length : Int) then (dz.l0 k x0 (Go.bits .or .i64 x2 ((fT x9 x11).f0)) (Go.bits .or .i64 x3 ((fT x9 x11).f1)) x4 x9 x10 (wrap64 (x11 + 1))) else (none)) else (none)) else (dz.l1 k x2 x3 x4 x0 (x0.length : Int) 0)
def dz.l1 : Nat → Int → Int → Bool → List (S27) → Int → Int → Option (Int × Int × Bool)
 | 0, _, _, _, _, _, _ => none
 | k + 1, x2, x3, x4, x24, x25, x26 => if x26 < x25 then (if 0 ≤ x26 then (if x26 < (x24.length : Int) then (if x4 = true then (dz.l1 k x2 x3 ((Go.bits .and .i64 x3 ((fT x24 x26).f0)) == ((fT x24 x26).f1)) x24 x25 (wrap64 (x26 + 1))) else (dz.l1 k x2 x3 false x24 x25 (wrap64 (x26 + 1)))) else (none)) else (none)) else (some (x2, x3, x4))
end
def dz.f (k : Nat) (l0 : List (S27)) : Option (Int × Int × Bool) := dz.l0 k l0 0 0 true l0 (l0.length : Int) 0
theorem dz.fO : ∀ k, (∀ y0 y1 y2 y3 y4 y5 y6, LeO (dz.l0 k y0 y1 y2 y3 y4 y5 y6) (dz.l0 (k + 1) y0 y1 y2 y3 y4 y5 y6)) ∧ (∀ y0 y1 y2 y3 y4 y5, LeO (dz.l1 k y0 y1 y2 y3 y4 y5) (dz.l1 (k + 1) y0 y1 y2 y3 y4 y5))
 | 0 => ⟨fun _ _ _ _ _ _ _ r h => by simp [dz.l0] at h, fun _ _ _ _ _ _ r h => by simp [dz.l1] at h⟩
 | k + 1 => by
  obtain ⟨ih0, ih1⟩ := dz.fO k; refine ⟨?_, ?_⟩
  ·intro y0 y1 y2 y3 y4 y5 y6; unfold dz.l0
   repeat' first | (with_reducible exact ih0 _ _ _ _ _ _ _) | (with_reducible exact ih1 _ _ _ _ _ _) | (with_reducible exact LeO.refl _) | (with_reducible refine LeO.ite ?_ ?_)
  ·intro y0 y1 y2 y3 y4 y5; unfold dz.l1
   repeat' first | (with_reducible exact ih1 _ _ _ _ _ _) | (with_reducible exact LeO.refl _) | (with_reducible refine LeO.ite ?_ ?_)
theorem dz.mono : ∀ a0 k, LeO (dz.f k a0) (dz.f (k + 1) a0) := by
 intro a0 k; obtain ⟨ih0, ih1⟩ := dz.fO k; unfold dz.f
 repeat' (with_reducible exact ih0 _ _ _ _ _ _ _)
set_option maxHeartbeats 8000000 in
set_option maxRecDepth 100000 in
theorem dz.calls (k : Nat) (A0 : Option Addr) (c0 : Nat) (l0 : List (S27)) (r1 : Int) (r2 : Int) (r3 : Bool) (w : World) (hr0 : Kd.C k27 w A0 l0.length l0) (hc0 : l0.length ≤ c0) (h : dz.f k l0 = some (r1, r2, r3)) :
 Calls Try.prog 82 #[.slice A0 l0.length c0] w fun e w' => e = .returned (.tuple #[.int .i64 r1, .int .i64 r2, .bool r3]) ∧ Below w.heap.size w w' := by
 have hu27 := Try.underlying27; have HR0 := aa.mk hr0; have HC0 := aa.mk hc0; clear hr0 hc0; have HB := aa.mk (Below.refl w.heap.size w); have H : (dz.l0 k l0 0 0 true l0 (l0.length : Int) 0) = some (r1, r2, r3) := h; clear h; have H' := aa.mk H; clear H; go_enter Try.func82, Try.ntmps82; go_wp2; (go_loopg [2, 3, 11] k (fun kq v2 v3 v11 w' => ∃ (LV : Int) (Kz : Int) (kz : Int), v2 = .int .i64 LV ∧ v3 = .int .i64 Kz ∧ v11 = .int .i64 kz ∧ aa (dz.l0 kq l0 LV Kz true l0 (l0.length : Int) kz = some (r1, r2, r3)) ∧ aa (kq ≤ k) ∧ aa (Below w.heap.size w w'))); case atStart => exact ⟨(0), (0), (0), (by rfl), (by rfl), (by rfl), H', ⟨Nat.le_refl _⟩, ⟨by exact HB.out⟩⟩
 case round =>
  clear H'; obtain ⟨LV, Kz, kz, rfl, rfl, rfl, HA, HK1, HB⟩ := hrel
  cases gk with
  | zero => exact absurd HA.out (by simp [dz.l0])
  | succ k1 =>
   have H := HA.out; clear HA; simp only [dz.l0] at H; by_cases c2 : kz < (l0.length : Int)
   ·rw [if_pos c2] at H; have GJ : decide (kz < (l0.length : Int)) = true := decide_eq_true c2; clear c2; by_cases c3 : 0 ≤ kz
    ·rw [if_pos c3] at H; have rX : decide (0 ≤ kz) = true := decide_eq_true c3; clear c3; by_cases c4 : kz < (l0.length : Int)
     ·rw [if_pos c4] at H; have zI : decide (kz < (l0.length : Int)) = true := decide_eq_true c4; clear c4; have H' := aa.mk H; clear H; have Mc : 0 ≤ (kz : Int) := of_decide_eq_true (by with_reducible assumption); have NH : kz < (l0.length : Int) := of_decide_eq_true (by with_reducible assumption); obtain ⟨aeD, e1166, Bh, Ca⟩ := DX HR0.out kz Mc NH; cases e1166; replace Bh := (HB.out.cell (World.block_lt_of_cell? w _ Bh)).trans Bh; replace Ca := (HB.out.cell (World.block_lt_of_cell? w _ Ca)).trans Ca; replace Mc := eq_true Mc; replace NH := eq_true NH; (go_wp2_with (((with_reducible refine dh (N := 6) rfl ?_); refine dA ?hg (N := 6) ?hd (cs := #[.int .i64 0, .int .i64 0]) (t := 27) ?hr ?_; (case hd => rfl); (case hg => rfl); (case hr => (go_simp; done)); intro uQ hg w5 hbox hb; have A8 := aa.mk (hbox); have Pz := aa.mk ((by rw [hg]; exact (az (by exact HB.out)) : w.heap.size ≤ uQ)); have Hg := aa.mk ((by rw [hg]; exact (az (by exact HB.out)) : w.heap.size ≤ uQ)); replace HB := aa.mk (aW (by exact HB.out) hb); clear hb hbox hg; obtain ⟨yz, yF, yL, yG⟩ := ko A8.out))); (repeat (go_quiet (first | ((with_reducible refine dh (N := 6) rfl ?_); refine dA ?hg (N := 6) ?hd (cs := #[.int .i64 0, .int .i64 0]) (t := 27) ?hr ?_; (case hd => rfl); (case hg => rfl); (case hr => first | (go_simp; done) | (go_simp; rfl)); intro uQ hg w5 hbox hb; have A8 := aa.mk (hbox); have Pz := aa.mk ((by rw [hg]; exact (az (by repeat (first | (with_reducible first | exact HB.out | apply aV | apply cK | apply dD) | exact HB.out))) : w.heap.size ≤ uQ)); have Hg := aa.mk ((by rw [hg]; exact (az (by repeat (first | (with_reducible first | exact HB.out | apply aV | apply cK | apply dD) | exact HB.out))) : w.heap.size ≤ uQ)); replace HB := aa.mk (aW (by repeat (first | (with_reducible first | exact HB.out | apply aV | apply cK | apply dD) | exact HB.out)) hb); clear hb hbox hg; obtain ⟨yz, yF, yL, yG⟩ := ko A8.out)); go_wp2_with (first | ((with_reducible refine dh (N := 6) rfl ?_); refine dA ?hg (N := 6) ?hd (cs := #[.int .i64 0, .int .i64 0]) (t := 27) ?hr ?_; (case hd => rfl); (case hg => rfl); (case hr => first | (go_simp; done) | (go_simp; rfl)); intro uQ hg w5 hbox hb; have A8 := aa.mk (hbox); have Pz := aa.mk ((by rw [hg]; exact (az (by repeat (first | (with_reducible first | exact HB.out | apply aV | apply cK | apply dD) | exact HB.out))) : w.heap.size ≤ uQ)); have Hg := aa.mk ((by rw [hg]; exact (az (by repeat (first | (with_reducible first | exact HB.out | apply aV | apply cK | apply dD) | exact HB.out))) : w.heap.size ≤ uQ)); replace HB := aa.mk (aW (by repeat (first | (with_reducible first | exact HB.out | apply aV | apply cK | apply dD) | exact HB.out)) hb); clear hb hbox hg; obtain ⟨yz, yF, yL, yG⟩ := ko A8.out)))); go_roundg k1; (case measure => have := HK1.out; omega); case rel => exact ⟨(Go.bits .or .i64 LV ((fT l0 kz).f0)), (Go.bits .or .i64 Kz ((fT l0 kz).f1)), (wrap64 (kz + 1)), (by rfl), (by rfl), (by rfl), H', ⟨by have := HK1.out; omega⟩, ⟨by repeat ((with_reducible first | exact HB.out | apply cK | refine bV ?_ Hg.out))⟩⟩
     ·rw [if_neg c4] at H; exact absurd H (by simp)
    ·rw [if_neg c3] at H; exact absurd H (by simp)
   ·rw [if_neg c2] at H; have GJ : decide (kz < (l0.length : Int)) = false := decide_eq_false c2; clear c2; have H' := aa.mk H; clear H; go_wp2; (go_loopg [4, 26] k1 (fun kq v4 v26 w' => ∃ (Ue : Bool) (nI : Int), v4 = .bool Ue ∧ v26 = .int .i64 nI ∧ aa (dz.l1 kq LV Kz Ue l0 (l0.length : Int) nI = some (r1, r2, r3)) ∧ aa (kq ≤ k1) ∧ aa (Below w.heap.size w w'))); case atStart => exact ⟨(true), (0), (by rfl), (by rfl), H', ⟨Nat.le_refl _⟩, ⟨by exact HB.out⟩⟩
    case round =>
     clear H' GJ; obtain ⟨Ue, nI, rfl, rfl, HA, HK2, HB⟩ := hrel
     cases gk with
     | zero => exact absurd HA.out (by simp [dz.l1])
     | succ k2 =>
      have H := HA.out; clear HA; simp only [dz.l1] at H; by_cases c7 : nI < (l0.length : Int)
      ·rw [if_pos c7] at H; have Lr : decide (nI < (l0.length : Int)) = true := decide_eq_true c7; clear c7; by_cases c8 : 0 ≤ nI
       ·rw [if_pos c8] at H; have Iu : decide (0 ≤ nI) = true := decide_eq_true c8; clear c8; by_cases c9 : nI < (l0.length : Int)
        ·rw [if_pos c9] at H; have WQ : decide (nI < (l0.length : Int)) = true := decide_eq_true c9; clear c9; by_cases c10 : Ue = true
         ·subst c10; rw [if_pos rfl] at H; have H' := aa.mk H; clear H; have BB : 0 ≤ (nI : Int) := of_decide_eq_true (by with_reducible assumption); have Ay : nI < (l0.length : Int) := of_decide_eq_true (by with_reducible assumption); obtain ⟨Xv, e1168, qP, qK⟩ := DX HR0.out nI BB Ay; cases e1168; replace qP := (HB.out.cell (World.block_lt_of_cell? w _ qP)).trans qP; replace qK := (HB.out.cell (World.block_lt_of_cell? w _ qK)).trans qK; replace BB := eq_true BB; replace Ay := eq_true Ay; (go_wp2_with (((with_reducible refine dh (N := 8) rfl ?_); refine dA ?hg (N := 8) ?hd (cs := #[.int .i64 0, .int .i64 0]) (t := 27) ?hr ?_; (case hd => rfl); (case hg => rfl); (case hr => (go_simp; done)); intro BH hg w11 hbox hb; have II := aa.mk (hbox); have XN := aa.mk ((by rw [hg]; exact (az (by exact HB.out)) : w.heap.size ≤ BH)); have Gz := aa.mk ((by rw [hg]; exact (az (by exact HB.out)) : w.heap.size ≤ BH)); replace HB := aa.mk (aW (by exact HB.out) hb); clear hb hbox hg; obtain ⟨Af, zP, zT, zY⟩ := ko II.out))); go_roundg k2; (case measure => have := HK1.out; have := HK2.out; omega); case rel => exact ⟨(((Go.bits .and .i64 Kz ((fT l0 nI).f0)) == ((fT l0 nI).f1))), (wrap64 (nI + 1)), (by rfl), (by rfl), H', ⟨by have := HK1.out; have := HK2.out; omega⟩, ⟨by repeat ((with_reducible first | exact HB.out | refine bV ?_ Gz.out))⟩⟩
         ·replace c10 := Bool.eq_false_iff.mpr c10; subst c10; rw [if_neg (show ¬ (false = true) by decide)] at H; have H' := aa.mk H; clear H; have BB : 0 ≤ (nI : Int) := of_decide_eq_true (by with_reducible assumption); have Ay : nI < (l0.length : Int) := of_decide_eq_true (by with_reducible assumption); obtain ⟨Xv, e1168, qP, qK⟩ := DX HR0.out nI BB Ay; cases e1168; replace qP := (HB.out.cell (World.block_lt_of_cell? w _ qP)).trans qP; replace qK := (HB.out.cell (World.block_lt_of_cell? w _ qK)).trans qK; replace BB := eq_true BB; replace Ay := eq_true Ay; (go_wp2_with (((with_reducible refine dh (N := 8) rfl ?_); refine dA ?hg (N := 8) ?hd (cs := #[.int .i64 0, .int .i64 0]) (t := 27) ?hr ?_; (case hd => rfl); (case hg => rfl); (case hr => (go_simp; done)); intro BH hg w13 hbox hb; have II := aa.mk (hbox); have XN := aa.mk ((by rw [hg]; exact (az (by exact HB.out)) : w.heap.size ≤ BH)); have Gz := aa.mk ((by rw [hg]; exact (az (by exact HB.out)) : w.heap.size ≤ BH)); replace HB := aa.mk (aW (by exact HB.out) hb); clear hb hbox hg; obtain ⟨RA, QY, QK, TD⟩ := ko II.out))); go_roundg k2; (case measure => have := HK1.out; have := HK2.out; omega); case rel => exact ⟨(false), (wrap64 (nI + 1)), (by rfl), (by rfl), H', ⟨by have := HK1.out; have := HK2.out; omega⟩, ⟨by repeat ((with_reducible first | exact HB.out | refine bV ?_ Gz.out))⟩⟩
        ·rw [if_neg c9] at H; exact absurd H (by simp)
       ·rw [if_neg c8] at H; exact absurd H (by simp)
      ·rw [if_neg c7] at H; have Lr : decide (nI < (l0.length : Int)) = false := decide_eq_false c7; clear c7; simp only [Option.some.injEq, Prod.mk.injEq] at H; obtain ⟨rfl, rfl, rfl⟩ := H; go_wp2
       go_ret3
       exact ⟨by rfl, by exact HB.out⟩
def jU.f (a0 : Int) : Option (Int) := some (Go.bits .and .i64 (wrap64 (IntKind.u64.wrap ((IntKind.u64.wrap ((IntKind.u64.wrap ((Go.bits .and .u64 (IntKind.u64.wrap (((IntKind.u64.wrap ((Go.bits .and .u64 ((IntKind.u64.wrap ((Go.bits .and .u64 (a0 / 2) 6148914691236517205) + (Go.bits .and .u64 a0 6148914691236517205))) / 4) 3689348814741910323) + (Go.bits .and .u64 (IntKind.u64.wrap ((Go.bits .and .u64 (a0 / 2) 6148914691236517205) + (Go.bits .and .u64 a0 6148914691236517205))) 3689348814741910323))) / 16) + (IntKind.u64.wrap ((Go.bits .and .u64 ((IntKind.u64.wrap ((Go.bits .and .u64 (a0 / 2) 6148914691236517205) + (Go.bits .and .u64 a0 6148914691236517205))) / 4) 3689348814741910323) + (Go.bits .and .u64 (IntKind.u64.wrap ((Go.bits .and .u64 (a0 / 2) 6148914691236517205) + (Go.bits .and .u64 a0 6148914691236517205))) 3689348814741910323))))) 1085102592571150095) + ((Go.bits .and .u64 (IntKind.u64.wrap (((IntKind.u64.wrap ((Go.bits .and .u64 ((IntKind.u64.wrap ((Go.bits .and .u64 (a0 / 2) 6148914691236517205) + (Go.bits .and .u64 a0 6148914691236517205))) / 4) 3689348814741910323) + (Go.bits .and .u64 (IntKind.u64.wrap ((Go.bits .and .u64 (a0 / 2) 6148914691236517205) + (Go.bits .and .u64 a0 6148914691236517205))) 3689348814741910323))) / 16) + (IntKind.u64.wrap ((Go.bits .and .u64 ((IntKind.u64.wrap ((Go.bits .and .u64 (a0 / 2) 6148914691236517205) + (Go.bits .and .u64 a0 6148914691236517205))) / 4) 3689348814741910323) + (Go.bits .and .u64 (IntKind.u64.wrap ((Go.bits .and .u64 (a0 / 2) 6148914691236517205) + (Go.bits .and .u64 a0 6148914691236517205))) 3689348814741910323))))) 1085102592571150095) / 256))) + ((IntKind.u64.wrap ((Go.bits .and .u64 (IntKind.u64.wrap (((IntKind.u64.wrap ((Go.bits .and .u64 ((IntKind.u64.wrap ((Go.bits .and .u64 (a0 / 2) 6148914691236517205) + (Go.bits .and .u64 a0 6148914691236517205))) / 4) 3689348814741910323) + (Go.bits .and .u64 (IntKind.u64.wrap ((Go.bits .and .u64 (a0 / 2) 6148914691236517205) + (Go.bits .and .u64 a0 6148914691236517205))) 3689348814741910323))) / 16) + (IntKind.u64.wrap ((Go.bits .and .u64 ((IntKind.u64.wrap ((Go.bits .and .u64 (a0 / 2) 6148914691236517205) + (Go.bits .and .u64 a0 6148914691236517205))) / 4) 3689348814741910323) + (Go.bits .and .u64 (IntKind.u64.wrap ((Go.bits .and .u64 (a0 / 2) 6148914691236517205) + (Go.bits .and .u64 a0 6148914691236517205))) 3689348814741910323))))) 1085102592571150095) + ((Go.bits .and .u64 (IntKind.u64.wrap (((IntKind.u64.wrap ((Go.bits .and .u64 ((IntKind.u64.wrap ((Go.bits .and .u64 (a0 / 2) 6148914691236517205) + (Go.bits .and .u64 a0 6148914691236517205))) / 4) 3689348814741910323) + (Go.bits .and .u64 (IntKind.u64.wrap ((Go.bits .and .u64 (a0 / 2) 6148914691236517205) + (Go.bits .and .u64 a0 6148914691236517205))) 3689348814741910323))) / 16) + (IntKind.u64.wrap ((Go.bits .and .u64 ((IntKind.u64.wrap ((Go.bits .and .u64 (a0 / 2) 6148914691236517205) + (Go.bits .and .u64 a0 6148914691236517205))) / 4) 3689348814741910323) + (Go.bits .and .u64 (IntKind.u64.wrap ((Go.bits .and .u64 (a0 / 2) 6148914691236517205) + (Go.bits .and .u64 a0 6148914691236517205))) 3689348814741910323))))) 1085102592571150095) / 256))) / 65536))) + ((IntKind.u64.wrap ((IntKind.u64.wrap ((Go.bits .and .u64 (IntKind.u64.wrap (((IntKind.u64.wrap ((Go.bits .and .u64 ((IntKind.u64.wrap ((Go.bits .and .u64 (a0 / 2) 6148914691236517205) + (Go.bits .and .u64 a0 6148914691236517205))) / 4) 3689348814741910323) + (Go.bits .and .u64 (IntKind.u64.wrap ((Go.bits .and .u64 (a0 / 2) 6148914691236517205) + (Go.bits .and .u64 a0 6148914691236517205))) 3689348814741910323))) / 16) + (IntKind.u64.wrap ((Go.bits .and .u64 ((IntKind.u64.wrap ((Go.bits .and .u64 (a0 / 2) 6148914691236517205) + (Go.bits .and .u64 a0 6148914691236517205))) / 4) 3689348814741910323) + (Go.bits .and .u64 (IntKind.u64.wrap ((Go.bits .and .u64 (a0 / 2) 6148914691236517205) + (Go.bits .and .u64 a0 6148914691236517205))) 3689348814741910323))))) 1085102592571150095) + ((Go.bits .and .u64 (IntKind.u64.wrap (((IntKind.u64.wrap ((Go.bits .and .u64 ((IntKind.u64.wrap ((Go.bits .and .u64 (a0 / 2) 6148914691236517205) + (Go.bits .and .u64 a0 6148914691236517205))) / 4) 3689348814741910323) + (Go.bits .and .u64 (IntKind.u64.wrap ((Go.bits .and .u64 (a0 / 2) 6148914691236517205) + (Go.bits .and .u64 a0 6148914691236517205))) 3689348814741910323))) / 16) + (IntKind.u64.wrap ((Go.bits .and .u64 ((IntKind.u64.wrap ((Go.bits .and .u64 (a0 / 2) 6148914691236517205) + (Go.bits .and .u64 a0 6148914691236517205))) / 4) 3689348814741910323) + (Go.bits .and .u64 (IntKind.u64.wrap ((Go.bits .and .u64 (a0 / 2) 6148914691236517205) + (Go.bits .and .u64 a0 6148914691236517205))) 3689348814741910323))))) 1085102592571150095) / 256))) + ((IntKind.u64.wrap ((Go.bits .and .u64 (IntKind.u64.wrap (((IntKind.u64.wrap ((Go.bits .and .u64 ((IntKind.u64.wrap ((Go.bits .and .u64 (a0 / 2) 6148914691236517205) + (Go.bits .and .u64 a0 6148914691236517205))) / 4) 3689348814741910323) + (Go.bits .and .u64 (IntKind.u64.wrap ((Go.bits .and .u64 (a0 / 2) 6148914691236517205) + (Go.bits .and .u64 a0 6148914691236517205))) 3689348814741910323))) / 16) + (IntKind.u64.wrap ((Go.bits .and .u64 ((IntKind.u64.wrap ((Go.bits .and .u64 (a0 / 2) 6148914691236517205) + (Go.bits .and .u64 a0 6148914691236517205))) / 4) 3689348814741910323) + (Go.bits .and .u64 (IntKind.u64.wrap ((Go.bits .and .u64 (a0 / 2) 6148914691236517205) + (Go.bits .and .u64 a0 6148914691236517205))) 3689348814741910323))))) 1085102592571150095) + ((Go.bits .and .u64 (IntKind.u64.wrap (((IntKind.u64.wrap ((Go.bits .and .u64 ((IntKind.u64.wrap ((Go.bits .and .u64 (a0 / 2) 6148914691236517205) + (Go.bits .and .u64 a0 6148914691236517205))) / 4) 3689348814741910323) + (Go.bits .and .u64 (IntKind.u64.wrap ((Go.bits .and .u64 (a0 / 2) 6148914691236517205) + (Go.bits .and .u64 a0 6148914691236517205))) 3689348814741910323))) / 16) + (IntKind.u64.wrap ((Go.bits .and .u64 ((IntKind.u64.wrap ((Go.bits .and .u64 (a0 / 2) 6148914691236517205) + (Go.bits .and .u64 a0 6148914691236517205))) / 4) 3689348814741910323) + (Go.bits .and .u64 (IntKind.u64.wrap ((Go.bits .and .u64 (a0 / 2) 6148914691236517205) + (Go.bits .and .u64 a0 6148914691236517205))) 3689348814741910323))))) 1085102592571150095) / 256))) / 65536))) / 4294967296)))) 127)
set_option maxHeartbeats 8000000 in
set_option maxRecDepth 100000 in
theorem jU.calls (a0 : Int) (r : Int) (w : World) (h : jU.f a0 = some r) :
 Calls Try.prog 100 #[.int .u64 a0] w fun e w' => e = .returned (.int .i64 r) ∧ dB w w' := by
 have H : (some (Go.bits .and .i64 (wrap64 (IntKind.u64.wrap ((IntKind.u64.wrap ((IntKind.u64.wrap ((Go.bits .and .u64 (IntKind.u64.wrap (((IntKind.u64.wrap ((Go.bits .and .u64 ((IntKind.u64.wrap ((Go.bits .and .u64 (a0 / 2) 6148914691236517205) + (Go.bits .and .u64 a0 6148914691236517205))) / 4) 3689348814741910323) + (Go.bits .and .u64 (IntKind.u64.wrap ((Go.bits .and .u64 (a0 / 2) 6148914691236517205) + (Go.bits .and .u64 a0 6148914691236517205))) 3689348814741910323))) / 16) + (IntKind.u64.wrap ((Go.bits .and .u64 ((IntKind.u64.wrap ((Go.bits .and .u64 (a0 / 2) 6148914691236517205) + (Go.bits .and .u64 a0 6148914691236517205))) / 4) 3689348814741910323) + (Go.bits .and .u64 (IntKind.u64.wrap ((Go.bits .and .u64 (a0 / 2) 6148914691236517205) + (Go.bits .and .u64 a0 6148914691236517205))) 3689348814741910323))))) 1085102592571150095) + ((Go.bits .and .u64 (IntKind.u64.wrap (((IntKind.u64.wrap ((Go.bits .and .u64 ((IntKind.u64.wrap ((Go.bits .and .u64 (a0 / 2) 6148914691236517205) + (Go.bits .and .u64 a0 6148914691236517205))) / 4) 3689348814741910323) + (Go.bits .and .u64 (IntKind.u64.wrap ((Go.bits .and .u64 (a0 / 2) 6148914691236517205) + (Go.bits .and .u64 a0 6148914691236517205))) 3689348814741910323))) / 16) + (IntKind.u64.wrap ((Go.bits .and .u64 ((IntKind.u64.wrap ((Go.bits .and .u64 (a0 / 2) 6148914691236517205) + (Go.bits .and .u64 a0 6148914691236517205))) / 4) 3689348814741910323) + (Go.bits .and .u64 (IntKind.u64.wrap ((Go.bits .and .u64 (a0 / 2) 6148914691236517205) + (Go.bits .and .u64 a0 6148914691236517205))) 3689348814741910323))))) 1085102592571150095) / 256))) + ((IntKind.u64.wrap ((Go.bits .and .u64 (IntKind.u64.wrap (((IntKind.u64.wrap ((Go.bits .and .u64 ((IntKind.u64.wrap ((Go.bits .and .u64 (a0 / 2) 6148914691236517205) + (Go.bits .and .u64 a0 6148914691236517205))) / 4) 3689348814741910323) + (Go.bits .and .u64 (IntKind.u64.wrap ((Go.bits .and .u64 (a0 / 2) 6148914691236517205) + (Go.bits .and .u64 a0 6148914691236517205))) 3689348814741910323))) / 16) + (IntKind.u64.wrap ((Go.bits .and .u64 ((IntKind.u64.wrap ((Go.bits .and .u64 (a0 / 2) 6148914691236517205) + (Go.bits .and .u64 a0 6148914691236517205))) / 4) 3689348814741910323) + (Go.bits .and .u64 (IntKind.u64.wrap ((Go.bits .and .u64 (a0 / 2) 6148914691236517205) + (Go.bits .and .u64 a0 6148914691236517205))) 3689348814741910323))))) 1085102592571150095) + ((Go.bits .and .u64 (IntKind.u64.wrap (((IntKind.u64.wrap ((Go.bits .and .u64 ((IntKind.u64.wrap ((Go.bits .and .u64 (a0 / 2) 6148914691236517205) + (Go.bits .and .u64 a0 6148914691236517205))) / 4) 3689348814741910323) + (Go.bits .and .u64 (IntKind.u64.wrap ((Go.bits .and .u64 (a0 / 2) 6148914691236517205) + (Go.bits .and .u64 a0 6148914691236517205))) 3689348814741910323))) / 16) + (IntKind.u64.wrap ((Go.bits .and .u64 ((IntKind.u64.wrap ((Go.bits .and .u64 (a0 / 2) 6148914691236517205) + (Go.bits .and .u64 a0 6148914691236517205))) / 4) 3689348814741910323) + (Go.bits .and .u64 (IntKind.u64.wrap ((Go.bits .and .u64 (a0 / 2) 6148914691236517205) + (Go.bits .and .u64 a0 6148914691236517205))) 3689348814741910323))))) 1085102592571150095) / 256))) / 65536))) + ((IntKind.u64.wrap ((IntKind.u64.wrap ((Go.bits .and .u64 (IntKind.u64.wrap (((IntKind.u64.wrap ((Go.bits .and .u64 ((IntKind.u64.wrap ((Go.bits .and .u64 (a0 / 2) 6148914691236517205) + (Go.bits .and .u64 a0 6148914691236517205))) / 4) 3689348814741910323) + (Go.bits .and .u64 (IntKind.u64.wrap ((Go.bits .and .u64 (a0 / 2) 6148914691236517205) + (Go.bits .and .u64 a0 6148914691236517205))) 3689348814741910323))) / 16) + (IntKind.u64.wrap ((Go.bits .and .u64 ((IntKind.u64.wrap ((Go.bits .and .u64 (a0 / 2) 6148914691236517205) + (Go.bits .and .u64 a0 6148914691236517205))) / 4) 3689348814741910323) + (Go.bits .and .u64 (IntKind.u64.wrap ((Go.bits .and .u64 (a0 / 2) 6148914691236517205) + (Go.bits .and .u64 a0 6148914691236517205))) 3689348814741910323))))) 1085102592571150095) + ((Go.bits .and .u64 (IntKind.u64.wrap (((IntKind.u64.wrap ((Go.bits .and .u64 ((IntKind.u64.wrap ((Go.bits .and .u64 (a0 / 2) 6148914691236517205) + (Go.bits .and .u64 a0 6148914691236517205))) / 4) 3689348814741910323) + (Go.bits .and .u64 (IntKind.u64.wrap ((Go.bits .and .u64 (a0 / 2) 6148914691236517205) + (Go.bits .and .u64 a0 6148914691236517205))) 3689348814741910323))) / 16) + (IntKind.u64.wrap ((Go.bits .and .u64 ((IntKind.u64.wrap ((Go.bits .and .u64 (a0 / 2) 6148914691236517205) + (Go.bits .and .u64 a0 6148914691236517205))) / 4) 3689348814741910323) + (Go.bits .and .u64 (IntKind.u64.wrap ((Go.bits .and .u64 (a0 / 2) 6148914691236517205) + (Go.bits .and .u64 a0 6148914691236517205))) 3689348814741910323))))) 1085102592571150095) / 256))) + ((IntKind.u64.wrap ((Go.bits .and .u64 (IntKind.u64.wrap (((IntKind.u64.wrap ((Go.bits .and .u64 ((IntKind.u64.wrap ((Go.bits .and .u64 (a0 / 2) 6148914691236517205) + (Go.bits .and .u64 a0 6148914691236517205))) / 4) 3689348814741910323) + (Go.bits .and .u64 (IntKind.u64.wrap ((Go.bits .and .u64 (a0 / 2) 6148914691236517205) + (Go.bits .and .u64 a0 6148914691236517205))) 3689348814741910323))) / 16) + (IntKind.u64.wrap ((Go.bits .and .u64 ((IntKind.u64.wrap ((Go.bits .and .u64 (a0 / 2) 6148914691236517205) + (Go.bits .and .u64 a0 6148914691236517205))) / 4) 3689348814741910323) + (Go.bits .and .u64 (IntKind.u64.wrap ((Go.bits .and .u64 (a0 / 2) 6148914691236517205) + (Go.bits .and .u64 a0 6148914691236517205))) 3689348814741910323))))) 1085102592571150095) + ((Go.bits .and .u64 (IntKind.u64.wrap (((IntKind.u64.wrap ((Go.bits .and .u64 ((IntKind.u64.wrap ((Go.bits .and .u64 (a0 / 2) 6148914691236517205) + (Go.bits .and .u64 a0 6148914691236517205))) / 4) 3689348814741910323) + (Go.bits .and .u64 (IntKind.u64.wrap ((Go.bits .and .u64 (a0 / 2) 6148914691236517205) + (Go.bits .and .u64 a0 6148914691236517205))) 3689348814741910323))) / 16) + (IntKind.u64.wrap ((Go.bits .and .u64 ((IntKind.u64.wrap ((Go.bits .and .u64 (a0 / 2) 6148914691236517205) + (Go.bits .and .u64 a0 6148914691236517205))) / 4) 3689348814741910323) + (Go.bits .and .u64 (IntKind.u64.wrap ((Go.bits .and .u64 (a0 / 2) 6148914691236517205) + (Go.bits .and .u64 a0 6148914691236517205))) 3689348814741910323))))) 1085102592571150095) / 256))) / 65536))) / 4294967296)))) 127)) = some r := h; clear h; obtain rfl := Option.some.inj H; go_enter Try.func100, Try.ntmps100; go_wp2
 go_ret
 exact ⟨by rfl, by exact dB.refl _⟩
def lc.f (a0 : Int) : Option (Int) := (jU.f a0).bind fun FO => (some FO)
set_option maxHeartbeats 8000000 in
set_option maxRecDepth 100000 in
theorem lc.calls (a0 : Int) (r : Int) (w : World) (h : lc.f a0 = some r) :
 Calls Try.prog 87 #[.int .u64 a0] w fun e w' => e = .returned (.int .i64 r) ∧ dB w w' := by
 have H : ((jU.f a0).bind fun FO => (some FO)) = some r := h; clear h; replace H := Option.bind_eq_some_iff.mp H; obtain ⟨FO, A20, H⟩ := H; have A2 := aa.mk A20; clear A20; obtain rfl := Option.some.inj H; go_enter Try.func87, Try.ntmps87; go_wp2_with (((with_reducible refine bT (f := 100) rfl ?_); refine fC (some 7) rfl rfl Try.func100 (by kernel_rfl) rfl #[.int .u64 a0] rfl (by (simp only [List.map_toArray, List.map_cons, List.map_nil]); rfl) ?_; (with_reducible refine (jU.calls a0 FO _ A2.out).mono ?_); rintro e w' ⟨rfl, ⟨nd, rfl⟩⟩; refine ⟨_, rfl, ?_⟩))
 go_ret
 exact ⟨by rfl, by repeat (first | exact dB.refl _ | apply dB.step)⟩
def iC.f (a0 : Int) : Option (Int) := (lc.f (IntKind.u64.wrap (a0))).bind fun Ga => (some Ga)
set_option maxHeartbeats 8000000 in
set_option maxRecDepth 100000 in
theorem iC.calls (a0 : Int) (r : Int) (w : World) (h : iC.f a0 = some r) :
 Calls Try.prog 83 #[.int .i64 a0] w fun e w' => e = .returned (.int .i64 r) ∧ dB w w' := by
 have H : ((lc.f (IntKind.u64.wrap (a0))).bind fun Ga => (some Ga)) = some r := h; clear h; replace H := Option.bind_eq_some_iff.mp H; obtain ⟨Ga, A20, H⟩ := H; have A2 := aa.mk A20; clear A20; obtain rfl := Option.some.inj H; go_enter Try.func83, Try.ntmps83; go_wp2_with (((with_reducible refine bT (f := 87) rfl ?_); refine fC (some 5) rfl rfl Try.func87 (by kernel_rfl) rfl #[.int .u64 (IntKind.u64.wrap (a0))] rfl (by (simp only [List.map_toArray, List.map_cons, List.map_nil]); rfl) ?_; (with_reducible refine (lc.calls (IntKind.u64.wrap (a0)) Ga _ A2.out).mono ?_); rintro e w' ⟨rfl, ⟨nd, rfl⟩⟩; refine ⟨_, rfl, ?_⟩))
 go_ret
 exact ⟨by rfl, by repeat (first | exact dB.refl _ | apply dB.step)⟩
end Go.Proofs.Ytihedeofkhapiaa.Pr
end
section
namespace Go.Proofs.Ytihedeofkhapiaa.Pr
open Go.RowKit Go.Proofs.YtihedeofkhapiaaW.PrintWords Go.Proofs.YtihedeofkhapiaaW.PrintLast Go.Proofs.YtihedeofkhapiaaW.PrintMore
theorem zq {i : Int} {n : Nat} (h0 : 0 ≤ i) (h : i < (n : Int)) (hn : n ≤ 9223372036854775807) : wrap64 (i + 1) = i + 1 := by
 unfold wrap64; omega
theorem ll {α : Type} (l : List α) (d : α) (i : Nat) (h : i < l.length) : l.drop i = l.getD i d :: l.drop (i + 1) := by
 rw [List.drop_eq_getElem_cons h]; simp [List.getD_eq_getElem?_getD, List.getElem?_eq_getElem h]
def seenStep (s : Int × Int) (x : S27) : Int × Int := (Go.bits .or .i64 s.1 x.f0, Go.bits .or .i64 s.2 x.f1)
def sW (l : List S27) : Int × Int := l.foldl seenStep (0, 0)
def uN (v : Int) (b : Bool) (x : S27) : Bool := if b = true then (Go.bits .and .i64 v x.f0 == x.f1) else false
def gP (l : List S27) : Int × Int × Bool := ((sW l).1, (sW l).2, l.foldl (uN (sW l).2) true)
theorem Qd (l : List S27) (hl : l.length ≤ 9223372036854775807) (x2 x3 : Int) : ∀ (d k i : Nat) (b : Bool), i + d = l.length → d < k →
 dz.l1 k x2 x3 b l (l.length : Int) (i : Int) = some (x2, x3, (l.drop i).foldl (uN x3) b) := by
 intro d
 induction d with
 | zero =>
  intro k i b hi hk; obtain ⟨k, rfl⟩ : ∃ m, k = m + 1 := ⟨k - 1, by omega⟩; simp only [dz.l1]; rw [if_neg (by omega), List.drop_eq_nil_of_le (by omega)]; rfl
 | succ d ih =>
  intro k i b hi hk; obtain ⟨k, rfl⟩ : ∃ m, k = m + 1 := ⟨k - 1, by omega⟩; simp only [dz.l1]; rw [if_pos (by omega), if_pos (by omega), if_pos (by omega), zq (by omega) (by omega) hl, ll l z27 i (by omega)]; (have e : fT l (i : Int) = l.getD i z27 := by simp [fT]); rw [e, List.foldl_cons]; have hc : ((i : Int) + 1) = ((i + 1 : Nat) : Int) := by omega
  cases b with
  | true =>
   rw [if_pos rfl, hc, ih k (i + 1) _ (by omega) (by omega)]; simp [uN]
  | false =>
   rw [if_neg (by decide), hc, ih k (i + 1) _ (by omega) (by omega)]; simp [uN]
theorem Qe (l : List S27) (hl : l.length ≤ 9223372036854775807) : ∀ (d k i : Nat) (s : Int × Int), i + d = l.length → l.length + d + 1 < k →
 dz.l0 k l s.1 s.2 true l (l.length : Int) (i : Int) = some (((l.drop i).foldl seenStep s).1, ((l.drop i).foldl seenStep s).2, l.foldl (uN ((l.drop i).foldl seenStep s).2) true) := by
 intro d
 induction d with
 | zero =>
  intro k i s hi hk; obtain ⟨k, rfl⟩ : ∃ m, k = m + 1 := ⟨k - 1, by omega⟩; simp only [dz.l0]; rw [if_neg (by omega), List.drop_eq_nil_of_le (show l.length ≤ i by omega)]; have := Qd l hl s.1 s.2 l.length k 0 true (by omega) (by omega)
  simpa using this
 | succ d ih =>
  intro k i s hi hk; obtain ⟨k, rfl⟩ : ∃ m, k = m + 1 := ⟨k - 1, by omega⟩; simp only [dz.l0]; rw [if_pos (by omega), if_pos (by omega), if_pos (by omega), zq (by omega) (by omega) hl, ll l z27 i (by omega)]; (have e : fT l (i : Int) = l.getD i z27 := by simp [fT]); (have hc : ((i : Int) + 1) = ((i + 1 : Nat) : Int) := by omega); rw [e, hc, List.foldl_cons]; exact ih k (i + 1) (seenStep s (l.getD i z27)) (by omega) (by omega)
theorem Wi (l : List S27) (hl : l.length ≤ 9223372036854775807) : dz.f (2 * l.length + 2) l = some (gP l) := by
 have := Qe l hl l.length (2 * l.length + 2) 0 (0, 0) (by omega) (by omega)
 simpa [dz.f, gP, sW] using this
theorem Hy (A0 : Option Addr) (c0 : Nat) (l0 : List S27) (w : World) (hr0 : Kd.C k27 w A0 l0.length l0) (hc0 : l0.length ≤ c0) (hl : l0.length ≤ 9223372036854775807) :
 Calls Try.prog 82 #[.slice A0 l0.length c0] w fun e w' => e = .returned (.tuple #[.int .i64 (gP l0).1, .int .i64 (gP l0).2.1, .bool (gP l0).2.2]) ∧ Below w.heap.size w w' :=
 dz.calls _ A0 c0 l0 _ _ _ w hr0 hc0 (Wi l0 hl)
def lv (a : Int) : Int := (iC.f a).getD 0
theorem WR (a : Int) : iC.f a = some (lv a) := by
 obtain ⟨r, h⟩ : ∃ r, iC.f a = some r := by
  simp only [iC.f, lc.f, jU.f, Option.bind_some]; exact ⟨_, rfl⟩
 rw [lv, h]; rfl
theorem Ic (a : Int) (w : World) : Calls Try.prog 83 #[.int .i64 a] w fun e w' => e = .returned (.int .i64 (lv a)) ∧ dB w w' :=
 iC.calls a _ w (WR a)
def fG (a b : Int) : Int := Go.bits .andNot .i64 a b
theorem Ch (a b : Int) (w : World) : Calls Try.prog 65 #[.int .i64 a, .int .i64 b] w fun e w' => e = .returned (.int .i64 (fG a b)) ∧ dB w w' :=
 fH.calls a b _ w rfl
def inP (n lo hi : Int) : Bool := decide (lo ≤ n) && decide (n ≤ hi)
theorem pq {n lo hi : Int} : inP n lo hi = true ↔ lo ≤ n ∧ n ≤ hi := by simp [inP]
theorem G6 (n lo hi : Int) : eZ.f n lo hi = some (inP n lo hi) := by
 unfold eZ.f inP; split
 ·rename_i h; simp [h]
 ·rename_i h; simp [h]
def nW : Option Int → List S86 → Int
 | _, [] => 0
 | p, s :: r => if s.f0 < 65 ∨ s.f0 > 90 then 8 else if inP s.f1 1 1023 = true then (if (∃ q, p = some q ∧ s.f0 ≤ q) then 5 else nW (some s.f0) r) else 1
def wD (a b : Int) (l : List S86) : Int :=
 if inP a (-3000) 3000 = true ∧ inP b (-3000) 3000 = true then (if a > b then 5 else if l.length = 0 then 7 else if l.length > 8 then 6 else nW none l) else 1
def Fx (l : List S86) (i : Nat) : Option Int := if i = 0 then none else some (l.getD (i - 1) z86).f0
theorem IK (l : List S86) : Fx l 0 = none := rfl
theorem wO (l : List S86) (i : Nat) : Fx l (i + 1) = some (l.getD i z86).f0 := by simp [Fx]
theorem Ak (l : List S86) (i : Nat) : aj l (i : Int) = l.getD i z86 := by simp [aj]
theorem Lc (a b : Int) (l : List S86) (hl : l.length ≤ 8) : ∀ (d i : Nat), i + d = l.length → Ev (fun k => aI.l0 k l (l.length : Int) (i : Int) a b l) (nW (Fx l i) (l.drop i)) := by
 intro d
 induction d with
 | zero =>
  intro i hi; refine Ev.step (f := fun _ => some 0) (fun k => ?_) ?_
  ·simp only [aI.l0]; rw [if_neg (by omega)]
  ·rw [List.drop_eq_nil_of_le (by omega)]; exact Ev.now 0
 | succ d ih =>
  intro i hi; (have hc : ((i : Int) + 1) = ((i + 1 : Nat) : Int) := by omega); refine Ev.step (f := fun k => aI.j2 k (i : Int) l (l.length : Int) (i : Int) (decide ((l.getD i z86).f0 < 65 ∨ (l.getD i z86).f0 > 90)) a b l (l.getD i z86).f0 (l.getD i z86).f1) (fun k => ?_) ?_
  ·simp only [aI.l0]; rw [if_pos (by omega), if_pos (by omega), if_pos (by omega), Ak]; by_cases h : (l.getD i z86).f0 < 65
   ·rw [if_pos h, decide_eq_true h, decide_eq_true (show (l.getD i z86).f0 < 65 ∨ (l.getD i z86).f0 > 90 from .inl h)]
   ·rw [if_neg h]; simp only [h, false_or]
  rw [ll l z86 i (by omega), nW]; by_cases h1 : (l.getD i z86).f0 < 65 ∨ (l.getD i z86).f0 > 90
  ·rw [if_pos h1]; refine Ev.step (f := fun _ => some 8) (fun k => ?_) (Ev.now 8); simp only [aI.j2, h1, decide_true, if_true]
  rw [if_neg h1]; by_cases h2 : inP (l.getD i z86).f1 1 1023 = true
  ·rw [if_pos h2]; by_cases h3 : i = 0
   ·subst h3; rw [if_neg (by simp [Fx])]; refine Ev.step (f := fun k => aI.l0 k l (l.length : Int) ((0 + 1 : Nat) : Int) a b l) (fun k => ?_) ?_
    ·simp only [aI.j2, h1, decide_false, G6, Option.bind_some, h2]; rw [if_neg (by decide), if_pos trivial, if_neg (by decide), show wrap64 (((0 : Nat) : Int) + 1) = ((0 + 1 : Nat) : Int) from by unfold wrap64; omega]
    ·have := ih 1 (by omega)
     rwa [wO] at this
   ·obtain ⟨j, rfl⟩ : ∃ j, i = j + 1 := ⟨i - 1, by omega⟩; rw [wO]; (have hw : wrap64 (((j + 1 : Nat) : Int) - 1) = (j : Int) := by unfold wrap64; omega); (have hw2 : wrap64 (((j + 1 : Nat) : Int) + 1) = ((j + 1 + 1 : Nat) : Int) := by unfold wrap64; omega); by_cases h4 : (l.getD (j + 1) z86).f0 ≤ (l.getD j z86).f0
    ·rw [if_pos ⟨_, rfl, h4⟩]; refine Ev.step (f := fun _ => some 5) (fun k => ?_) (Ev.now 5); simp only [aI.j2, h1, decide_false, G6, Option.bind_some, h2, hw]; rw [if_neg (by decide), if_pos trivial, if_pos (by omega), if_pos (by omega), if_pos (by omega), Ak, if_pos h4]
    ·rw [if_neg (by rintro ⟨q, hq, h⟩; cases hq; exact h4 h)]; refine Ev.step (f := fun k => aI.l0 k l (l.length : Int) ((j + 1 + 1 : Nat) : Int) a b l) (fun k => ?_) ?_
     ·simp only [aI.j2, h1, decide_false, G6, Option.bind_some, h2, hw, hw2]; rw [if_neg (by decide), if_pos trivial, if_pos (by omega), if_pos (by omega), if_pos (by omega), Ak, if_neg h4]
     ·have := ih (j + 1 + 1) (by omega)
      rwa [wO] at this
  ·rw [if_neg h2]; refine Ev.step (f := fun _ => some 1) (fun k => ?_) (Ev.now 1); simp only [aI.j2, h1, decide_false, G6, Option.bind_some, h2]; rw [if_neg (by decide), if_neg (by simp)]
theorem Qz (a b : Int) (l : List S86) : Ev (fun k => aI.f k a b l) (wD a b l) := by
 have hj : ∀ x, Ev (fun k => aI.j0 k x a b l) (if x = true then 1 else if a > b then 5 else if l.length = 0 then 7 else if l.length > 8 then 6 else nW none l) := by
  intro x; by_cases h1 : x = true
  ·rw [if_pos h1]; refine Ev.step (f := fun _ => some 1) (fun k => ?_) (Ev.now 1); simp only [aI.j0]; rw [if_pos h1]
  rw [if_neg h1]; by_cases h2 : a > b
  ·rw [if_pos h2]; refine Ev.step (f := fun _ => some 5) (fun k => ?_) (Ev.now 5); simp only [aI.j0]; rw [if_neg h1, if_pos h2]
  rw [if_neg h2]; by_cases h3 : l.length = 0
  ·rw [if_pos h3]; refine Ev.step (f := fun _ => some 7) (fun k => ?_) (Ev.now 7); simp only [aI.j0]; rw [if_neg h1, if_neg h2, if_pos (by omega)]
  rw [if_neg h3]; by_cases h4 : l.length > 8
  ·rw [if_pos h4]; refine Ev.step (f := fun _ => some 6) (fun k => ?_) (Ev.now 6); simp only [aI.j0]; rw [if_neg h1, if_neg h2, if_neg (by omega), if_pos (by omega)]
  rw [if_neg h4]; refine Ev.step (f := fun k => aI.l0 k l (l.length : Int) ((0 : Nat) : Int) a b l) (fun k => ?_) ?_
  ·simp only [aI.j0]; rw [if_neg h1, if_neg h2, if_neg (by omega), if_neg (by omega)]; rfl
  ·have := Lc a b l (by omega) l.length 0 (by omega)
   simpa [IK] using this
 refine Ev.congr (f := fun k => aI.j0 k (!(inP a (-3000) 3000 && inP b (-3000) 3000)) a b l) (fun k => ?_) ?_
 ·simp only [aI.f, G6, Option.bind_some]; by_cases h : inP a (-3000) 3000 = true
  ·rw [if_pos h, h, Bool.true_and]
  ·rw [if_neg h]; simp only [Bool.not_eq_true] at h; rw [h, Bool.false_and]
 ·have := hj (!(inP a (-3000) 3000 && inP b (-3000) 3000)); unfold wD; by_cases h : inP a (-3000) 3000 = true ∧ inP b (-3000) 3000 = true
  ·rw [if_pos h]; rw [h.1, h.2, Bool.and_self, Bool.not_true, if_neg (by decide)] at this; rw [h.1, h.2]; exact this
  ·rw [if_neg h]
   have hx : (inP a (-3000) 3000 && inP b (-3000) 3000) = false := by
    simp only [Bool.and_eq_false_iff]; by_cases h' : inP a (-3000) 3000 = true
    ·exact .inr (by simpa [h'] using h)
    ·exact .inl (by simpa using h')
   rw [hx, Bool.not_false, if_pos rfl] at this; rw [hx]; exact this
def mZ : List S66 → Int
 | [] => 0
 | h :: r => if wD h.f0.f0 h.f0.f1 h.f1 = 0 then mZ r else wD h.f0.f0 h.f0.f1 h.f1
def qc : List S27 → Int
 | [] => 0
 | x :: r => if inP x.f0 0 1023 = true ∧ inP x.f1 0 1023 = true then (if fG x.f1 x.f0 = 0 then qc r else 2) else 1
def mi : List (List S27) → Int
 | [] => 0
 | q :: r => if q.length > 4 then 6 else if qc q = 0 then mi r else qc q
def kG (l0 : List S66) (a1 a2 a3 : Int) (l4 : List (List S27)) : Int :=
 if l0.length = 0 then 7 else if l0.length > 4 then 6 else if mZ l0 = 0 then
  (if inP a1 0 10 = true ∧ inP a2 0 10 = true ∧ inP a3 0 40 = true then (if l4.length = 0 then 7 else if l4.length > 8 then 6 else mi l4) else 1)
 else mZ l0
theorem FH (l : List S66) (i : Nat) : ah l (i : Int) = l.getD i z66 := by simp [ah]
theorem aeR (l : List S27) (i : Nat) : fT l (i : Int) = l.getD i z27 := by simp [fT]
theorem Sc (l : List (List S27)) (i : Nat) : fB l (i : Int) = l.getD i [] := by simp [fB]
theorem xQ (i n : Nat) (h : i < n) (hn : n ≤ 9223372036854775807) : wrap64 ((i : Int) + 1) = ((i + 1 : Nat) : Int) := by unfold wrap64; omega
theorem H7 (l : List (List S27)) (hl : l.length ≤ 8) : ∀ (d i : Nat), i + d = l.length → Ev (fun k => aN.l1 k l (l.length : Int) (i : Int)) (mi (l.drop i)) := by
 intro d
 induction d with
 | zero =>
  intro i hi; refine Ev.step (f := fun _ => some 0) (fun k => ?_) ?_
  ·simp only [aN.l1]; rw [if_neg (by omega)]
  ·rw [List.drop_eq_nil_of_le (by omega)]; exact Ev.now 0
 | succ d ih =>
  intro i hi; rw [ll l [] i (by omega), mi]; obtain ⟨q, hq⟩ : ∃ q, q = l.getD i [] := ⟨_, rfl⟩; rw [← hq]; by_cases h1 : q.length > 4
  ·rw [if_pos h1]; refine Ev.step (f := fun _ => some 6) (fun k => ?_) (Ev.now 6); simp only [aN.l1]; rw [if_pos (by omega), if_pos (by omega), if_pos (by omega), Sc, ← hq, if_pos (by omega)]
  rw [if_neg h1]
  have hin : ∀ (e j : Nat), j + e = q.length → Ev (fun k => aN.l2 k l (l.length : Int) (i : Int) q (q.length : Int) (j : Int)) (if qc (q.drop j) = 0 then mi (l.drop (i + 1)) else qc (q.drop j)) := by
   intro e
   induction e with
   | zero =>
    intro j hj; refine Ev.step (f := fun k => aN.l1 k l (l.length : Int) ((i + 1 : Nat) : Int)) (fun k => ?_) ?_
    ·simp only [aN.l2]; rw [if_neg (by omega), xQ i 8 (by omega) (by omega)]
    ·rw [List.drop_eq_nil_of_le (show q.length ≤ j by omega), qc, if_pos rfl]; exact ih (i + 1) (by omega)
   | succ e ih2 =>
    intro j hj; rw [ll q z27 j (by omega), qc]; obtain ⟨x, hx⟩ : ∃ x, x = q.getD j z27 := ⟨_, rfl⟩; rw [← hx]; refine Ev.step (f := fun k => aN.j4 k l (l.length : Int) (i : Int) q (q.length : Int) (j : Int) (!(inP x.f0 0 1023 && inP x.f1 0 1023)) x.f0 x.f1) (fun k => ?_) ?_
    ·simp only [aN.l2, G6, Option.bind_some]; rw [if_pos (by omega), if_pos (by omega), if_pos (by omega), aeR, ← hx]; by_cases h : inP x.f0 0 1023 = true
     ·rw [if_pos h, h, Bool.true_and]
     ·rw [if_neg h]; simp only [Bool.not_eq_true] at h; rw [h, Bool.false_and]
    by_cases h : inP x.f0 0 1023 = true ∧ inP x.f1 0 1023 = true
    ·rw [if_pos h, h.1, h.2, Bool.and_self, Bool.not_true]; by_cases h5 : fG x.f1 x.f0 = 0
     ·rw [if_pos h5]; refine Ev.step (f := fun k => aN.l2 k l (l.length : Int) (i : Int) q (q.length : Int) ((j + 1 : Nat) : Int)) (fun k => ?_) (ih2 (j + 1) (by omega)); simp only [aN.j4, fH.f, Option.bind_some]; rw [if_neg (by decide), if_pos (show Go.bits .andNot .i64 x.f1 x.f0 = 0 from h5), xQ j 8 (by omega) (by omega)]
     ·rw [if_neg h5, if_neg (by decide)]; refine Ev.step (f := fun _ => some 2) (fun k => ?_) (Ev.now 2); simp only [aN.j4, fH.f, Option.bind_some]; rw [if_neg (by decide), if_neg (show ¬ Go.bits .andNot .i64 x.f1 x.f0 = 0 from h5)]
    ·rw [if_neg h, if_neg (by decide)]
     have hx : (inP x.f0 0 1023 && inP x.f1 0 1023) = false := by
      simp only [Bool.and_eq_false_iff]; by_cases h' : inP x.f0 0 1023 = true
      ·exact .inr (by simpa [h'] using h)
      ·exact .inl (by simpa using h')
     rw [hx, Bool.not_false]; refine Ev.step (f := fun _ => some 1) (fun k => ?_) (Ev.now 1); simp only [aN.j4]; rw [if_pos trivial]
  refine Ev.step (f := fun k => aN.l2 k l (l.length : Int) (i : Int) q (q.length : Int) ((0 : Nat) : Int)) (fun k => ?_) ?_
  ·simp only [aN.l1]; rw [if_pos (by omega), if_pos (by omega), if_pos (by omega), Sc, ← hq, if_neg (by omega)]; rfl
  ·have := hin q.length 0 (by omega)
   simpa using this
theorem Pq (l0 : List S66) (a1 a2 a3 : Int) (l4 : List (List S27)) : Ev (fun k => aN.f k l0 a1 a2 a3 l4) (kG l0 a1 a2 a3 l4) := by
 unfold kG; by_cases h1 : l0.length = 0
 ·rw [if_pos h1]; refine Ev.congr (f := fun _ => some 7) (fun k => ?_) (Ev.now 7); simp only [aN.f]; rw [if_pos (by omega)]
 rw [if_neg h1]; by_cases h2 : l0.length > 4
 ·rw [if_pos h2]; refine Ev.congr (f := fun _ => some 6) (fun k => ?_) (Ev.now 6); simp only [aN.f]; rw [if_neg (by omega), if_pos (by omega)]
 rw [if_neg h2]
 have hj : ∀ x, Ev (fun k => aN.j1 k x l0 a1 a2 a3 l4) (if x = true then 1 else if l4.length = 0 then 7 else if l4.length > 8 then 6 else mi l4) := by
  intro x; by_cases h3 : x = true
  ·rw [if_pos h3]; refine Ev.step (f := fun _ => some 1) (fun k => ?_) (Ev.now 1); simp only [aN.j1]; rw [if_pos h3]
  rw [if_neg h3]; by_cases h4 : l4.length = 0
  ·rw [if_pos h4]; refine Ev.step (f := fun _ => some 7) (fun k => ?_) (Ev.now 7); simp only [aN.j1]; rw [if_neg h3, if_pos (by omega)]
  rw [if_neg h4]; by_cases h5 : l4.length > 8
  ·rw [if_pos h5]; refine Ev.step (f := fun _ => some 6) (fun k => ?_) (Ev.now 6); simp only [aN.j1]; rw [if_neg h3, if_neg (by omega), if_pos (by omega)]
  rw [if_neg h5]; refine Ev.step (f := fun k => aN.l1 k l4 (l4.length : Int) ((0 : Nat) : Int)) (fun k => ?_) ?_
  ·simp only [aN.j1]; rw [if_neg h3, if_neg (by omega), if_neg (by omega)]; rfl
  ·have := H7 l4 (by omega) l4.length 0 (by omega)
   simpa using this
 have hl : ∀ (d i : Nat), i + d = l0.length → Ev (fun k => aN.l0 k l0 (l0.length : Int) (i : Int) l0 a1 a2 a3 l4) (if mZ (l0.drop i) = 0 then
  (if inP a1 0 10 = true ∧ inP a2 0 10 = true ∧ inP a3 0 40 = true then (if l4.length = 0 then 7 else if l4.length > 8 then 6 else mi l4) else 1) else mZ (l0.drop i)) := by
  intro d
  induction d with
  | zero =>
   intro i hi; rw [List.drop_eq_nil_of_le (by omega), mZ, if_pos rfl]; refine Ev.step (f := fun k => aN.j1 k (!(inP a1 0 10 && (inP a2 0 10 && inP a3 0 40))) l0 a1 a2 a3 l4) (fun k => ?_) ?_
   ·simp only [aN.l0, G6, Option.bind_some]; rw [if_neg (by omega)]; by_cases h3 : inP a1 0 10 = true
    ·rw [if_pos h3, h3, Bool.true_and]; by_cases h4 : inP a2 0 10 = true
     ·rw [if_pos h4, h4, Bool.true_and]
     ·rw [if_neg h4]; simp only [Bool.not_eq_true] at h4; rw [h4, Bool.false_and]
    ·rw [if_neg h3]; simp only [Bool.not_eq_true] at h3; rw [h3, Bool.false_and]
   ·have := hj (!(inP a1 0 10 && (inP a2 0 10 && inP a3 0 40))); by_cases h : inP a1 0 10 = true ∧ inP a2 0 10 = true ∧ inP a3 0 40 = true
    ·rw [if_pos h]; rw [h.1, h.2.1, h.2.2] at this ⊢; exact this
    ·rw [if_neg h]
     have hx : (inP a1 0 10 && (inP a2 0 10 && inP a3 0 40)) = false := by
      rw [Bool.eq_false_iff]; intro hh; simp only [Bool.and_eq_true] at hh; exact h hh
     rw [hx] at this ⊢; exact this
  | succ d ih =>
   intro i hi; rw [ll l0 z66 i (by omega), mZ]; refine Ev.step (f := fun k => (aI.f k (l0.getD i z66).f0.f0 (l0.getD i z66).f0.f1 (l0.getD i z66).f1).bind fun t => if t = 0 then aN.l0 k l0 (l0.length : Int) ((i + 1 : Nat) : Int) l0 a1 a2 a3 l4 else some t) (fun k => ?_) ?_
   ·simp only [aN.l0]; rw [if_pos (by omega), if_pos (by omega), if_pos (by omega), FH, xQ i 8 (by omega) (by omega)]
   ·refine Ev.bind (Qz _ _ _) ?_; by_cases h3 : wD (l0.getD i z66).f0.f0 (l0.getD i z66).f0.f1 (l0.getD i z66).f1 = 0
    ·simp only [h3, if_true]; exact ih (i + 1) (by omega)
    ·simp only [h3, if_false]; exact Ev.now _
 have := hl l0.length 0 (by omega); refine Ev.congr (f := fun k => aN.l0 k l0 (l0.length : Int) ((0 : Nat) : Int) l0 a1 a2 a3 l4) (fun k => ?_) (by simpa using this); simp only [aN.f]; rw [if_neg (by omega), if_neg (by omega)]; rfl
theorem mE {l0 : List S66} {a1 a2 a3 : Int} {l4 : List (List S27)} (h : kG l0 a1 a2 a3 l4 = 0) : 0 < l0.length ∧ l0.length ≤ 4 ∧ 0 < l4.length ∧ l4.length ≤ 8 ∧ mZ l0 = 0 ∧ mi l4 = 0 ∧ inP a1 0 10 = true ∧ inP a2 0 10 = true ∧ inP a3 0 40 = true := by
 unfold kG at h; split at h
 ·exact absurd h (by decide)
 split at h
 ·exact absurd h (by decide)
 split at h
 ·split at h
  ·split at h
   ·exact absurd h (by decide)
   split at h
   ·exact absurd h (by decide)
   ·rename_i h1 h2 h3 h4 h5 h6; exact ⟨by omega, by omega, by omega, by omega, h3, h, h4⟩
  ·exact absurd h (by decide)
 ·rename_i h1 h2 h3; exact absurd h h3
theorem CX {l0 : List S66} (h : mZ l0 = 0) : ∀ x ∈ l0, wD x.f0.f0 x.f0.f1 x.f1 = 0 := by
 induction l0 with
 | nil => intro x hx; cases hx
 | cons y r ih =>
  rw [mZ] at h; split at h
  ·rename_i h1; intro x hx; rcases List.mem_cons.1 hx with rfl | hx
   ·exact h1
   ·exact ih h x hx
  ·rename_i h1; exact absurd h h1
theorem zh {a b : Int} {l : List S86} (h : wD a b l = 0) : inP a (-3000) 3000 = true ∧ inP b (-3000) 3000 = true ∧ a ≤ b ∧ 0 < l.length ∧ l.length ≤ 8 ∧ nW none l = 0 := by
 unfold wD at h; split at h
 ·rename_i h0; split at h
  ·exact absurd h (by decide)
  split at h
  ·exact absurd h (by decide)
  split at h
  ·exact absurd h (by decide)
  ·rename_i h1 h2 h3; exact ⟨h0.1, h0.2, by omega, by omega, by omega, h⟩
 ·exact absurd h (by decide)
theorem uk {l0 : List S66} (h : mZ l0 = 0) : ∀ i : Nat, i < l0.length → (ah l0 (i : Int)).f1.length ≤ 8 := fun i hi => by
 rw [FH, List.getD_eq_getElem?_getD, List.getElem?_eq_getElem hi]; exact (zh (CX h _ (List.getElem_mem hi))).2.2.2.2.1
theorem zn (eX : Option Addr) (dZ : Nat) (aZ : List (S66)) (bz : Int) (bS : Int) (bW : Int) (eB : Option Addr) (dW : Nat) (bB : List (List (S27))) (w : World) (lZ : Kd.C k66 w eX aZ.length aZ) (nz : aZ.length ≤ dZ) (mf : Kd.C (Kd.slice 27 k27) w eB bB.length bB) (nD : bB.length ≤ dW) :
 Calls Try.prog 40 #[.agg #[.slice eX aZ.length dZ, .int .i64 bz, .int .i64 bS, .int .i64 bW, .slice eB bB.length dW]] w fun e w' => e = .returned (.int .i64 (kG aZ bz bS bW bB)) ∧ Below w.heap.size w w' := by
 obtain ⟨k, hk⟩ := (Pq aZ bz bS bW bB).rounds; exact aN.calls k eX dZ aZ bz bS bW eB dW bB _ w lZ nz mf nD hk
def EvI {α : Type} (g : Nat → Option α) (P : α → Prop) : Prop := ∃ r, Ev g r ∧ P r
theorem EvI.now {α : Type} {P : α → Prop} {r : α} (h : P r) : EvI (fun _ => some r) P := ⟨r, Ev.now r, h⟩
theorem EvI.step {α : Type} {g f : Nat → Option α} {P : α → Prop} (h : ∀ k, g (k + 1) = f k) (k : EvI f P) : EvI g P := by
 obtain ⟨r, hr, hp⟩ := k; exact ⟨r, Ev.step h hr, hp⟩
theorem EvI.bind {α β : Type} {g : Nat → Option α} {f : Nat → α → Option β} {P : α → Prop} {Q : β → Prop} (h : EvI g P) (k : ∀ a, P a → EvI (fun n => f n a) Q) : EvI (fun n => (g n).bind (f n)) Q := by
 obtain ⟨a, ha, hp⟩ := h; obtain ⟨r, hr, hq⟩ := k a hp; exact ⟨r, Ev.bind ha hr, hq⟩
theorem EvI.call {α β : Type} {o : Option α} {f : Nat → α → Option β} {a : α} {Q : β → Prop} (h : o = some a) (k : EvI (fun n => f n a) Q) : EvI (fun n => o.bind (f n)) Q := by
 subst h; exact k
theorem EvI.pos {α : Type} {c : Prop} [Decidable c] {g f : Nat → Option α} {P : α → Prop} (h : c) (k : EvI f P) : EvI (fun n => if c then f n else g n) P := by
 simp only [if_pos h]; exact k
theorem EvI.neg {α : Type} {c : Prop} [Decidable c] {g f : Nat → Option α} {P : α → Prop} (h : ¬ c) (k : EvI g P) : EvI (fun n => if c then f n else g n) P := by
 simp only [if_neg h]; exact k
theorem EvI.ite {α : Type} {c : Prop} [Decidable c] {g f : Nat → Option α} {P : α → Prop} (k1 : c → EvI f P) (k2 : ¬ c → EvI g P) : EvI (fun n => if c then f n else g n) P := by
 by_cases h : c
 ·exact EvI.pos h (k1 h)
 ·exact EvI.neg h (k2 h)
theorem EvI.rounds {α : Type} {g : Nat → Option α} {P : α → Prop} (h : EvI g P) : ∃ r, (∃ k, g k = some r) ∧ P r := by
 obtain ⟨r, hr, hp⟩ := h; exact ⟨r, hr.rounds, hp⟩
theorem dY {x : Int} (h0 : -9223372036854775808 ≤ x) (h1 : x < 9223372036854775808) : wrap64 x = x := by unfold wrap64; omega
theorem SI (a b : Int) : ∃ r x y, eU.f a b = some (r, x, y) ∧ 0 ≤ r := by
 unfold eU.f; split
 ·exact ⟨_, _, _, rfl, by simp only [IntKind.wrap, IntKind.bits, IntKind.signed, Bool.false_and, Bool.false_eq_true, if_false]; omega⟩
 ·exact ⟨_, _, _, rfl, by simp only [IntKind.wrap, IntKind.bits, IntKind.signed, Bool.false_and, Bool.false_eq_true, if_false]; omega⟩
theorem pK (a b n : Int) (h1 : 1 ≤ n) (h2 : n ≤ 4611686018427387904) : ∃ v x y, aU.f a b n = some (v, x, y) ∧ 0 ≤ v ∧ v < n := by
 unfold aU.f; by_cases h : n < 2
 ·rw [if_pos h]; exact ⟨_, _, _, rfl, by omega, by omega⟩
 ·rw [if_neg h]; obtain ⟨r, x, y, hr, h0⟩ := SI a b; (have hw : IntKind.u64.wrap n = n := by simp only [IntKind.wrap, IntKind.bits, IntKind.signed, Bool.false_and, Bool.false_eq_true, if_false]; omega); rw [hr, Option.bind_some, hw, if_neg (by omega)]; have hm0 : 0 ≤ Int.tmod (r / 2048) n := Int.tmod_nonneg _ (by omega); have hm1 : Int.tmod (r / 2048) n < n := Int.tmod_lt_of_pos _ (by omega); refine ⟨_, _, _, rfl, ?_, ?_⟩
  ·simp only []; rw [dY (by omega) (by omega)]; exact hm0
  ·simp only []; rw [dY (by omega) (by omega)]; exact hm1
theorem wL (a b lo hi : Int) (h : lo ≤ hi) (h1 : -1000000 ≤ lo) (h2 : hi ≤ 1000000) : ∃ v x y, di.f a b lo hi = some (v, x, y) ∧ lo ≤ v ∧ v ≤ hi := by
 unfold di.f; rw [dY (x := hi - lo) (by omega) (by omega), dY (x := hi - lo + 1) (by omega) (by omega)]; obtain ⟨v, x, y, hv, h3, h4⟩ := pK a b (hi - lo + 1) (by omega) (by omega); rw [hv, Option.bind_some]; refine ⟨_, _, _, rfl, ?_, ?_⟩ <;> (simp only []; rw [dY (by omega) (by omega)]; omega)
theorem GK (a b n m : Int) (h1 : 1 ≤ m) (h2 : m ≤ 1000000) : ∃ v x y, dF.f a b n m = some (v, x, y) := by
 unfold dF.f; obtain ⟨v, x, y, hv, h3, h4⟩ := pK a b m h1 (by omega); rw [hv, Option.bind_some]; exact ⟨_, _, _, rfl⟩
theorem Cw (a b : Int) (l : List Int) (h1 : l ≠ []) (h2 : l.length ≤ 1000) : ∃ v x y, ed.f a b l = some (v, x, y) ∧ v ∈ l := by
 have hl : 0 < l.length := List.length_pos_iff.2 h1; unfold ed.f; rw [if_neg (by omega)]; obtain ⟨v, x, y, hv, h3, h4⟩ := pK a b (l.length : Int) (by omega) (by omega); rw [hv, Option.bind_some]; simp only []; rw [if_pos h3, if_pos h4]; refine ⟨_, _, _, rfl, ?_⟩; obtain ⟨i, rfl⟩ := Int.eq_ofNat_of_zero_le h3; (have hi : i < l.length := by omega); (have : rd l (i : Int) = l[i] := by simp [rd, List.getD_eq_getElem?_getD, hi]); rw [this]; exact List.getElem_mem _
def Asc (l : List S86) : Prop := (∀ s ∈ l, 65 ≤ s.f0 ∧ s.f0 ≤ 90 ∧ 1 ≤ s.f1 ∧ s.f1 ≤ 31) ∧ l.Pairwise (fun a b => a.f0 < b.f0)
theorem Asc.shapes : ∀ {l : List S86} {p : Option Int}, Asc l → (∀ q, p = some q → ∀ s ∈ l, q < s.f0) → nW p l = 0
 | [], _, _, _ => by simp [nW]
 | s :: r, p, h, hp => by
  obtain ⟨h1, h2⟩ := h; have hs := h1 s List.mem_cons_self; rw [nW, if_neg (by omega), if_pos (pq.2 (by omega)), if_neg]
  ·exact Asc.shapes ⟨fun t ht => h1 t (List.mem_cons_of_mem _ ht), (List.pairwise_cons.1 h2).2⟩ (fun q hq t ht => by cases hq; exact (List.pairwise_cons.1 h2).1 t ht)
  ·rintro ⟨q, hq, hle⟩; have := hp q hq s List.mem_cons_self; omega
def nN (m : Int) (h : S66) : Prop := -600 ≤ h.f0.f0 ∧ h.f0.f0 ≤ h.f0.f1 ∧ h.f0.f1 ≤ 500 ∧ Asc h.f1 ∧ 0 < h.f1.length ∧ (h.f1.length : Int) ≤ m
theorem nN.valid {m : Int} {h : S66} (hg : nN m h) (hm : m ≤ 8) : wD h.f0.f0 h.f0.f1 h.f1 = 0 := by
 obtain ⟨h1, h2, h3, h4, h5, h6⟩ := hg; rw [wD, if_pos ⟨pq.2 (by omega), pq.2 (by omega)⟩, if_neg (by omega), if_neg (by omega), if_neg (by omega)]; exact h4.shapes (fun q hq => by cases hq)
theorem SN : ∀ (d : Nat) (x7 x8 a b lo hi : Int) (l : List S86), 0 ≤ x7 → x7 ≤ 26 → 0 ≤ x8 → x8 = (d : Int) → d ≤ 100 → l.length + d ≤ 200 → Asc l → (∀ s ∈ l, s.f0 < 65 + x7) →
 EvI (fun k => aD.l0 k x7 x8 a b lo hi l) fun r => r.1 = lo ∧ r.2.1 = hi ∧ Asc r.2.2.1 ∧ l.length ≤ r.2.2.1.length ∧ (r.2.2.1.length : Int) ≤ l.length + x8 ∧ (0 < x8 → x7 < 26 → l.length < r.2.2.1.length) := by
 intro d
 induction d with
 | zero =>
  intro x7 x8 a b lo hi l h1 h2 h3 h4 hd hl ha hb; refine EvI.step (f := fun k => aD.j1 k x7 x8 false a b lo hi l) (fun k => by rw [aD.l0, if_neg (by omega)]) ?_; refine EvI.step (f := fun k => some (lo, hi, l, a, b)) (fun k => by rw [aD.j1, if_neg (by simp)]) ?_; refine EvI.now ⟨rfl, rfl, ha, by simp, by simp; omega, fun h => by omega⟩
 | succ d ih =>
  intro x7 x8 a b lo hi l h1 h2 h3 h4 hd hl ha hb; refine EvI.step (f := fun k => aD.j1 k x7 x8 (decide (x7 < 26)) a b lo hi l) (fun k => by rw [aD.l0, if_pos (by omega)]) ?_; by_cases h26 : ¬ x7 < 26
  ·refine EvI.step (f := fun k => some (lo, hi, l, a, b)) (fun k => by rw [aD.j1, if_neg (by simp; omega)]) ?_; refine EvI.now ⟨rfl, rfl, ha, by simp, by simp; omega, fun _ h => by omega⟩
  replace h26 := Decidable.of_not_not h26; obtain ⟨n, x, y, hn, h5, h6⟩ := pK a b (mn 4 (wrap64 (26 - x7))) (by rw [dY (by omega) (by omega)]; unfold mn; split <;> omega) (by rw [dY (by omega) (by omega)]; unfold mn; split <;> omega)
  have h7 : n < 26 - x7 := by
   rw [dY (by omega) (by omega)] at h6; unfold mn at h6; split at h6 <;> omega
  obtain ⟨s, x', y', hs, h8, h9⟩ := wL x y 1 31 (by omega) (by omega) (by omega); have e1 : wrap64 (x7 + n) = x7 + n := dY (by omega) (by omega); (have e2 : wrap64 (65 + (x7 + n)) % 256 = 65 + x7 + n := by rw [dY (by omega) (by omega)]; omega); have e3 : wrap64 (x7 + n + 1) = x7 + n + 1 := dY (by omega) (by omega); have e4 : wrap64 (x8 - 1) = (d : Int) := by rw [dY (by omega) (by omega)]; omega
  refine EvI.step (f := fun k => aD.l0 k (x7 + n + 1) (d : Int) x' y' lo hi (l ++ [⟨65 + x7 + n, s⟩])) (fun k => by
   rw [aD.j1, if_pos (decide_eq_true h26), hn, Option.bind_some]; simp only []; rw [hs, Option.bind_some]; simp only []
   rw [if_pos (by omega), e1, e2, e3, e4]) ?_
  obtain ⟨r, hr, r1, r2, r3, r4, r5, r6⟩ := ih (x7 + n + 1) (d : Int) x' y' lo hi (l ++ [⟨65 + x7 + n, s⟩]) (by omega) (by omega) (by omega) rfl (by omega) (by simp; omega) (by
   refine ⟨fun t ht => ?_, ?_⟩
   ·rcases List.mem_append.1 ht with ht | ht
    ·exact ha.1 t ht
    ·rw [List.mem_singleton] at ht; subst ht; exact ⟨by simp only []; omega, by simp only []; omega, h8, h9⟩
   ·refine List.pairwise_append.2 ⟨ha.2, by simp, fun t ht u hu => ?_⟩; rw [List.mem_singleton] at hu; subst hu; have := hb t ht; simp only []
    omega) (fun t ht => by
    rcases List.mem_append.1 ht with ht | ht
    ·have := hb t ht; omega
    ·rw [List.mem_singleton] at ht; subst ht; simp only []
     omega)
  simp only [List.length_append, List.length_cons, List.length_nil] at r4 r5; refine ⟨r, hr, r1, r2, r3, by omega, by push_cast at r5; omega, fun _ _ => by omega⟩
theorem FL (a b m : Int) (h1 : 1 ≤ m) (h2 : m ≤ 100) : EvI (fun k => aD.f k a b m) fun r => nN m ⟨⟨r.1, r.2.1⟩, r.2.2.1⟩ := by
 obtain ⟨lo, x, y, hlo, h3, h4⟩ := wL a b (-600) 300 (by omega) (by omega) (by omega); obtain ⟨u, x', y', hu, h5, h6⟩ := pK x y 200 (by omega) (by omega); obtain ⟨n, x2, y2, hn, h7, h8⟩ := wL x' y' 1 m h1 (by omega) (by omega); have e : wrap64 (lo + u) = lo + u := dY (by omega) (by omega); obtain ⟨d, rfl⟩ := Int.eq_ofNat_of_zero_le (show 0 ≤ n by omega); obtain ⟨r, hr, r1, r2, r3, r4, r5, r6⟩ := SN d 0 (d : Int) x2 y2 lo (lo + u) [] (by omega) (by omega) (by omega) rfl (by omega) (by simp; omega) ⟨fun s hs => absurd hs List.not_mem_nil, List.Pairwise.nil⟩ (fun s hs => absurd hs List.not_mem_nil); have r7 := r6 (by omega) (by omega); simp only [List.length_nil] at r5 r7; simp only [aD.f]; refine EvI.call hlo (EvI.call hu (EvI.call hn ?_)); simp only [e]; refine ⟨r, hr, ?_⟩; refine ⟨by simp only []; omega, by simp only []; omega, by simp only []; omega, r3, r7, by simp only []; omega⟩
abbrev uu := (List S66) × Int × Int × Int × (List (List S27)) × Int × ByteArray × List Int × Int × Int
def pm (x : S27) : Prop := inP x.f0 0 1023 = true ∧ inP x.f1 0 1023 = true ∧ fG x.f1 x.f0 = 0
def kX (a1 a2 a3 : Int) (r : uu) : Prop :=
 (0 < r.1.length ∧ (r.1.length : Int) ≤ a1 ∧ ∀ h ∈ r.1, nN a2 h) ∧ (0 ≤ r.2.1 ∧ r.2.1 ≤ 2) ∧ (0 ≤ r.2.2.1 ∧ r.2.2.1 ≤ 2) ∧ (0 ≤ r.2.2.2.1 ∧ r.2.2.2.1 ≤ 40) ∧
  0 < r.2.2.2.2.1.length ∧ (r.2.2.2.2.1.length : Int) ≤ a3 ∧ ∀ q ∈ r.2.2.2.2.1, q.length ≤ 4 ∧ ∀ x ∈ q, pm x
theorem wrap_small {n : Nat} (h : n ≤ 1023) : IntKind.i64.wrap (n : Int) = (n : Int) := by
 have e : wrap64 (n : Int) = IntKind.i64.wrap (n : Int) := by
  simp only [IntKind.wrap, IntKind.bits, IntKind.signed, wrap64]; simp; split <;> omega
 rw [← e, dY (by omega) (by omega)]
theorem Ct (x : BitVec 64) : BitVec.ofInt IntKind.i64.bits ((x.toNat : Nat) : Int) = x := by
 show BitVec.ofInt 64 ((x.toNat : Nat) : Int) = x; rw [BitVec.ofInt_natCast, BitVec.ofNat_toNat, BitVec.setWidth_eq]
theorem C8 (v s : Int) (h0 : 0 ≤ s) (h1 : s ≤ 31) : pm ⟨s, Go.bits .and .i64 v s⟩ := by
 obtain ⟨n, rfl⟩ := Int.eq_ofNat_of_zero_le h0
 have hn : (BitVec.ofInt 64 ((n : Nat) : Int)).toNat = n := by
  rw [BitVec.ofInt_natCast, BitVec.toNat_ofNat]; exact Nat.mod_eq_of_lt (by omega)
 have hle : (BitVec.ofInt 64 v &&& BitVec.ofInt 64 ((n : Nat) : Int)).toNat ≤ 31 := by
  rw [BitVec.toNat_and, hn]; have := @Nat.and_le_right (BitVec.ofInt 64 v).toNat n; omega
 have hb : Go.bits .and .i64 v ((n : Nat) : Int) = ((BitVec.ofInt 64 v &&& BitVec.ofInt 64 ((n : Nat) : Int)).toNat : Int) := wrap_small (n := (BitVec.ofInt 64 v &&& BitVec.ofInt 64 ((n : Nat) : Int)).toNat) (by omega)
 have hz : (BitVec.ofInt 64 v &&& BitVec.ofInt 64 ((n : Nat) : Int)) &&& ~~~(BitVec.ofInt 64 ((n : Nat) : Int)) = (0 : BitVec 64) := by
  rw [BitVec.and_assoc]; simp
 refine ⟨pq.2 ⟨by simp only []; omega, by simp only []; omega⟩, pq.2 ⟨?_, ?_⟩, ?_⟩
 ·simp only []; rw [hb]; omega
 ·simp only []; rw [hb]; omega
 ·simp only []; rw [hb]; unfold fG Go.bits; rw [Ct]; exact congrArg (fun x : BitVec 64 => IntKind.i64.wrap (x.toNat : Int)) hz
theorem Uk (P : uu → Prop) (x13 : List S86) (x14 x15 x17 : Int) (hs : List S66) (w c t : Int) (sq : List (List S27)) (cut : Int) (txt : ByteArray) (vis : List Int) (y0 y1 : Int)
 (ht : txt.size ≤ 100000) (hv : vis.length ≤ 100000) (hq : sq.length ≤ 100000)
 (K : ∀ (q : List S27) (a b : Int), q.length ≤ 4 → (∀ x ∈ q, pm x) → EvI (fun k => af.l1 k x13 x14 (wrap64 (x15 - 1)) a b hs w c t (sq ++ [q]) cut (txt ++ strOfNums [y0]) (vis ++ [x17])) P) :
 ∀ (d : Nat) (q : List S27) (a b : Int), q.length + d ≤ 4 → (∀ x ∈ q, pm x) → EvI (fun k => af.l3 k x13 x14 x15 x17 q (d : Int) a b hs w c t sq cut txt vis y0 y1) P := by
 intro d
 induction d with
 | zero =>
  intro q a b hl hx; refine EvI.step (f := fun k => af.l1 k x13 x14 (wrap64 (x15 - 1)) a b hs w c t (sq ++ [q]) cut (txt ++ strOfNums [y0]) (vis ++ [x17])) (fun k => ?_) (K q a b (by omega) hx); rw [af.l3, if_neg (by omega)]; simp only [Option.bind_some]; have e : (strOfNums [y0]).size = 1 := rfl; rw [if_pos (by omega), if_pos (by simp; omega), if_pos (by simp; omega)]
 | succ d ih =>
  intro q a b hl hx; obtain ⟨u, x, y, hu, h3, h4⟩ := pK a b 32 (by omega) (by omega); obtain ⟨s, x', y', hs', hm⟩ := Cw x y [31, 15, u] (by simp) (by simp)
  have hs0 : 0 ≤ s ∧ s ≤ 31 := by
   simp only [List.mem_cons, List.not_mem_nil, or_false] at hm; omega
  (have e1 : wrap64 (((d + 1 : Nat) : Int) - 1) = (d : Int) := by rw [dY (by omega) (by omega)]; omega); refine EvI.step (f := fun k => af.l3 k x13 x14 x15 x17 (q ++ [⟨s, Go.bits .and .i64 x17 s⟩]) (d : Int) x' y' hs w c t sq cut txt vis y0 y1) (fun k => ?_) (ih _ _ _ (by simp; omega) ?_)
  ·rw [af.l3, if_pos (by omega), hu, Option.bind_some]; simp only []; rw [hs', Option.bind_some]; simp only [Option.bind_some]; rw [if_pos (by simp; omega), e1]
  ·intro z hz; rcases List.mem_append.1 hz with hz | hz
   ·exact hx z hz
   ·rw [List.mem_singleton] at hz; subst hz; exact C8 _ _ hs0.1 hs0.2
theorem RF (P : uu → Prop) (x13 : List S86) (x15 : Int) (hs : List S66) (w c t : Int) (sq : List (List S27)) (cut : Int) (txt : ByteArray) (vis : List Int) (y0 y1 : Int) (m0 : Int) (h0 : 0 ≤ m0) (h1 : m0 ≤ 1000000)
 (K : ∀ (m v a b : Int) (n : Nat), 0 ≤ m → m ≤ m0 + 10 → n ≤ 4 → EvI (fun k => af.l3 k x13 m x15 v [] (n : Int) a b hs w c t sq cut txt vis y0 y1) P) :
 ∀ (d : Nat) (i m v f g a b : Int), i + d = 5 → 0 ≤ i → 0 ≤ m → m ≤ m0 + 2 * i → EvI (fun k => af.l2 k x13 m x15 v f g i a b hs w c t sq cut txt vis y0 y1) P := by
 intro d
 induction d with
 | zero =>
  intro i m v f g a b hi hi0 hm hm1; obtain ⟨n, x, y, hn, hmem⟩ := Cw a b [0, 1, 1, 2, 3] (by simp) (by simp)
  have hn0 : 0 ≤ n ∧ n ≤ 3 := by
   simp only [List.mem_cons, List.not_mem_nil, or_false] at hmem; omega
  obtain ⟨j, rfl⟩ := Int.eq_ofNat_of_zero_le hn0.1; refine EvI.step (f := fun k => af.l3 k x13 m x15 v [] (j : Int) x y hs w c t sq cut txt vis y0 y1) (fun k => ?_) (K m v x y j hm (by omega) (by omega)); rw [af.l2, if_neg (by omega), hn, Option.bind_some]
 | succ d ih =>
  intro i m v f g a b hi hi0 hm hm1
  have J : ∀ (h o : Bool) (a b : Int), EvI (fun k => af.j3 k x13 m x15 v f g i h o a b hs w c t sq cut txt vis y0 y1) P := by
   intro h o a b; have e1 : wrap64 (i + 1) = i + 1 := dY (by omega) (by omega); have e2 : wrap64 (m + 1) = m + 1 := dY (by omega) (by omega); have e3 : wrap64 (m + 1 + 1) = m + 1 + 1 := dY (by omega) (by omega); obtain ⟨p, x, y, hp⟩ := GK a b 1 3 (by omega) (by omega); (have I0 : ∀ (v f g a b : Int), EvI (fun k => af.l2 k x13 m x15 v f g (i + 1) a b hs w c t sq cut txt vis y0 y1) P := fun v f g a b => ih (i + 1) m v f g a b (by omega) (by omega) hm (by omega)); (have I1 : ∀ (v f g a b : Int), EvI (fun k => af.l2 k x13 (m + 1) x15 v f g (i + 1) a b hs w c t sq cut txt vis y0 y1) P := fun v f g a b => ih (i + 1) (m + 1) v f g a b (by omega) (by omega) (by omega) (by omega)); (have I2 : ∀ (v f g a b : Int), EvI (fun k => af.l2 k x13 (m + 1 + 1) x15 v f g (i + 1) a b hs w c t sq cut txt vis y0 y1) P := fun v f g a b => ih (i + 1) (m + 1 + 1) v f g a b (by omega) (by omega) (by omega) (by omega)); refine EvI.step (fun k => by rw [af.j3, e1, e2, e3]) ?_; refine EvI.ite (fun _ => EvI.pos hi0 (EvI.ite (fun _ => I1 ..) (fun _ => EvI.ite (fun _ => EvI.call hp (EvI.ite (fun _ => I2 ..) (fun _ => I1 ..))) (fun _ => I1 ..)))) (fun _ => EvI.ite (fun _ => I0 ..) (fun _ => EvI.ite (fun _ => EvI.call hp (EvI.ite (fun _ => EvI.pos hi0 (I1 ..)) (fun _ => I0 ..))) (fun _ => I0 ..)))
  obtain ⟨p, x, y, hp⟩ := GK a b 1 3 (by omega) (by omega); refine EvI.step (fun k => by rw [af.l2, if_pos (by omega), if_pos hi0]) ?_; exact EvI.ite (fun _ => EvI.ite (fun _ => EvI.call hp (J ..)) (fun _ => J ..)) (fun _ => J ..)
theorem TE (a1 a2 a3 : Int) (x13 : List S86) (hx : 0 < x13.length) (hx' : x13.length ≤ 1000) (hs : List S66) (w c t : Int) (hh : 0 < hs.length ∧ (hs.length : Int) ≤ a1 ∧ ∀ h ∈ hs, nN a2 h) (hw : 0 ≤ w ∧ w ≤ 2) (hc : 0 ≤ c ∧ c ≤ 2) (cut : Int) :
 ∀ (d : Nat) (m a b : Int) (sq : List (List S27)) (txt : ByteArray) (vis : List Int), d ≤ 1000 → 0 ≤ m → m + 10 * d ≤ 100000 → ((sq.length : Int) + d ≤ a3) → (0 < sq.length + d) → txt.size + d ≤ 100000 → vis.length + d ≤ 100000 → sq.length + d ≤ 100000 → (∀ q ∈ sq, q.length ≤ 4 ∧ ∀ x ∈ q, pm x) →
  EvI (fun k => af.l1 k x13 m (d : Int) a b hs w c t sq cut txt vis) (kX a1 a2 a3) := by
 intro d
 induction d with
 | zero =>
  intro m a b sq txt vis hd hm hm1 h3 h4 h5 h6 h7 hq; obtain ⟨n, x, y, hn, hmem⟩ := Cw a b [0, 0, 1, 2] (by simp) (by simp)
  have hn0 : 0 ≤ n ∧ n ≤ 2 := by
   simp only [List.mem_cons, List.not_mem_nil, or_false] at hmem; omega
  refine EvI.step (f := fun k => some (hs, w, c, mn 40 (wrap64 (m + n)), sq, cut, txt, vis, x, y)) (fun k => ?_) (EvI.now ⟨hh, hw, hc, ?_, by simpa using h4, by simp only []; omega, hq⟩)
  ·rw [af.l1, if_neg (by omega), hn, Option.bind_some]
  ·simp only []; rw [dY (by omega) (by omega)]; unfold mn; split <;> omega
 | succ d ih =>
  intro m a b sq txt vis hd hm hm1 h3 h4 h5 h6 h7 hq; obtain ⟨u, x, y, hu, h8, h9⟩ := pK a b (x13.length : Int) (by omega) (by omega); have ew : wrap64 (w + 1) = w + 1 := dY (by omega) (by omega); have ec : wrap64 (c + 1) = c + 1 := dY (by omega) (by omega); obtain ⟨f, x1, y1, hf, _, _⟩ := pK x y (w + 1) (by omega) (by omega); obtain ⟨g, x2, y2, hg, _, _⟩ := pK x1 y1 (c + 1) (by omega) (by omega); refine EvI.step (f := fun k => af.l2 k x13 m ((d + 1 : Nat) : Int) ((aj x13 u).f1) f g 0 x2 y2 hs w c t sq cut txt vis ((aj x13 u).f0) ((aj x13 u).f1)) (fun k => ?_) ?_
  ·rw [af.l1, if_pos (by omega), hu, Option.bind_some]; simp only []; rw [if_pos h8, if_pos h9, ew, hf, Option.bind_some]; simp only []; rw [ec, hg, Option.bind_some]
  refine RF _ x13 _ hs w c t sq cut txt vis _ _ m hm (by omega) (fun m' v a b n hm0 hm1 hn => ?_) 5 0 m _ f g x2 y2 (by omega) (by omega) hm (by omega); refine Uk _ x13 m' _ v hs w c t sq cut txt vis _ _ (by omega) (by omega) (by omega) (fun q a b hq1 hq2 => ?_) n [] a b (by simpa using hn) (fun x hx => absurd hx List.not_mem_nil); (have e1 : wrap64 (((d + 1 : Nat) : Int) - 1) = (d : Int) := by rw [dY (by omega) (by omega)]; omega); rw [e1]; refine ih m' a b (sq ++ [q]) _ _ (by omega) hm0 (by omega) (by simp; omega) (by simp; omega) ?_ (by simp; omega) (by simp; omega) ?_
  ·have : (strOfNums [(aj x13 u).f0]).size = 1 := rfl; rw [ByteArray.size_append]; omega
  ·intro z hz; rcases List.mem_append.1 hz with hz | hz
   ·exact hq z hz
   ·rw [List.mem_singleton] at hz; subst hz; exact ⟨hq1, hq2⟩
theorem RU (a1 a2 a3 : Int) (h2 : 1 ≤ a2) (h2' : a2 ≤ 100) (h3 : 1 ≤ a3) (h3' : a3 ≤ 100) (w c : Int) (hw : 0 ≤ w ∧ w ≤ 2) (hc : 0 ≤ c ∧ c ≤ 2) :
 ∀ (d : Nat) (a b : Int) (hs : List S66), 0 < hs.length + d → (hs.length : Int) + d ≤ a1 → hs.length + d ≤ 1000 → (∀ h ∈ hs, nN a2 h) → EvI (fun k => af.l0 k a2 a3 (d : Int) a b hs w c 0) (kX a1 a2 a3) := by
 intro d
 induction d with
 | zero =>
  intro a b hs h4 h5 h6 hh; obtain ⟨u, x, y, hu, h8, h9⟩ := pK a b (hs.length : Int) (by omega) (by omega); obtain ⟨n, x1, y1, hn, h10, h11⟩ := wL x y 1 a3 h3 (by omega) (by omega); obtain ⟨j, rfl⟩ := Int.eq_ofNat_of_zero_le (show 0 ≤ n by omega)
  have hg := hh (ah hs u) (by
   obtain ⟨i, rfl⟩ := Int.eq_ofNat_of_zero_le h8; rw [FH, List.getD_eq_getElem?_getD, List.getElem?_eq_getElem (by omega)]
   exact List.getElem_mem _)
  refine EvI.step (f := fun k => af.l1 k ((ah hs u).f1) 0 (j : Int) x1 y1 hs w c 0 [] u ⟨#[]⟩ []) (fun k => ?_) ?_
  ·rw [af.l0, if_neg (by omega), hu, Option.bind_some]; simp only []; rw [if_pos h8, if_pos h9, hn, Option.bind_some]
  ·refine TE a1 a2 a3 _ hg.2.2.2.2.1 (by have := hg.2.2.2.2.2; omega) hs w c 0 ⟨by omega, by omega, hh⟩ hw hc u j 0 x1 y1 [] _ [] (by omega) (by omega) (by omega) (by simp; omega) (by simp; omega) ?_ (by simp; omega) (by simp; omega) (fun q hq => absurd hq List.not_mem_nil); have : (ByteArray.mk #[]).size = 0 := rfl; omega
 | succ d ih =>
  intro a b hs h4 h5 h6 hh; (have e1 : wrap64 (((d + 1 : Nat) : Int) - 1) = (d : Int) := by rw [dY (by omega) (by omega)]; omega); refine EvI.step (fun k => by rw [af.l0, if_pos (by omega), e1]) ?_; refine EvI.bind (FL a b a2 h2 h2') (fun r hr => ?_); refine EvI.call rfl (EvI.pos ?_ ?_)
  ·simp; omega
  ·refine ih _ _ _ (by simp; omega) (by simp; omega) (by simp; omega) (fun h hm => ?_); rcases List.mem_append.1 hm with hm | hm
   ·exact hh h hm
   ·rw [List.mem_singleton] at hm; subst hm; exact hr
theorem ace (a b a1 a2 a3 : Int) (h1 : 1 ≤ a1) (h1' : a1 ≤ 100) (h2 : 1 ≤ a2) (h2' : a2 ≤ 100) (h3 : 1 ≤ a3) (h3' : a3 ≤ 100) : EvI (fun k => af.f k a b a1 a2 a3) (kX a1 a2 a3) := by
 obtain ⟨w, x, y, hw, h4, h5⟩ := pK a b 3 (by omega) (by omega); obtain ⟨c, x1, y1, hc, h6, h7⟩ := pK x y 3 (by omega) (by omega); obtain ⟨n, x2, y2, hn, h8, h9⟩ := wL x1 y1 1 a1 h1 (by omega) (by omega); obtain ⟨j, rfl⟩ := Int.eq_ofNat_of_zero_le (show 0 ≤ n by omega); simp only [af.f]; refine EvI.call hw (EvI.call hc (EvI.call hn ?_)); exact RU a1 a2 a3 h2 h2' h3 h3' w c (by omega) (by omega) j x2 y2 [] (by simp; omega) (by simp; omega) (by simp; omega) (fun h hm => absurd hm List.not_mem_nil)
theorem wM {m : Int} (hm : m ≤ 8) : ∀ {l : List S66}, (∀ h ∈ l, nN m h) → mZ l = 0
 | [], _ => rfl
 | h :: r, hh => by
  rw [mZ, if_pos ((hh h List.mem_cons_self).valid hm)]; exact wM hm fun x hx => hh x (List.mem_cons_of_mem _ hx)
theorem zy : ∀ {l : List S27}, (∀ x ∈ l, pm x) → qc l = 0
 | [], _ => rfl
 | x :: r, hh => by
  have h := hh x List.mem_cons_self; rw [qc, if_pos ⟨h.1, h.2.1⟩, if_pos h.2.2]; exact zy fun x hx => hh x (List.mem_cons_of_mem _ hx)
theorem yg : ∀ {l : List (List S27)}, (∀ q ∈ l, q.length ≤ 4 ∧ ∀ x ∈ q, pm x) → mi l = 0
 | [], _ => rfl
 | q :: r, hh => by
  have h := hh q List.mem_cons_self; rw [mi, if_neg (by omega), if_pos (zy h.2)]; exact yg fun x hx => hh x (List.mem_cons_of_mem _ hx)
theorem kX.check {a1 a2 a3 : Int} {r : uu} (h : kX a1 a2 a3 r) (h1 : a1 ≤ 4) (h2 : a2 ≤ 8) (h3 : a3 ≤ 8) {t : Int} (h4 : 0 ≤ t) (h5 : t ≤ 40) {sq : List (List S27)} (h6 : sq.length = r.2.2.2.2.1.length) (h7 : ∀ q ∈ sq, q.length ≤ 4 ∧ ∀ x ∈ q, pm x) : kG r.1 r.2.1 r.2.2.1 t sq = 0 := by
 obtain ⟨⟨g1, g2, g3⟩, g4, g5, g6, g7, g8, g9⟩ := h; rw [kG, if_neg (by omega), if_neg (by omega), if_pos (wM h2 g3), if_pos ⟨pq.2 (by omega), pq.2 (by omega), pq.2 (by omega)⟩, if_neg (by omega), if_neg (by omega)]; exact yg h7
set_option maxRecDepth 100000
theorem zo : ∀ a b : Fin 32, Go.bits .and .i64 (a.1 : Int) (b.1 : Int) = ((a.1 &&& b.1 : Nat) : Int) := by decide +kernel
theorem NV : ∀ a b : Fin 32, Go.bits .or .i64 (a.1 : Int) (b.1 : Int) = ((a.1 ||| b.1 : Nat) : Int) := by decide +kernel
theorem zw : ∀ a b : Fin 32, fG (a.1 : Int) (b.1 : Int) = ((a.1 &&& (31 ^^^ b.1) : Nat) : Int) := by decide +kernel
def pop (a : Nat) : Nat := (a.testBit 0).toNat + (a.testBit 1).toNat + (a.testBit 2).toNat + (a.testBit 3).toNat + (a.testBit 4).toNat
theorem uU : ∀ a : Fin 32, lv (a.1 : Int) = (pop a.1 : Int) := by decide +kernel
def lost (s v : Nat) : Nat := pop (s &&& (31 ^^^ v))
def made (s v : Nat) : Nat := pop (v &&& (31 ^^^ s))
theorem K7 : ∀ s v h : Fin 32, pop ((s.1 &&& h.1) &&& (31 ^^^ (v.1 &&& h.1))) ≤ lost s.1 v.1 ∧ pop ((v.1 &&& h.1) &&& (31 ^^^ s.1)) ≤ made s.1 v.1 := by decide +kernel
theorem Rb : ∀ (s : Fin 32) (i : Fin 5), Go.bits .and .i64 (shr .i64 (s.1 : Int) (i.1 : Int)) 1 = (if s.1.testBit i.1 then 1 else 0) := by decide +kernel
theorem Q3 : ∀ (i : Fin 5), shl .i64 1 (i.1 : Int) = ((2 ^ i.1 : Nat) : Int) := by decide +kernel
def Agree (s v i : Nat) : Bool := (s ^^^ v) / 2 ^ i == 0
theorem Le : ∀ (s v : Fin 32) (i : Fin 5), Agree s.1 v.1 i.1 = true → s.1.testBit i.1 = true → 2 ^ i.1 ≤ v.1 ∧ Agree s.1 (v.1 - 2 ^ i.1) (i.1 + 1) = true ∧ lost s.1 (v.1 - 2 ^ i.1) = lost s.1 v.1 + 1 ∧ made s.1 (v.1 - 2 ^ i.1) = made s.1 v.1 := by decide +kernel
theorem KA : ∀ (s v : Fin 32) (i : Fin 5), Agree s.1 v.1 i.1 = true → s.1.testBit i.1 = false → v.1 + 2 ^ i.1 < 32 ∧ Agree s.1 (v.1 + 2 ^ i.1) (i.1 + 1) = true ∧ lost s.1 (v.1 + 2 ^ i.1) = lost s.1 v.1 ∧ made s.1 (v.1 + 2 ^ i.1) = made s.1 v.1 + 1 := by decide +kernel
theorem Lh : ∀ (s v : Fin 32) (i : Fin 5), Agree s.1 v.1 i.1 = true → Agree s.1 v.1 (i.1 + 1) = true := by decide +kernel
theorem Hl : ∀ s : Fin 32, Agree s.1 s.1 0 = true ∧ lost s.1 s.1 = 0 ∧ made s.1 s.1 = 0 := by decide +kernel
theorem MV : ∀ a b : Fin 32, a.1 ||| b.1 < 32 := by decide +kernel
theorem XR : ∀ a b c : Fin 32, a.1 &&& b.1 = a.1 → a.1 &&& (b.1 ||| c.1) = a.1 := by decide +kernel
theorem Tq : ∀ a b : Fin 32, a.1 &&& (b.1 ||| a.1) = a.1 := by decide +kernel
theorem XB : ∀ v a b : Fin 32, (v.1 &&& a.1) ||| (v.1 &&& b.1) = v.1 &&& (a.1 ||| b.1) := by decide +kernel
theorem Ra : ∀ v h x : Fin 32, x.1 &&& h.1 = x.1 → (v.1 &&& h.1) &&& x.1 = v.1 &&& x.1 := by decide +kernel
theorem sj : ∀ a : Fin 32, pop a.1 ≤ 5 := by decide +kernel
def uC (v : Nat) (x : S27) : Prop := ∃ a : Nat, a < 32 ∧ x = ⟨(a : Int), ((v &&& a : Nat) : Int)⟩
theorem uC.ok {v : Nat} (hv : v < 32) {x : S27} (h : uC v x) : pm x := by
 obtain ⟨a, ha, rfl⟩ := h; have := C8 (v : Int) (a : Int) (by omega) (by omega); rw [zo ⟨v, hv⟩ ⟨a, ha⟩] at this; exact this
def bY (sh : List S86) (k : Nat) : Nat := (sh.getD k z86).f1.toNat
def M3 (W S : Int) (sh : List S86) (q : List S27) (m c : Int) : Prop :=
 ∃ k v : Nat, k < sh.length ∧ v < 32 ∧ (∀ x ∈ q, uC v x) ∧ (lost (bY sh k) v : Int) ≤ W ∧ (made (bY sh k) v : Int) ≤ S ∧ ((lost (bY sh k) v : Int) + (made (bY sh k) v : Int)) ≤ m ∧ (sh.getD k z86).f0 = c
def xO (W S : Int) (sh : List S86) (sq : List (List S27)) (ms cs : List Int) : Prop := ms.length = sq.length ∧ cs.length = sq.length ∧ ∀ i (h : i < sq.length), M3 W S sh sq[i] (ms.getD i 0) (cs.getD i 0)
theorem xO.snoc {W S : Int} {sh : List S86} {sq : List (List S27)} {ms cs : List Int} (h : xO W S sh sq ms cs) {q : List S27} {m c : Int} (hq : M3 W S sh q m c) : xO W S sh (sq ++ [q]) (ms ++ [m]) (cs ++ [c]) := by
 obtain ⟨h1, h0, h2⟩ := h; refine ⟨by simp [h1], by simp [h0], fun i hi => ?_⟩; by_cases hi' : i < sq.length
 ·have e1 : (sq ++ [q])[i] = sq[i] := List.getElem_append_left hi'; (have e2 : (ms ++ [m]).getD i 0 = ms.getD i 0 := by simp [List.getD_eq_getElem?_getD, List.getElem?_append_left (show i < ms.length by omega)]); (have e3 : (cs ++ [c]).getD i 0 = cs.getD i 0 := by simp [List.getD_eq_getElem?_getD, List.getElem?_append_left (show i < cs.length by omega)]); rw [e1, e2, e3]; exact h2 i hi'
 ·(have e : i = sq.length := by simp at hi; omega); subst e; (have e1 : (sq ++ [q])[sq.length] = q := by simp); (have e2 : (ms ++ [m]).getD sq.length 0 = m := by rw [← h1]; simp [List.getD_eq_getElem?_getD]); (have e3 : (cs ++ [c]).getD sq.length 0 = c := by rw [← h0]; simp [List.getD_eq_getElem?_getD]); rw [e1, e2, e3]; exact hq
def Ff (sq : List (List S27)) (vis : List Int) : Prop := vis.length = sq.length ∧ ∀ i (h : i < sq.length), ∃ v : Nat, v < 32 ∧ vis.getD i 0 = (v : Int) ∧ ∀ x ∈ sq[i], uC v x
theorem Ff.snoc {sq : List (List S27)} {vis : List Int} (h : Ff sq vis) {q : List S27} {v : Nat} (hv : v < 32) (hq : ∀ x ∈ q, uC v x) : Ff (sq ++ [q]) (vis ++ [(v : Int)]) := by
 obtain ⟨h1, h2⟩ := h; refine ⟨by simp [h1], fun i hi => ?_⟩; by_cases hi' : i < sq.length
 ·have e1 : (sq ++ [q])[i] = sq[i] := List.getElem_append_left hi'; (have e2 : (vis ++ [(v : Int)]).getD i 0 = vis.getD i 0 := by simp [List.getD_eq_getElem?_getD, List.getElem?_append_left (show i < vis.length by omega)]); rw [e1, e2]; exact h2 i hi'
 ·(have e : i = sq.length := by simp at hi; omega); subst e; (have e1 : (sq ++ [q])[sq.length] = q := by simp); (have e2 : (vis ++ [(v : Int)]).getD sq.length 0 = v := by rw [← h1]; simp [List.getD_eq_getElem?_getD]); rw [e1]; exact ⟨v, hv, e2, hq⟩
def yZ (r : uu) : Prop := 0 ≤ r.2.2.2.2.2.1 ∧ r.2.2.2.2.2.1 < (r.1.length : Int) ∧ ∃ ms cs : List Int, xO r.2.1 r.2.2.1 (ah r.1 r.2.2.2.2.2.1).f1 r.2.2.2.2.1 ms cs ∧ ms.sum ≤ r.2.2.2.1 ∧ r.2.2.2.2.2.2.1 = strOfNums cs ∧ Ff r.2.2.2.2.1 r.2.2.2.2.2.2.2.1
theorem IA (l : List Int) (y : Int) : strOfNums (l ++ [y]) = strOfNums l ++ strOfNums [y] := ByteArray.ext (by rw [ByteArray.data_append]; simp [strOfNums])
theorem Ro (P : uu → Prop) (x13 : List S86) (x14 x15 : Int) (v : Nat) (hv32 : v < 32) (hs : List S66) (w c t : Int) (sq : List (List S27)) (cut : Int) (txt : ByteArray) (vis : List Int) (y0 y1 : Int)
 (ht : txt.size ≤ 100000) (hv : vis.length ≤ 100000) (hq : sq.length ≤ 100000)
 (K : ∀ (q : List S27) (a b : Int), q.length ≤ 4 → (∀ x ∈ q, uC v x) → EvI (fun k => af.l1 k x13 x14 (wrap64 (x15 - 1)) a b hs w c t (sq ++ [q]) cut (txt ++ strOfNums [y0]) (vis ++ [(v : Int)])) P) :
 ∀ (d : Nat) (q : List S27) (a b : Int), q.length + d ≤ 4 → (∀ x ∈ q, uC v x) → EvI (fun k => af.l3 k x13 x14 x15 (v : Int) q (d : Int) a b hs w c t sq cut txt vis y0 y1) P := by
 intro d
 induction d with
 | zero =>
  intro q a b hl hx; refine EvI.step (f := fun k => af.l1 k x13 x14 (wrap64 (x15 - 1)) a b hs w c t (sq ++ [q]) cut (txt ++ strOfNums [y0]) (vis ++ [(v : Int)])) (fun k => ?_) (K q a b (by omega) hx); rw [af.l3, if_neg (by omega)]; simp only [Option.bind_some]; have e : (strOfNums [y0]).size = 1 := rfl; rw [if_pos (by omega), if_pos (by simp; omega), if_pos (by simp; omega)]
 | succ d ih =>
  intro q a b hl hx; obtain ⟨u, x, y, hu, h3, h4⟩ := pK a b 32 (by omega) (by omega); obtain ⟨s, x', y', hs', hm⟩ := Cw x y [31, 15, u] (by simp) (by simp)
  have hs0 : 0 ≤ s ∧ s ≤ 31 := by
   simp only [List.mem_cons, List.not_mem_nil, or_false] at hm; omega
  obtain ⟨n, rfl⟩ := Int.eq_ofNat_of_zero_le hs0.1; (have e1 : wrap64 (((d + 1 : Nat) : Int) - 1) = (d : Int) := by rw [dY (by omega) (by omega)]; omega); refine EvI.step (f := fun k => af.l3 k x13 x14 x15 (v : Int) (q ++ [⟨(n : Int), Go.bits .and .i64 (v : Int) (n : Int)⟩]) (d : Int) x' y' hs w c t sq cut txt vis y0 y1) (fun k => ?_) (ih _ _ _ (by simp; omega) ?_)
  ·rw [af.l3, if_pos (by omega), hu, Option.bind_some]; simp only []; rw [hs', Option.bind_some]; simp only [Option.bind_some]; rw [if_pos (by simp; omega), e1]
  ·intro z hz; rcases List.mem_append.1 hz with hz | hz
   ·exact hx z hz
   ·rw [List.mem_singleton] at hz; subst hz; exact ⟨n, by omega, by rw [zo ⟨v, hv32⟩ ⟨n, by omega⟩]⟩
theorem TP (P : uu → Prop) (x13 : List S86) (x15 : Int) (hs : List S66) (w c t : Int) (sq : List (List S27)) (cut : Int) (txt : ByteArray) (vis : List Int) (y0 : Int) (s : Nat) (hs32 : s < 32) (m0 w0 c0 : Int) (h0 : 0 ≤ m0) (h1 : m0 ≤ 1000000) (hw0 : w0 ≤ 100) (hc0 : c0 ≤ 100)
 (K : ∀ (v : Nat) (a b : Int) (n : Nat), v < 32 → (lost s v : Int) ≤ w0 → (made s v : Int) ≤ c0 → n ≤ 4 → EvI (fun k => af.l3 k x13 (m0 + (lost s v : Int) + (made s v : Int)) x15 (v : Int) [] (n : Int) a b hs w c t sq cut txt vis y0 (s : Int)) P) :
 ∀ (d i v : Nat) (a b : Int), i + d = 5 → v < 32 → Agree s v i = true → (lost s v : Int) ≤ w0 → (made s v : Int) ≤ c0 →
  EvI (fun k => af.l2 k x13 (m0 + (lost s v : Int) + (made s v : Int)) x15 (v : Int) (w0 - (lost s v : Int)) (c0 - (made s v : Int)) (i : Int) a b hs w c t sq cut txt vis y0 (s : Int)) P := by
 intro d
 induction d with
 | zero =>
  intro i v a b hi hv ha hl hm; obtain ⟨n, x, y, hn, hmem⟩ := Cw a b [0, 1, 1, 2, 3] (by simp) (by simp)
  have hn0 : 0 ≤ n ∧ n ≤ 3 := by
   simp only [List.mem_cons, List.not_mem_nil, or_false] at hmem; omega
  obtain ⟨j, rfl⟩ := Int.eq_ofNat_of_zero_le hn0.1; refine EvI.step (f := fun k => af.l3 k x13 (m0 + (lost s v : Int) + (made s v : Int)) x15 (v : Int) [] (j : Int) x y hs w c t sq cut txt vis y0 (s : Int)) (fun k => ?_) (K v x y j hv hl hm (by omega)); rw [af.l2, if_neg (by omega), hn, Option.bind_some]
 | succ d ih =>
  intro i v a b hi hv ha hl hm; (have hi5 : i < 5 := by omega); (have e1 : wrap64 ((i : Int) + 1) = ((i + 1 : Nat) : Int) := by rw [dY (by omega) (by omega)]; omega); have esh := Q3 ⟨i, hi5⟩; have ehas := Rb ⟨s, hs32⟩ ⟨i, hi5⟩; simp only [] at esh ehas; have same := Lh ⟨s, hs32⟩ ⟨v, hv⟩ ⟨i, hi5⟩ ha; obtain ⟨p, x, y, hp⟩ := GK a b 1 3 (by omega) (by omega); have I0 : ∀ (a b : Int), EvI (fun k => af.l2 k x13 (m0 + (lost s v : Int) + (made s v : Int)) x15 (v : Int) (w0 - (lost s v : Int)) (c0 - (made s v : Int)) ((i + 1 : Nat) : Int) a b hs w c t sq cut txt vis y0 (s : Int)) P := fun a b => ih (i + 1) v a b (by omega) hv same hl hm
  cases hb : s.testBit i with
  | true =>
   rw [hb, if_pos rfl] at ehas; obtain ⟨g1, g2, g3, g4⟩ := Le ⟨s, hs32⟩ ⟨v, hv⟩ ⟨i, hi5⟩ ha hb; simp only [] at g1 g2 g3 g4; generalize hz : 2 ^ i = z at g1 g2 g3 g4 esh; have hz1 : 1 ≤ z := by rw [← hz]; exact Nat.one_le_two_pow
   have JF : ∀ (a b : Int), EvI (fun k => af.j3 k x13 (m0 + (lost s v : Int) + (made s v : Int)) x15 (v : Int) (w0 - (lost s v : Int)) (c0 - (made s v : Int)) (i : Int) true false a b hs w c t sq cut txt vis y0 (s : Int)) P := fun a b => by
    refine EvI.step (fun k => ?_) (I0 a b); rw [af.j3, if_neg (by simp), if_pos rfl, e1]
   have JT : (lost s v : Int) < w0 → ∀ (a b : Int), EvI (fun k => af.j3 k x13 (m0 + (lost s v : Int) + (made s v : Int)) x15 (v : Int) (w0 - (lost s v : Int)) (c0 - (made s v : Int)) (i : Int) true true a b hs w c t sq cut txt vis y0 (s : Int)) P := fun hlt a b => by
    have q := ih (i + 1) (v - z) a b (by omega) (by omega) g2 (by rw [g3]; push_cast; omega) (by rw [g4]; exact hm); (have e2 : wrap64 (m0 + (lost s v : Int) + (made s v : Int) + 1) = m0 + (lost s (v - z) : Int) + (made s (v - z) : Int) := by rw [dY (by omega) (by omega), g3, g4]; push_cast; omega); (have e3 : wrap64 ((v : Int) - (z : Int)) = ((v - z : Nat) : Int) := by rw [dY (by omega) (by omega)]; omega); (have e4 : wrap64 (w0 - (lost s v : Int) - 1) = w0 - (lost s (v - z) : Int) := by rw [dY (by omega) (by omega), g3]; push_cast; omega); refine EvI.step (fun k => ?_) q; rw [af.j3, if_pos rfl, if_pos (by omega), if_pos rfl, e1, e2, esh, e3, e4, g4]
   by_cases hf : w0 - (lost s v : Int) > 0
   ·cases p with
    | false =>
     refine EvI.step (fun k => ?_) (JF x y); rw [af.l2, if_pos (by omega), if_pos (by omega), if_pos ehas, if_pos hf, hp, Option.bind_some, ehas]; rfl
    | true =>
     refine EvI.step (fun k => ?_) (JT (by omega) x y); rw [af.l2, if_pos (by omega), if_pos (by omega), if_pos ehas, if_pos hf, hp, Option.bind_some, ehas]; rfl
   ·refine EvI.step (fun k => ?_) (JF a b); rw [af.l2, if_pos (by omega), if_pos (by omega), if_pos ehas, if_neg hf, ehas]; rfl
  | false =>
   rw [hb, if_neg (by simp)] at ehas; obtain ⟨g1, g2, g3, g4⟩ := KA ⟨s, hs32⟩ ⟨v, hv⟩ ⟨i, hi5⟩ ha hb; simp only [] at g1 g2 g3 g4; generalize hz : 2 ^ i = z at g1 g2 g3 g4 esh; have hz1 : 1 ≤ z := by rw [← hz]; exact Nat.one_le_two_pow
   have J : EvI (fun k => af.j3 k x13 (m0 + (lost s v : Int) + (made s v : Int)) x15 (v : Int) (w0 - (lost s v : Int)) (c0 - (made s v : Int)) (i : Int) false false a b hs w c t sq cut txt vis y0 (s : Int)) P := by
    by_cases hg : c0 - (made s v : Int) > 0
    ·cases p with
     | false =>
      refine EvI.step (fun k => ?_) (I0 x y); rw [af.j3, if_neg (by simp), if_neg (by simp), if_pos hg, hp, Option.bind_some, if_neg (by simp), e1]
     | true =>
      have q := ih (i + 1) (v + z) x y (by omega) g1 g2 (by rw [g3]; exact hl) (by rw [g4]; push_cast; omega); (have e2 : wrap64 (m0 + (lost s v : Int) + (made s v : Int) + 1) = m0 + (lost s (v + z) : Int) + (made s (v + z) : Int) := by rw [dY (by omega) (by omega), g3, g4]; push_cast; omega); (have e3 : wrap64 ((v : Int) + (z : Int)) = ((v + z : Nat) : Int) := by rw [dY (by omega) (by omega)]; omega); (have e4 : wrap64 (c0 - (made s v : Int) - 1) = c0 - (made s (v + z) : Int) := by rw [dY (by omega) (by omega), g4]; push_cast; omega); refine EvI.step (fun k => ?_) q; rw [af.j3, if_neg (by simp), if_neg (by simp), if_pos hg, hp, Option.bind_some, if_pos rfl, if_pos (by omega), e1, e2, esh, e3, e4, g3]
    ·refine EvI.step (fun k => ?_) (I0 a b); rw [af.j3, if_neg (by simp), if_neg (by simp), if_neg hg, e1]
   refine EvI.step (fun k => ?_) J; rw [af.l2, if_pos (by omega), if_pos (by omega), if_neg (by rw [ehas]; decide), ehas]; rfl
theorem Nl (ms : List Int) (m : Int) : (ms ++ [m]).sum = ms.sum + m := by simp [List.sum_append]
theorem QB (a1 a2 a3 : Int) (sh : List S86) (hx : 0 < sh.length) (hx' : sh.length ≤ 1000) (hasc : Asc sh) (hs : List S66) (w c t : Int) (hh : 0 < hs.length ∧ (hs.length : Int) ≤ a1 ∧ ∀ h ∈ hs, nN a2 h) (hw : 0 ≤ w ∧ w ≤ 2) (hc : 0 ≤ c ∧ c ≤ 2) (cut : Int) (hcut0 : 0 ≤ cut) (hcut1 : cut < (hs.length : Int)) (hsh : (ah hs cut).f1 = sh) (h8 : a3 ≤ 8) :
 ∀ (d : Nat) (m a b : Int) (sq : List (List S27)) (txt : ByteArray) (vis : List Int) (ms cs : List Int), 0 ≤ m → ms.sum ≤ m → m ≤ 4 * sq.length → ((sq.length : Int) + d ≤ a3) → (0 < sq.length + d) → txt.size + d ≤ 1000 → vis.length + d ≤ 1000 → (∀ q ∈ sq, q.length ≤ 4 ∧ ∀ x ∈ q, pm x) → xO w c sh sq ms cs → txt = strOfNums cs → Ff sq vis →
  EvI (fun k => af.l1 k sh m (d : Int) a b hs w c t sq cut txt vis) (fun r => kX a1 a2 a3 r ∧ yZ r) := by
 intro d
 induction d with
 | zero =>
  intro m a b sq txt vis ms cs hm hms hm1 h3 h4 h5 h6 hq hT htx hvs; obtain ⟨n, x, y, hn, hmem⟩ := Cw a b [0, 0, 1, 2] (by simp) (by simp)
  have hn0 : 0 ≤ n ∧ n ≤ 2 := by
   simp only [List.mem_cons, List.not_mem_nil, or_false] at hmem; omega
  (have et : mn 40 (wrap64 (m + n)) = mn 40 (m + n) := by rw [dY (by omega) (by omega)]); refine EvI.step (f := fun k => some (hs, w, c, mn 40 (m + n), sq, cut, txt, vis, x, y)) (fun k => ?_) (EvI.now ⟨⟨hh, hw, hc, ?_, by simpa using h4, by simp only []; omega, hq⟩, hcut0, hcut1, ms, cs, ?_, ?_, htx, hvs⟩)
  ·rw [af.l1, if_neg (by omega), hn, Option.bind_some, et]
  ·simp only []; unfold mn; split <;> omega
  ·simp only []; rw [hsh]; exact hT
  ·simp only []; unfold mn; split <;> omega
 | succ d ih =>
  intro m a b sq txt vis ms cs hm hms hm1 h3 h4 h5 h6 hq hT htx hvs; obtain ⟨u, x, y, hu, h9, h10⟩ := pK a b (sh.length : Int) (by omega) (by omega); have ew : wrap64 (w + 1) = w + 1 := dY (by omega) (by omega); have ec : wrap64 (c + 1) = c + 1 := dY (by omega) (by omega); obtain ⟨f, x1, y1, hf, hf0, hf1⟩ := pK x y (w + 1) (by omega) (by omega); obtain ⟨g, x2, y2, hg, hg0, hg1⟩ := pK x1 y1 (c + 1) (by omega) (by omega); obtain ⟨i, rfl⟩ := Int.eq_ofNat_of_zero_le h9; have hi : i < sh.length := by omega
  have hmem : sh.getD i z86 ∈ sh := by
   rw [List.getD_eq_getElem?_getD, List.getElem?_eq_getElem hi]; exact List.getElem_mem _
  have hst := hasc.1 _ hmem; (have hs32 : bY sh i < 32 := by unfold bY; omega); (have es : (sh.getD i z86).f1 = (bY sh i : Int) := by unfold bY; omega); have hself := Hl ⟨bY sh i, hs32⟩; simp only [] at hself; refine EvI.step (f := fun k => af.l2 k sh (m + (lost (bY sh i) (bY sh i) : Int) + (made (bY sh i) (bY sh i) : Int)) ((d + 1 : Nat) : Int) (bY sh i : Int) (f - (lost (bY sh i) (bY sh i) : Int)) (g - (made (bY sh i) (bY sh i) : Int)) ((0 : Nat) : Int) x2 y2 hs w c t sq cut txt vis ((sh.getD i z86).f0) (bY sh i : Int)) (fun k => ?_) ?_
  ·rw [af.l1, if_pos (by omega), hu, Option.bind_some]; simp only []; rw [if_pos h9, if_pos h10, ew, hf, Option.bind_some]; simp only []; rw [ec, hg, Option.bind_some, Ak, es, hself.2.1, hself.2.2]; simp
  refine TP _ sh _ hs w c t sq cut txt vis _ (bY sh i) hs32 m f g hm (by omega) (by omega) (by omega) (fun v a b n hv hl hm' hn => ?_) 5 0 (bY sh i) x2 y2 (by omega) hs32 hself.1 (by rw [hself.2.1]; exact hf0) (by rw [hself.2.2]; exact hg0); refine Ro _ sh _ _ v hv hs w c t sq cut txt vis _ _ (by omega) (by omega) (by omega) (fun q a b hq1 hq2 => ?_) n [] a b (by simpa using hn) (fun x hx => absurd hx List.not_mem_nil); (have e1 : wrap64 (((d + 1 : Nat) : Int) - 1) = (d : Int) := by rw [dY (by omega) (by omega)]; omega); rw [e1]; refine ih _ a b (sq ++ [q]) _ _ (ms ++ [(lost (bY sh i) v : Int) + (made (bY sh i) v : Int)]) (cs ++ [(sh.getD i z86).f0]) (by omega) (by rw [Nl]; omega) (by simp; omega) (by simp; omega) (by simp; omega) ?_ (by simp; omega) ?_ (hT.snoc ⟨i, v, hi, hv, hq2, by omega, by omega, Int.le_refl _, rfl⟩) (by rw [htx, IA]) (hvs.snoc hv hq2)
  ·have : (strOfNums [(sh.getD i z86).f0]).size = 1 := rfl; rw [ByteArray.size_append]; omega
  ·intro z hz; rcases List.mem_append.1 hz with hz | hz
   ·exact hq z hz
   ·rw [List.mem_singleton] at hz; subst hz; exact ⟨hq1, fun x hx => (hq2 x hx).ok hv⟩
theorem QP (a1 a2 a3 : Int) (h2 : 1 ≤ a2) (h2' : a2 ≤ 100) (h3 : 1 ≤ a3) (h3' : a3 ≤ 8) (w c : Int) (hw : 0 ≤ w ∧ w ≤ 2) (hc : 0 ≤ c ∧ c ≤ 2) :
 ∀ (d : Nat) (a b : Int) (hs : List S66), 0 < hs.length + d → (hs.length : Int) + d ≤ a1 → hs.length + d ≤ 1000 → (∀ h ∈ hs, nN a2 h) → EvI (fun k => af.l0 k a2 a3 (d : Int) a b hs w c 0) (fun r => kX a1 a2 a3 r ∧ yZ r) := by
 intro d
 induction d with
 | zero =>
  intro a b hs h4 h5 h6 hh; obtain ⟨u, x, y, hu, h8, h9⟩ := pK a b (hs.length : Int) (by omega) (by omega); obtain ⟨n, x1, y1, hn, h10, h11⟩ := wL x y 1 a3 h3 (by omega) (by omega); obtain ⟨j, rfl⟩ := Int.eq_ofNat_of_zero_le (show 0 ≤ n by omega)
  have hg := hh (ah hs u) (by
   obtain ⟨i, rfl⟩ := Int.eq_ofNat_of_zero_le h8; rw [FH, List.getD_eq_getElem?_getD, List.getElem?_eq_getElem (by omega)]
   exact List.getElem_mem _)
  refine EvI.step (f := fun k => af.l1 k ((ah hs u).f1) 0 (j : Int) x1 y1 hs w c 0 [] u ⟨#[]⟩ []) (fun k => ?_) ?_
  ·rw [af.l0, if_neg (by omega), hu, Option.bind_some]; simp only []; rw [if_pos h8, if_pos h9, hn, Option.bind_some]
  ·refine QB a1 a2 a3 _ hg.2.2.2.2.1 (by have := hg.2.2.2.2.2; omega) hg.2.2.2.1 hs w c 0 ⟨by omega, by omega, hh⟩ hw hc u h8 h9 rfl h3' j 0 x1 y1 [] _ [] [] [] (by omega) (by simp) (by simp) (by simp; omega) (by simp; omega) ?_ (by simp; omega) (fun q hq => absurd hq List.not_mem_nil) ⟨rfl, rfl, fun i hi => absurd hi (by simp)⟩ rfl ⟨rfl, fun i hi => absurd hi (by simp)⟩; have : (ByteArray.mk #[]).size = 0 := rfl; omega
 | succ d ih =>
  intro a b hs h4 h5 h6 hh; (have e1 : wrap64 (((d + 1 : Nat) : Int) - 1) = (d : Int) := by rw [dY (by omega) (by omega)]; omega); refine EvI.step (fun k => by rw [af.l0, if_pos (by omega), e1]) ?_; refine EvI.bind (FL a b a2 h2 h2') (fun r hr => ?_); refine EvI.call rfl (EvI.pos ?_ ?_)
  ·simp; omega
  ·refine ih _ _ _ (by simp; omega) (by simp; omega) (by simp; omega) (fun h hm => ?_); rcases List.mem_append.1 hm with hm | hm
   ·exact hh h hm
   ·rw [List.mem_singleton] at hm; subst hm; exact hr
theorem QX (a b a1 a2 a3 : Int) (h1 : 1 ≤ a1) (h1' : a1 ≤ 100) (h2 : 1 ≤ a2) (h2' : a2 ≤ 100) (h3 : 1 ≤ a3) (h3' : a3 ≤ 8) : EvI (fun k => af.f k a b a1 a2 a3) (fun r => kX a1 a2 a3 r ∧ yZ r) := by
 obtain ⟨w, x, y, hw, h4, h5⟩ := pK a b 3 (by omega) (by omega); obtain ⟨c, x1, y1, hc, h6, h7⟩ := pK x y 3 (by omega) (by omega); obtain ⟨n, x2, y2, hn, h8, h9⟩ := wL x1 y1 1 a1 h1 (by omega) (by omega); obtain ⟨j, rfl⟩ := Int.eq_ofNat_of_zero_le (show 0 ≤ n by omega); simp only [af.f]; refine EvI.call hw (EvI.call hc (EvI.call hn ?_)); exact QP a1 a2 a3 h2 h2' h3 h3' w c (by omega) (by omega) j x2 y2 [] (by simp; omega) (by simp; omega) (by simp; omega) (fun h hm => absurd hm List.not_mem_nil)
end Go.Proofs.Ytihedeofkhapiaa.Pr
end
section
namespace Go.Proofs.Ytihedeofkhapiaa.Pr
open Go.RowKit Go.Proofs.YtihedeofkhapiaaW.PrintWords Go.Proofs.YtihedeofkhapiaaW.PrintLast Go.Proofs.YtihedeofkhapiaaW.PrintMore
attribute [local go_sem] ol nV qa qb mK mF oq om
def bG.l0 : Nat → Int → List Int → Int → Int → Option (Int)
 | 0, _, _, _, _ => none
 | k + 1, x0, x7, x8, x9 => if x9 < x8 then (if 0 ≤ x9 then (if x9 < (x7.length : Int) then (bG.l0 k (mn x0 (rd x7 x9)) x7 x8 (wrap64 (x9 + 1))) else (none)) else (none)) else (some x0)
def bG.f (k : Nat) (a0 : Int) (l1 : List Int) : Option (Int) := bG.l0 k a0 l1 (l1.length : Int) 0
theorem bG.fO : ∀ k, (∀ y0 y1 y2 y3, LeO (bG.l0 k y0 y1 y2 y3) (bG.l0 (k + 1) y0 y1 y2 y3))
 | 0 => fun _ _ _ _ r h => by simp [bG.l0] at h
 | k + 1 => by
  have ih0 := bG.fO k
  ·intro y0 y1 y2 y3; unfold bG.l0
   repeat' first | (with_reducible exact ih0 _ _ _ _) | (with_reducible exact LeO.refl _) | (with_reducible refine LeO.ite ?_ ?_)
theorem bG.mono : ∀ a0 a1 k, LeO (bG.f k a0 a1) (bG.f (k + 1) a0 a1) := by
 intro a0 a1 k; have ih0 := bG.fO k; unfold bG.f
 repeat' (with_reducible exact ih0 _ _ _ _)
set_option maxHeartbeats 8000000 in
set_option maxRecDepth 100000 in
theorem bG.calls (k : Nat) (a0 : Int) (A1 : Option Addr) (c1 : Nat) (l1 : List Int) (r : Int) (w : World) (hr1 : Kd.C (Kd.int .i64) w A1 l1.length l1) (hc1 : l1.length ≤ c1) (h : bG.f k a0 l1 = some r) :
 Calls Try.prog 56 #[.int .i64 a0, .slice A1 l1.length c1] w fun e w' => e = .returned (.int .i64 r) ∧ Below w.heap.size w w' := by
 have HR1 := aa.mk hr1; have HC1 := aa.mk hc1; clear hr1 hc1; have HB := aa.mk (Below.refl w.heap.size w); have H : (bG.l0 k a0 l1 (l1.length : Int) 0) = some r := h; clear h; have H' := aa.mk H; clear H; go_enter Try.func56, Try.ntmps56; go_wp2; (go_loopg [0, 9] k (fun kq v0 v9 w' => ∃ (K8 : Int) (uA : Int), v0 = .int .i64 K8 ∧ v9 = .int .i64 uA ∧ aa (bG.l0 kq K8 l1 (l1.length : Int) uA = some r) ∧ aa (kq ≤ k) ∧ aa (Below w.heap.size w w'))); case atStart => exact ⟨(a0), (0), (by rfl), (by rfl), H', ⟨Nat.le_refl _⟩, ⟨by exact HB.out⟩⟩
 case round =>
  clear H'; obtain ⟨K8, uA, rfl, rfl, HA, HK1, HB⟩ := hrel
  cases gk with
  | zero => exact absurd HA.out (by simp [bG.l0])
  | succ k1 =>
   have H := HA.out; clear HA; simp only [bG.l0] at H; by_cases c3 : uA < (l1.length : Int)
   ·rw [if_pos c3] at H; have rX : decide (uA < (l1.length : Int)) = true := decide_eq_true c3; clear c3; by_cases c4 : 0 ≤ uA
    ·rw [if_pos c4] at H; have zI : decide (0 ≤ uA) = true := decide_eq_true c4; clear c4; by_cases c5 : uA < (l1.length : Int)
     ·rw [if_pos c5] at H; have BS : decide (uA < (l1.length : Int)) = true := decide_eq_true c5; clear c5; obtain ⟨ji6, aaY⟩ : ∃ j_ : Int, (mn K8 (rd l1 uA)) = j_ := ⟨_, rfl⟩; (replace H : (bG.l0 k1 ji6 l1 (l1.length : Int) (wrap64 (uA + 1))) = some r := by (rw [aaY] at H; exact H)); have ahu : (if (rd l1 uA) < K8 then (rd l1 uA) else K8) = ji6 := aaY; have H' := aa.mk H; clear H; have Xd : 0 ≤ (uA : Int) := of_decide_eq_true (by with_reducible assumption); have WX : uA < (l1.length : Int) := of_decide_eq_true (by with_reducible assumption); obtain ⟨agN, e124, Ew⟩ := Kd.ul HR1.out uA Xd WX; cases e124; replace Ew := (HB.out.cell (World.block_lt_of_cell? w _ Ew)).trans Ew; replace Xd := eq_true Xd; replace WX := eq_true WX; go_wp2; go_roundg k1; (case measure => have := HK1.out; omega); case rel => exact ⟨(ji6), (wrap64 (uA + 1)), (by rfl), (by rfl), H', ⟨by have := HK1.out; omega⟩, ⟨by exact HB.out⟩⟩
     ·rw [if_neg c5] at H; exact absurd H (by simp)
    ·rw [if_neg c4] at H; exact absurd H (by simp)
   ·rw [if_neg c3] at H; have rX : decide (uA < (l1.length : Int)) = false := decide_eq_false c3; clear c3; obtain rfl := Option.some.inj H; go_wp2
    go_ret
    exact ⟨by rfl, by exact HB.out⟩
def mY.f (fq : Int) (bz : Int) (a1 : Int) (Ho : Int) (Mo : Int) : Option (Bool) := if fq = a1 then (some (Ho == bz)) else (some true)
set_option maxHeartbeats 8000000 in
set_option maxRecDepth 100000 in
theorem mY.calls (fq : Int) (bz : Int) (a1 : Int) (Ho : Int) (Mo : Int) (r : Bool) (w : World) (h : mY.f fq bz a1 Ho Mo = some r) :
 Calls Try.prog 75 #[.agg #[.int .i64 fq, .int .u8 bz], .int .i64 a1, .agg #[.int .u8 Ho, .int .i64 Mo]] w fun e w' => e = .returned (.bool r) ∧ Below w.heap.size w w' := by
 have hu100 := Try.underlying100; have hu86 := Try.underlying86; have HB := aa.mk (Below.refl w.heap.size w); have H : (if fq = a1 then (some (Ho == bz)) else (some true)) = some r := h; clear h; by_cases c4 : fq = a1
 ·rw [if_pos c4] at H; have zI : (fq == a1) = true := beq_iff_eq.mpr c4; have Xi : (fq != a1) = false := bne_eq_false_iff_eq.mpr c4; clear c4; obtain rfl := Option.some.inj H; go_enter Try.func75, Try.ntmps75; go_wp2_with (first | ((with_reducible refine dh (N := 3) rfl ?_); refine dA ?hg (N := 3) ?hd (cs := #[.int .i64 fq, .int .u8 bz]) (t := 100) ?hr ?_; (case hd => rfl); (case hg => rfl); (case hr => (go_simp; done)); intro sV hg w5 hbox hb; have ve := aa.mk (hbox); have aa5 := aa.mk ((by rw [hg]; exact (az (by exact HB.out)) : w.heap.size ≤ sV)); have Zz := aa.mk ((by rw [hg]; exact (az (by exact HB.out)) : w.heap.size ≤ sV)); replace HB := aa.mk (aW (by exact HB.out) hb); clear hb hbox hg) | ((with_reducible refine dh (N := 5) rfl ?_); refine dA ?hg (N := 5) ?hd (cs := #[.int .u8 Ho, .int .i64 Mo]) (t := 86) ?hr ?_; (case hd => rfl); (case hg => rfl); (case hr => (go_simp; done)); intro xX hg w6 hbox hb; have Uv := aa.mk (hbox); have aaF := aa.mk ((by rw [hg]; exact (az (by exact HB.out)) : w.heap.size ≤ xX)); have aah := aa.mk ((by rw [hg]; exact (az (by exact HB.out)) : w.heap.size ≤ xX)); replace HB := aa.mk (aW (by exact HB.out) hb); have yD := aa.mk ((by rw [hg]; exact Nat.ne_of_lt (bF (g := sV) (o := .cells #[.int .i64 fq, .int .u8 bz] 100 (0, 0)) (bU ve.out)) : sV ≠ xX)); have yt := aa.mk ((by rw [hg]; exact Nat.ne_of_gt (bF (g := sV) (o := .cells #[.int .i64 fq, .int .u8 bz] 100 (0, 0)) (bU ve.out)) : xX ≠ sV)); replace ve := aa.mk (aG (bU ve.out) hb); clear hb hbox hg; have aic := yD.out; have aix := yt.out; obtain ⟨DI, DV, Ej, EB⟩ := ko ve.out; obtain ⟨O3, Mt, MH, Pb⟩ := ko Uv.out))
  go_ret
  exact ⟨by rfl, by exact HB.out⟩
 ·rw [if_neg c4] at H; have zI : (fq == a1) = false := beq_eq_false_iff_ne.mpr c4; have Xi : (fq != a1) = true := bne_iff_ne.mpr c4; obtain rfl := Option.some.inj H; go_enter Try.func75, Try.ntmps75; go_wp2_with (first | ((with_reducible refine dh (N := 3) rfl ?_); refine dA ?hg (N := 3) ?hd (cs := #[.int .i64 fq, .int .u8 bz]) (t := 100) ?hr ?_; (case hd => rfl); (case hg => rfl); (case hr => (go_simp; done)); intro sV hg w10 hbox hb; have ve := aa.mk (hbox); have aa5 := aa.mk ((by rw [hg]; exact (az (by exact HB.out)) : w.heap.size ≤ sV)); have Zz := aa.mk ((by rw [hg]; exact (az (by exact HB.out)) : w.heap.size ≤ sV)); replace HB := aa.mk (aW (by exact HB.out) hb); clear hb hbox hg) | ((with_reducible refine dh (N := 5) rfl ?_); refine dA ?hg (N := 5) ?hd (cs := #[.int .u8 Ho, .int .i64 Mo]) (t := 86) ?hr ?_; (case hd => rfl); (case hg => rfl); (case hr => (go_simp; done)); intro xX hg w11 hbox hb; have Uv := aa.mk (hbox); have aaF := aa.mk ((by rw [hg]; exact (az (by exact HB.out)) : w.heap.size ≤ xX)); have aah := aa.mk ((by rw [hg]; exact (az (by exact HB.out)) : w.heap.size ≤ xX)); replace HB := aa.mk (aW (by exact HB.out) hb); have yD := aa.mk ((by rw [hg]; exact Nat.ne_of_lt (bF (g := sV) (o := .cells #[.int .i64 fq, .int .u8 bz] 100 (0, 0)) (bU ve.out)) : sV ≠ xX)); have yt := aa.mk ((by rw [hg]; exact Nat.ne_of_gt (bF (g := sV) (o := .cells #[.int .i64 fq, .int .u8 bz] 100 (0, 0)) (bU ve.out)) : xX ≠ sV)); replace ve := aa.mk (aG (bU ve.out) hb); clear hb hbox hg; have YC := yD.out; have abn := yt.out; obtain ⟨Kr, IW, JG, Ja⟩ := ko ve.out))
  go_ret
  exact ⟨by rfl, by exact HB.out⟩
def dK.l0 : Nat → List Int → Int → Int → Option (Bool)
 | 0, _, _, _ => none
 | k + 1, x0, x1, x5 => if x5 < (x0.length : Int) then (if 0 ≤ x5 then (if (rd x0 x5) = x1 then (some true) else (dK.l0 k x0 x1 (wrap64 (x5 + 1)))) else (none)) else (some false)
def dK.f (k : Nat) (l0 : List Int) (a1 : Int) : Option (Bool) := dK.l0 k l0 a1 0
theorem dK.fO : ∀ k, (∀ y0 y1 y2, LeO (dK.l0 k y0 y1 y2) (dK.l0 (k + 1) y0 y1 y2))
 | 0 => fun _ _ _ r h => by simp [dK.l0] at h
 | k + 1 => by
  have ih0 := dK.fO k
  ·intro y0 y1 y2; unfold dK.l0
   repeat' first | (with_reducible exact ih0 _ _ _) | (with_reducible exact LeO.refl _) | (with_reducible refine LeO.ite ?_ ?_)
theorem dK.mono : ∀ a0 a1 k, LeO (dK.f k a0 a1) (dK.f (k + 1) a0 a1) := by
 intro a0 a1 k; have ih0 := dK.fO k; unfold dK.f
 repeat' (with_reducible exact ih0 _ _ _)
set_option maxHeartbeats 8000000 in
set_option maxRecDepth 100000 in
theorem dK.calls (k : Nat) (A0 : Option Addr) (c0 : Nat) (l0 : List Int) (a1 : Int) (r : Bool) (w : World) (hr0 : Kd.C (Kd.int .i64) w A0 l0.length l0) (hc0 : l0.length ≤ c0) (h : dK.f k l0 a1 = some r) :
 Calls Try.prog 31 #[.slice A0 l0.length c0, .int .i64 a1] w fun e w' => e = .returned (.bool r) ∧ dB w w' := by
 have HR0 := aa.mk hr0; have HC0 := aa.mk hc0; clear hr0 hc0; have H : (dK.l0 k l0 a1 0) = some r := h; clear h; have H' := aa.mk H; clear H; go_enter Try.func31, Try.ntmps31; go_wp2; (go_loopg [5] k (fun kq v5 w' => ∃ (eP : Int), v5 = .int .i64 eP ∧ aa (dK.l0 kq l0 a1 eP = some r) ∧ aa (kq ≤ k) ∧ dB w w')); case atStart => exact ⟨(0), (by rfl), H', ⟨Nat.le_refl _⟩, by exact dB.refl _⟩
 case round =>
  clear H'; obtain ⟨eP, rfl, HA, HK1, ⟨m1, rfl⟩⟩ := hrel
  cases gk with
  | zero => exact absurd HA.out (by simp [dK.l0])
  | succ k1 =>
   have H := HA.out; clear HA; simp only [dK.l0] at H; by_cases c3 : eP < (l0.length : Int)
   ·rw [if_pos c3] at H; have rX : decide (eP < (l0.length : Int)) = true := decide_eq_true c3; clear c3; by_cases c4 : 0 ≤ eP
    ·rw [if_pos c4] at H; have zI : decide (0 ≤ eP) = true := decide_eq_true c4; clear c4; by_cases c5 : (rd l0 eP) = a1
     ·rw [if_pos c5] at H; have BS : ((rd l0 eP) == a1) = true := beq_iff_eq.mpr c5; have LJ : ((rd l0 eP) != a1) = false := bne_eq_false_iff_eq.mpr c5; clear c5; obtain rfl := Option.some.inj H; have Ij : 0 ≤ (eP : Int) := of_decide_eq_true (by with_reducible assumption); have GM : eP < (l0.length : Int) := of_decide_eq_true (by with_reducible assumption); obtain ⟨abx, e697, Sv⟩ := Kd.ul HR0.out eP Ij GM; cases e697; replace Ij := eq_true Ij; replace GM := eq_true GM; go_wp2
      go_ret
      exact ⟨by rfl, by repeat (first | exact dB.refl _ | apply dB.step)⟩
     ·rw [if_neg c5] at H; have BS : ((rd l0 eP) == a1) = false := beq_eq_false_iff_ne.mpr c5; have LJ : ((rd l0 eP) != a1) = true := bne_iff_ne.mpr c5; have H' := aa.mk H; clear H; have Ij : 0 ≤ (eP : Int) := of_decide_eq_true (by with_reducible assumption); have GM : eP < (l0.length : Int) := of_decide_eq_true (by with_reducible assumption); obtain ⟨abx, e697, Sv⟩ := Kd.ul HR0.out eP Ij GM; cases e697; replace Ij := eq_true Ij; replace GM := eq_true GM; go_wp2; go_roundg k1; (case measure => have := HK1.out; omega); case rel => exact ⟨(wrap64 (eP + 1)), (by rfl), H', ⟨by have := HK1.out; omega⟩, by repeat (first | exact dB.refl _ | apply dB.step)⟩
    ·rw [if_neg c4] at H; exact absurd H (by simp)
   ·rw [if_neg c3] at H; have rX : decide (eP < (l0.length : Int)) = false := decide_eq_false c3; clear c3; obtain rfl := Option.some.inj H; go_wp2
    go_ret
    exact ⟨by rfl, by repeat (first | exact dB.refl _ | apply dB.step)⟩
end Go.Proofs.Ytihedeofkhapiaa.Pr
end
