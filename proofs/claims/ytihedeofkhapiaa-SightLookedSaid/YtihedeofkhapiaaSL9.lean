/- Part 9 of 21 of the proof of: SightLooked: for every slice of numbers, the law returns true: of a line that one hand alone may have cut, made of them, if the letter of the square of Look is known, whichever it is, at most as many letters as said fit the other squares, and just as many for one of them, and no square before it does as well, and none does better; no condition beyond the statement's own. -/
import Derived.Test.YtihedeofkhapiaaProg
import Derived.Below
import Derived.Deep.Draws
import Derived.Deep.AppendLies
import Derived.Maps.AppendAt
import Derived.OwnWalk
import Derived.Laws.BytesArg
import Derived.Laws.MakeOwn
import Derived.Laws.OwnMore
import Derived.Deep.OwnRows
import Derived.Tactics
import Derived.Lib.ConvBytes
import Derived.Laws.Slices
import Derived.WalkKit
import Derived.KernelRfl
import Derived.RowKit3
import Derived.Deep.LoopGhost
import Derived.Deep.QuietTactic
import Derived.BigQuiet
import Derived.WideLaws
import Derived.Deep.DeepCutAuto
import Derived.Deep.CutBlock
import Derived.Deep.RegionHeld3
import Derived.Laws.Rows
import Derived.Lib.AppendStr
import Derived.ArgAppend
import Derived.Laws.IdiomCopy
import Derived.OrdersHeld
import Derived.Laws.BitsLemmas
import Derived.RowKit
import Derived.Test.YtihedeofkhapiaaSL3
import Derived.Test.YtihedeofkhapiaaSL6
import Derived.Test.YtihedeofkhapiaaSL7
import Derived.Test.YtihedeofkhapiaaSL8
set_option linter.unusedVariables false
set_option linter.unusedSimpArgs false
section
namespace Go.Proofs.Ytihedeofkhapiaa.Pr
open Go.RowKit Go.Proofs.YtihedeofkhapiaaW.PrintWords Go.Proofs.YtihedeofkhapiaaW.PrintLast Go.Proofs.YtihedeofkhapiaaW.PrintMore
attribute [local go_sem] pU pX ru rz nJ nK pR qa
def afY : Option Int → Value
 | none => .nilIface
 | some c => .iface 0 (.int .i64 c)
theorem Qk : afY none = .nilIface := rfl
theorem QR (c : Int) : afY (some c) = .iface 0 (.int .i64 c) := rfl
theorem info3 : (Try.prog.info? 3).map (fun i => (i.zero, i.size, i.bytes)) = some (some (.int .i64 0), 1, 8) := by kernel_rfl
theorem info5 : (Try.prog.info? 5).map (fun i => (i.zero, i.size, i.bytes)) = some (some (.int .u8 0), 1, 1) := by kernel_rfl
theorem af6 : (Try.prog.info? 9).map (fun i => (i.zero, i.size, i.bytes)) = some (some (.string ⟨#[]⟩), 1, 16) := by kernel_rfl
theorem Uy : (Try.prog.info? 27).map (fun i => (i.zero, i.size, i.bytes)) = some (some (.agg #[(.int .i64 0), (.int .i64 0)]), 2, 16) := by kernel_rfl
theorem CP : (Try.prog.info? 39).map (fun i => (i.zero, i.size, i.bytes)) = some (some (.slice none 0 0), 1, 24) := by kernel_rfl
theorem Us : (Try.prog.info? 66).map (fun i => (i.zero, i.size, i.bytes)) = some (some (.agg #[(.int .i64 0), (.int .i64 0), (.slice none 0 0)]), 3, 40) := by kernel_rfl
theorem Ul : (Try.prog.info? 86).map (fun i => (i.zero, i.size, i.bytes)) = some (some (.agg #[(.int .u8 0), (.int .i64 0)]), 2, 16) := by kernel_rfl
theorem ajd : (Try.prog.info? 126).map (fun i => (i.zero, i.size, i.bytes)) = some (some (.agg #[(.int .i64 0), (.int .u8 0)]), 2, 16) := by kernel_rfl
structure S63 where
 f0 : Int
 f1 : Int
def z63 : S63 := ⟨(0 : Int), (0 : Int)⟩
def k63 : Kd S63 := Kd.iso (Kd.pair (Kd.int .i64) (Kd.int .i64)) (fun x : S63 => (x.f0, x.f1))
theorem Kq {w : World} {x : S63} {cs : List Value} (h : k63.K w x cs) : cs = [.int .i64 x.f0, .int .i64 x.f1] := by
 obtain ⟨_, _, rfl, rfl, rfl⟩ := h; exact rfl
theorem Q5 {w : World} {base : Nat} {ok : Nat → Prop} {x : S63} {cs : List Value} (h : k63.M w base ok x cs) : cs = [.int .i64 x.f0, .int .i64 x.f1] := by
 obtain ⟨_, _, rfl, rfl, rfl⟩ := h; exact rfl
theorem Vt (w : World) (x : S63)  : k63.K w x [.int .i64 x.f0, .int .i64 x.f1] := ⟨[.int .i64 x.f0], [.int .i64 x.f1], rfl, rfl, rfl⟩
theorem Yf (w : World) (base : Nat) (ok : Nat → Prop) (x : S63)  : k63.M w base ok x [.int .i64 x.f0, .int .i64 x.f1] := ⟨[.int .i64 x.f0], [.int .i64 x.f1], rfl, rfl, rfl⟩
theorem ahb (W : World) (ok : Nat → Prop) (x : S63) : Kd.FK k63 W ok x [.int .i64 x.f0, .int .i64 x.f1] := fun W2 _ => Vt W2 x
def Q8 (xs : List S63) (i : Int) : S63 := xs.getD i.toNat z63
theorem al9 {w : World} {A : Option Addr} {n : Nat} {xs : List S63} (h : Kd.C k63 w A n xs) (i : Int) (h0 : 0 ≤ i) (h1 : i < n) : ∃ ad , A = some ad ∧ w.cell? (ad.add (i.toNat * 2)) = some (.int .i64 (Q8 xs i).f0) ∧ w.cell? ⟨(ad.add (i.toNat * 2)).block, (ad.add (i.toNat * 2)).off + 1, none⟩ = some (.int .i64 (Q8 xs i).f1) := by
 obtain ⟨ad, c, e, _, hK, hc0⟩ := Kd.zt h z63 i h0 h1; have hc : ∀ j u, c[j]? = some u → w.cell? (ad.add (i.toNat * 2 + j)) = some u := hc0; obtain rfl := Kq hK; exact ⟨ad, e, hc 0 _ rfl, by rw [← kX _ _ 1 (by omega)]; exact hc 1 _ rfl⟩
structure S86 where
 f0 : Int
 f1 : Int
def z86 : S86 := ⟨(0 : Int), (0 : Int)⟩
def k86 : Kd S86 := Kd.iso (Kd.pair (Kd.int .u8) (Kd.int .i64)) (fun x : S86 => (x.f0, x.f1))
theorem Rf {w : World} {x : S86} {cs : List Value} (h : k86.K w x cs) : cs = [.int .u8 x.f0, .int .i64 x.f1] := by
 obtain ⟨_, _, rfl, rfl, rfl⟩ := h; exact rfl
theorem acO {w : World} {base : Nat} {ok : Nat → Prop} {x : S86} {cs : List Value} (h : k86.M w base ok x cs) : cs = [.int .u8 x.f0, .int .i64 x.f1] := by
 obtain ⟨_, _, rfl, rfl, rfl⟩ := h; exact rfl
theorem aa2 (w : World) (x : S86)  : k86.K w x [.int .u8 x.f0, .int .i64 x.f1] := ⟨[.int .u8 x.f0], [.int .i64 x.f1], rfl, rfl, rfl⟩
theorem tK (w : World) (base : Nat) (ok : Nat → Prop) (x : S86)  : k86.M w base ok x [.int .u8 x.f0, .int .i64 x.f1] := ⟨[.int .u8 x.f0], [.int .i64 x.f1], rfl, rfl, rfl⟩
theorem aiV (W : World) (ok : Nat → Prop) (x : S86) : Kd.FK k86 W ok x [.int .u8 x.f0, .int .i64 x.f1] := fun W2 _ => aa2 W2 x
def av (xs : List S86) (i : Int) : S86 := xs.getD i.toNat z86
theorem sF {w : World} {A : Option Addr} {n : Nat} {xs : List S86} (h : Kd.C k86 w A n xs) (i : Int) (h0 : 0 ≤ i) (h1 : i < n) : ∃ ad , A = some ad ∧ w.cell? (ad.add (i.toNat * 2)) = some (.int .u8 (av xs i).f0) ∧ w.cell? ⟨(ad.add (i.toNat * 2)).block, (ad.add (i.toNat * 2)).off + 1, none⟩ = some (.int .i64 (av xs i).f1) := by
 obtain ⟨ad, c, e, _, hK, hc0⟩ := Kd.zt h z86 i h0 h1; have hc : ∀ j u, c[j]? = some u → w.cell? (ad.add (i.toNat * 2 + j)) = some u := hc0; obtain rfl := Rf hK; exact ⟨ad, e, hc 0 _ rfl, by rw [← kX _ _ 1 (by omega)]; exact hc 1 _ rfl⟩
def NZ (xs : List (List S86)) (i : Int) : (List S86) := xs.getD i.toNat ([] : List S86)
theorem anN {w : World} {A : Option Addr} {n : Nat} {xs : List (List S86)} (h : Kd.C (Kd.slice 86 k86) w A n xs) (i : Int) (h0 : 0 ≤ i) (h1 : i < n) : ∃ ad A0 c0, A = some ad ∧ w.cell? (ad.add i.toNat) = some (.slice A0 (NZ xs i).length c0) ∧ (NZ xs i).length ≤ c0 ∧ k86.C w A0 (NZ xs i).length (NZ xs i) := by
 obtain ⟨ad, c, e, _, hK, hc0⟩ := Kd.zt h ([] : List S86) i h0 h1; have hc : ∀ j u, c[j]? = some u → w.cell? (ad.add (i.toNat * 1 + j)) = some u := hc0; obtain ⟨A0, c0, rfl, l0, g0⟩ := hK; exact ⟨ad, A0, c0, e, by have hq := hc 0 _ rfl; rwa [Nat.mul_one, Nat.add_zero] at hq, l0, g0⟩
structure S66 where
 f0 : S63
 f1 : (List S86)
def z66 : S66 := ⟨z63, ([] : List S86)⟩
def k66 : Kd S66 := Kd.iso (Kd.pair k63 (Kd.slice 86 k86)) (fun x : S66 => (x.f0, x.f1))
theorem Gw {w : World} {x : S66} {cs : List Value} (h : k66.K w x cs) : ∃ A2 c2, cs = [.int .i64 x.f0.f0, .int .i64 x.f0.f1, .slice A2 x.f1.length c2] ∧ x.f1.length ≤ c2 ∧ k86.C w A2 x.f1.length x.f1 := by
 obtain ⟨_, _, rfl, s0, ⟨A2, c2, rfl, l2, g2⟩⟩ := h; obtain rfl := Kq s0; exact ⟨A2, c2, rfl, l2, g2⟩
theorem acM {w : World} {base : Nat} {ok : Nat → Prop} {x : S66} {cs : List Value} (h : k66.M w base ok x cs) : ∃ v2, cs = [.int .i64 x.f0.f0, .int .i64 x.f0.f1, v2] ∧ k86.R 86 w base ok v2 x.f1 := by
 obtain ⟨_, _, rfl, s0, ⟨v2, rfl, g2⟩⟩ := h; obtain rfl := Q5 s0; exact ⟨v2, rfl, g2⟩
theorem aaW (w : World) (x : S66) {A2 : Option Addr} {c2 : Nat} (l2 : x.f1.length ≤ c2) (g2 : k86.C w A2 x.f1.length x.f1) : k66.K w x [.int .i64 x.f0.f0, .int .i64 x.f0.f1, .slice A2 x.f1.length c2] := ⟨[.int .i64 x.f0.f0, .int .i64 x.f0.f1], [.slice A2 x.f1.length c2], rfl, (Vt w x.f0 ), ⟨A2, c2, rfl, l2, g2⟩⟩
theorem Yv (w : World) (base : Nat) (ok : Nat → Prop) (x : S66) {v2 : Value} (g2 : k86.R 86 w base ok v2 x.f1) : k66.M w base ok x [.int .i64 x.f0.f0, .int .i64 x.f0.f1, v2] := ⟨[.int .i64 x.f0.f0, .int .i64 x.f0.f1], [v2], rfl, (Yf w base ok x.f0 ), ⟨v2, rfl, g2⟩⟩
theorem qQ {W : World} {ok : Nat → Prop} {x : S66} {cs : List Value} (h : Kd.FK k66 W ok x cs) : ∃ A2 c2, cs = [.int .i64 x.f0.f0, .int .i64 x.f0.f1, .slice A2 x.f1.length c2] ∧ x.f1.length ≤ c2 ∧ Kd.F k86 W ok A2 x.f1.length x.f1 := by
 obtain ⟨A2, c2, rfl, l2, _⟩ := Gw (Kd.uq h); exact ⟨A2, c2, rfl, l2, (fun W' hW => by obtain ⟨A2_, c2_, he, l2_, g2_⟩ := Gw (h W' hW); injection (Option.some.inj (show some (Value.slice A2 x.f1.length c2) = some (Value.slice A2_ x.f1.length c2_) from congrArg (fun l => l[2]?) he)) with ha_ _ _; rw [ha_]; exact g2_)⟩
theorem wU (W : World) (ok : Nat → Prop) (x : S66) {A2 : Option Addr} {c2 : Nat} (l2 : x.f1.length ≤ c2) (g2 : Kd.F k86 W ok A2 x.f1.length x.f1) : Kd.FK k66 W ok x [.int .i64 x.f0.f0, .int .i64 x.f0.f1, .slice A2 x.f1.length c2] := fun W2 hW => aaW W2 x l2 (g2 W2 hW)
def ah (xs : List S66) (i : Int) : S66 := xs.getD i.toNat z66
theorem rE {w : World} {A : Option Addr} {n : Nat} {xs : List S66} (h : Kd.C k66 w A n xs) (i : Int) (h0 : 0 ≤ i) (h1 : i < n) : ∃ ad A2 c2, A = some ad ∧ w.cell? (ad.add (i.toNat * 3)) = some (.int .i64 (ah xs i).f0.f0) ∧ w.cell? ⟨(ad.add (i.toNat * 3)).block, (ad.add (i.toNat * 3)).off + 1, none⟩ = some (.int .i64 (ah xs i).f0.f1) ∧ w.cell? ⟨(ad.add (i.toNat * 3)).block, (ad.add (i.toNat * 3)).off + 2, none⟩ = some (.slice A2 (ah xs i).f1.length c2) ∧ (ah xs i).f1.length ≤ c2 ∧ k86.C w A2 (ah xs i).f1.length (ah xs i).f1 := by
 obtain ⟨ad, c, e, _, hK, hc0⟩ := Kd.zt h z66 i h0 h1; have hc : ∀ j u, c[j]? = some u → w.cell? (ad.add (i.toNat * 3 + j)) = some u := hc0; obtain ⟨A2, c2, rfl, l2, g2⟩ := Gw hK; exact ⟨ad, A2, c2, e, hc 0 _ rfl, by rw [← kX _ _ 1 (by omega)]; exact hc 1 _ rfl, by rw [← kX _ _ 2 (by omega)]; exact hc 2 _ rfl, l2, g2⟩
structure S27 where
 f0 : Int
 f1 : Int
def z27 : S27 := ⟨(0 : Int), (0 : Int)⟩
def k27 : Kd S27 := Kd.iso (Kd.pair (Kd.int .i64) (Kd.int .i64)) (fun x : S27 => (x.f0, x.f1))
theorem Vb {w : World} {x : S27} {cs : List Value} (h : k27.K w x cs) : cs = [.int .i64 x.f0, .int .i64 x.f1] := by
 obtain ⟨_, _, rfl, rfl, rfl⟩ := h; exact rfl
theorem acN {w : World} {base : Nat} {ok : Nat → Prop} {x : S27} {cs : List Value} (h : k27.M w base ok x cs) : cs = [.int .i64 x.f0, .int .i64 x.f1] := by
 obtain ⟨_, _, rfl, rfl, rfl⟩ := h; exact rfl
theorem acG (w : World) (x : S27)  : k27.K w x [.int .i64 x.f0, .int .i64 x.f1] := ⟨[.int .i64 x.f0], [.int .i64 x.f1], rfl, rfl, rfl⟩
theorem BB (w : World) (base : Nat) (ok : Nat → Prop) (x : S27)  : k27.M w base ok x [.int .i64 x.f0, .int .i64 x.f1] := ⟨[.int .i64 x.f0], [.int .i64 x.f1], rfl, rfl, rfl⟩
theorem ajY (W : World) (ok : Nat → Prop) (x : S27) : Kd.FK k27 W ok x [.int .i64 x.f0, .int .i64 x.f1] := fun W2 _ => acG W2 x
def iM (xs : List S27) (i : Int) : S27 := xs.getD i.toNat z27
theorem Ji {w : World} {A : Option Addr} {n : Nat} {xs : List S27} (h : Kd.C k27 w A n xs) (i : Int) (h0 : 0 ≤ i) (h1 : i < n) : ∃ ad , A = some ad ∧ w.cell? (ad.add (i.toNat * 2)) = some (.int .i64 (iM xs i).f0) ∧ w.cell? ⟨(ad.add (i.toNat * 2)).block, (ad.add (i.toNat * 2)).off + 1, none⟩ = some (.int .i64 (iM xs i).f1) := by
 obtain ⟨ad, c, e, _, hK, hc0⟩ := Kd.zt h z27 i h0 h1; have hc : ∀ j u, c[j]? = some u → w.cell? (ad.add (i.toNat * 2 + j)) = some u := hc0; obtain rfl := Vb hK; exact ⟨ad, e, hc 0 _ rfl, by rw [← kX _ _ 1 (by omega)]; exact hc 1 _ rfl⟩
def cO (xs : List (List S27)) (i : Int) : (List S27) := xs.getD i.toNat ([] : List S27)
theorem Ia {w : World} {A : Option Addr} {n : Nat} {xs : List (List S27)} (h : Kd.C (Kd.slice 27 k27) w A n xs) (i : Int) (h0 : 0 ≤ i) (h1 : i < n) : ∃ ad A0 c0, A = some ad ∧ w.cell? (ad.add i.toNat) = some (.slice A0 (cO xs i).length c0) ∧ (cO xs i).length ≤ c0 ∧ k27.C w A0 (cO xs i).length (cO xs i) := by
 obtain ⟨ad, c, e, _, hK, hc0⟩ := Kd.zt h ([] : List S27) i h0 h1; have hc : ∀ j u, c[j]? = some u → w.cell? (ad.add (i.toNat * 1 + j)) = some u := hc0; obtain ⟨A0, c0, rfl, l0, g0⟩ := hK; exact ⟨ad, A0, c0, e, by have hq := hc 0 _ rfl; rwa [Nat.mul_one, Nat.add_zero] at hq, l0, g0⟩
def kN (xs : List (List Int)) (i : Int) : (List Int) := xs.getD i.toNat ([] : List Int)
theorem PX {w : World} {A : Option Addr} {n : Nat} {xs : List (List Int)} (h : Kd.C (Kd.slice 5 (Kd.int .u8)) w A n xs) (i : Int) (h0 : 0 ≤ i) (h1 : i < n) : ∃ ad A0 c0, A = some ad ∧ w.cell? (ad.add i.toNat) = some (.slice A0 (kN xs i).length c0) ∧ (kN xs i).length ≤ c0 ∧ (Kd.int .u8).C w A0 (kN xs i).length (kN xs i) := by
 obtain ⟨ad, c, e, _, hK, hc0⟩ := Kd.zt h ([] : List Int) i h0 h1; have hc : ∀ j u, c[j]? = some u → w.cell? (ad.add (i.toNat * 1 + j)) = some u := hc0; obtain ⟨A0, c0, rfl, l0, g0⟩ := hK; exact ⟨ad, A0, c0, e, by have hq := hc 0 _ rfl; rwa [Nat.mul_one, Nat.add_zero] at hq, l0, g0⟩
structure GK where
 f0 : Int
 f1 : Int
def Vq : GK := ⟨(0 : Int), (0 : Int)⟩
def QA : Kd GK := Kd.iso (Kd.pair (Kd.int .i64) (Kd.int .u8)) (fun x : GK => (x.f0, x.f1))
theorem Qz {w : World} {x : GK} {cs : List Value} (h : QA.K w x cs) : cs = [.int .i64 x.f0, .int .u8 x.f1] := by
 obtain ⟨_, _, rfl, rfl, rfl⟩ := h; exact rfl
theorem aaJ {w : World} {base : Nat} {ok : Nat → Prop} {x : GK} {cs : List Value} (h : QA.M w base ok x cs) : cs = [.int .i64 x.f0, .int .u8 x.f1] := by
 obtain ⟨_, _, rfl, rfl, rfl⟩ := h; exact rfl
theorem VY (w : World) (x : GK)  : QA.K w x [.int .i64 x.f0, .int .u8 x.f1] := ⟨[.int .i64 x.f0], [.int .u8 x.f1], rfl, rfl, rfl⟩
theorem ad1 (w : World) (base : Nat) (ok : Nat → Prop) (x : GK)  : QA.M w base ok x [.int .i64 x.f0, .int .u8 x.f1] := ⟨[.int .i64 x.f0], [.int .u8 x.f1], rfl, rfl, rfl⟩
theorem ad8 (W : World) (ok : Nat → Prop) (x : GK) : Kd.FK QA W ok x [.int .i64 x.f0, .int .u8 x.f1] := fun W2 _ => VY W2 x
def OA (xs : List GK) (i : Int) : GK := xs.getD i.toNat Vq
theorem ais {w : World} {A : Option Addr} {n : Nat} {xs : List GK} (h : Kd.C QA w A n xs) (i : Int) (h0 : 0 ≤ i) (h1 : i < n) : ∃ ad , A = some ad ∧ w.cell? (ad.add (i.toNat * 2)) = some (.int .i64 (OA xs i).f0) ∧ w.cell? ⟨(ad.add (i.toNat * 2)).block, (ad.add (i.toNat * 2)).off + 1, none⟩ = some (.int .u8 (OA xs i).f1) := by
 obtain ⟨ad, c, e, _, hK, hc0⟩ := Kd.zt h Vq i h0 h1; have hc : ∀ j u, c[j]? = some u → w.cell? (ad.add (i.toNat * 2 + j)) = some u := hc0; obtain rfl := Qz hK; exact ⟨ad, e, hc 0 _ rfl, by rw [← kX _ _ 1 (by omega)]; exact hc 1 _ rfl⟩
end Go.Proofs.Ytihedeofkhapiaa.Pr
end
section
namespace Go.Proofs.Ytihedeofkhapiaa.Pr
open Go.RowKit Go.Proofs.YtihedeofkhapiaaW.PrintWords Go.Proofs.YtihedeofkhapiaaW.PrintLast Go.Proofs.YtihedeofkhapiaaW.PrintMore
theorem qf {w : World} {g : Nat} {t : TypeId} {a0 a1 : Value} (h : w.heap[g]? = some (.cells #[a0, a1] t (0, 0))) : w.cell? ⟨g, 0, none⟩ = some a0 ∧ w.cell? ⟨g, 1, none⟩ = some a1 ∧ w.frozen? ⟨g, 0, none⟩ = false ∧ w.frozen? ⟨g, 1, none⟩ = false := ⟨(ag h 0).trans rfl, (ag h 1).trans rfl, bq h 0, bq h 1⟩
theorem cells3 {w : World} {g : Nat} {t : TypeId} {a0 a1 a2 : Value} (h : w.heap[g]? = some (.cells #[a0, a1, a2] t (0, 0))) : w.cell? ⟨g, 0, none⟩ = some a0 ∧ w.cell? ⟨g, 1, none⟩ = some a1 ∧ w.cell? ⟨g, 2, none⟩ = some a2 ∧ w.frozen? ⟨g, 0, none⟩ = false ∧ w.frozen? ⟨g, 1, none⟩ = false ∧ w.frozen? ⟨g, 2, none⟩ = false := ⟨(ag h 0).trans rfl, (ag h 1).trans rfl, (ag h 2).trans rfl, bq h 0, bq h 1, bq h 2⟩
theorem amq {w : World} {g : Nat} {t : TypeId} {a0 a1 a2 a3 : Value} (h : w.heap[g]? = some (.cells #[a0, a1, a2, a3] t (0, 0))) : w.cell? ⟨g, 0, none⟩ = some a0 ∧ w.cell? ⟨g, 1, none⟩ = some a1 ∧ w.cell? ⟨g, 2, none⟩ = some a2 ∧ w.cell? ⟨g, 3, none⟩ = some a3 ∧ w.frozen? ⟨g, 0, none⟩ = false ∧ w.frozen? ⟨g, 1, none⟩ = false ∧ w.frozen? ⟨g, 2, none⟩ = false ∧ w.frozen? ⟨g, 3, none⟩ = false := ⟨(ag h 0).trans rfl, (ag h 1).trans rfl, (ag h 2).trans rfl, (ag h 3).trans rfl, bq h 0, bq h 1, bq h 2, bq h 3⟩
theorem cells5 {w : World} {g : Nat} {t : TypeId} {a0 a1 a2 a3 a4 : Value} (h : w.heap[g]? = some (.cells #[a0, a1, a2, a3, a4] t (0, 0))) : w.cell? ⟨g, 0, none⟩ = some a0 ∧ w.cell? ⟨g, 1, none⟩ = some a1 ∧ w.cell? ⟨g, 2, none⟩ = some a2 ∧ w.cell? ⟨g, 3, none⟩ = some a3 ∧ w.cell? ⟨g, 4, none⟩ = some a4 ∧ w.frozen? ⟨g, 0, none⟩ = false ∧ w.frozen? ⟨g, 1, none⟩ = false ∧ w.frozen? ⟨g, 2, none⟩ = false ∧ w.frozen? ⟨g, 3, none⟩ = false ∧ w.frozen? ⟨g, 4, none⟩ = false := ⟨(ag h 0).trans rfl, (ag h 1).trans rfl, (ag h 2).trans rfl, (ag h 3).trans rfl, (ag h 4).trans rfl, bq h 0, bq h 1, bq h 2, bq h 3, bq h 4⟩
theorem ale {w : World} {g : Nat} {t : TypeId} {a0 a1 a2 a3 a4 a5 : Value} (h : w.heap[g]? = some (.cells #[a0, a1, a2, a3, a4, a5] t (0, 0))) : w.cell? ⟨g, 0, none⟩ = some a0 ∧ w.cell? ⟨g, 1, none⟩ = some a1 ∧ w.cell? ⟨g, 2, none⟩ = some a2 ∧ w.cell? ⟨g, 3, none⟩ = some a3 ∧ w.cell? ⟨g, 4, none⟩ = some a4 ∧ w.cell? ⟨g, 5, none⟩ = some a5 ∧ w.frozen? ⟨g, 0, none⟩ = false ∧ w.frozen? ⟨g, 1, none⟩ = false ∧ w.frozen? ⟨g, 2, none⟩ = false ∧ w.frozen? ⟨g, 3, none⟩ = false ∧ w.frozen? ⟨g, 4, none⟩ = false ∧ w.frozen? ⟨g, 5, none⟩ = false := ⟨(ag h 0).trans rfl, (ag h 1).trans rfl, (ag h 2).trans rfl, (ag h 3).trans rfl, (ag h 4).trans rfl, (ag h 5).trans rfl, bq h 0, bq h 1, bq h 2, bq h 3, bq h 4, bq h 5⟩
end Go.Proofs.Ytihedeofkhapiaa.Pr
end
section
namespace Go.Proofs.Ytihedeofkhapiaa.Pr
open Go.RowKit Go.Proofs.YtihedeofkhapiaaW.PrintWords Go.Proofs.YtihedeofkhapiaaW.PrintLast Go.Proofs.YtihedeofkhapiaaW.PrintMore
attribute [local go_sem] pU pX ru rz nJ nK pR qa
def bn (w0 W : World) (g : Nat) (f0 : Int) (f1 : Int) : Prop := W.heap[g]? = some (.cells #[.int .u64 f0, .int .u64 f1] 91 (0, 0)) ∧ w0.heap.size ≤ g
theorem bn.grown {w0 W : World} {g : Nat} {f0 : Int} {f1 : Int} {W1 : World} {row : Option Nat} (h : bn w0 W g f0 f1) (hw : W.grownBy W1 row) (hne : some g ≠ row) : bn w0 W1 g f0 f1 := by
 obtain ⟨hb, hg⟩ := h; exact ⟨dL hb hw hne, hg⟩
theorem bn.Qd {w0 W : World} {g : Nat} {f0 : Int} {f1 : Int} {α : Type} {d : Kd α} {e : Nat} {base : Nat} {ok : Nat → Prop} {v : Value} {xs : List α} (h : bn w0 W g f0 f1) (ho : Kd.N d e W base ok v xs) (ht : e ≠ 91) : some g ≠ v.ownBlock := by
 obtain ⟨hb, hg⟩ := h; exact Kd.AC ho hb ht
theorem bn.fresh {w0 W : World} {g : Nat} {f0 : Int} {f1 : Int} (h : bn w0 W g f0 f1) : ∀ k, W.heap.size ≤ k → k ≠ g := by
 obtain ⟨hb, hg⟩ := h; exact Kd.gP hb
theorem bn.below {w0 W : World} {g : Nat} {f0 : Int} {f1 : Int} {W1 : World} (h : bn w0 W g f0 f1) (hw : Below W.heap.size W W1) : bn w0 W1 g f0 f1 := h.grown (ll hw none) (by simp)
theorem bn.alloc {w0 W : World} {g : Nat} {f0 : Int} {f1 : Int} (h : bn w0 W g f0 f1) (o : Obj) : bn w0 (W.alloc o) g f0 f1 := h.below (bK (Below.refl _ _) o)
theorem bn.drewN {w0 W : World} {g : Nat} {f0 : Int} {f1 : Int} (h : bn w0 W g f0 f1) (m : Nat) : bn w0 (W.drewN m) g f0 f1 := h
theorem bn.drew {w0 W : World} {g : Nat} {f0 : Int} {f1 : Int} (h : bn w0 W g f0 f1) : bn w0 W.drew g f0 f1 := h
theorem bn.at_ {w0 W : World} {g : Nat} {f0 : Int} {f1 : Int} {w' : World} {m : Nat} (hq : W.drewN m = w') (h : bn w0 W g f0 f1) : bn w0 w' g f0 f1 := by subst hq; exact bn.drewN h m
theorem bn.apart {w0 W : World} {g : Nat} {f0 : Int} {f1 : Int} {α : Type} {d : Kd α} {e : Nat} {base : Nat} {ok : Nat → Prop} {v : Value} {xs : List α} (h : bn w0 W g f0 f1) (ho : d.R e W base ok v xs) (ht : ∀ q, q ∈ e :: d.E → q ≠ 91) : d.R e W base (fun k => ok k ∧ k ≠ g) v xs := by
 obtain ⟨hb, hg⟩ := h; exact Kd.eH ho hb ht
theorem bn.own_ne {w0 W : World} {g : Nat} {f0 : Int} {f1 : Int} {α : Type} {d : Kd α} {e : Nat} {base : Nat} {ok : Nat → Prop} {v : Value} {xs : List α} (h : bn w0 W g f0 f1) (ho : d.R e W base ok v xs) (ht : e ≠ 91) : some g ≠ v.ownBlock := by
 obtain ⟨hb, hg⟩ := h; exact Kd.rD ho hb ht
theorem bn.alg {w0 W : World} {g : Nat} {f0 : Int} {f1 : Int} {α : Type} {d : Kd α} {e : Nat} {base : Nat} {ok : Nat → Prop} {v : Value} {xs : List α} (h : bn w0 W g f0 f1) (ho : d.S e W base ok v xs) (ht : ∀ q, q ∈ e :: d.E → q ≠ 91) : d.S e W base (fun k => ok k ∧ k ≠ g) v xs := by
 obtain ⟨hb, hg⟩ := h; exact Kd.zQ ho hb ht
theorem bn.aiZ {w0 W : World} {g : Nat} {f0 : Int} {f1 : Int} {α : Type} {d : Kd α} {e : Nat} {base : Nat} {ok : Nat → Prop} {v : Value} {xs : List α} (h : bn w0 W g f0 f1) (ho : d.S e W base ok v xs) (ht : e ≠ 91) : some g ≠ v.ownBlock := by
 obtain ⟨hb, hg⟩ := h; exact Kd.Vs ho hb ht
theorem bn.lt {w0 W : World} {g : Nat} {f0 : Int} {f1 : Int} (h : bn w0 W g f0 f1) : g < W.heap.size := by
 obtain ⟨hb, hg⟩ := h; exact bW hb
theorem bn.ge {w0 W : World} {g : Nat} {f0 : Int} {f1 : Int} (h : bn w0 W g f0 f1) : w0.heap.size ≤ g := by
 obtain ⟨hb, hg⟩ := h; exact hg
theorem bn.alS {w0 W : World} {g : Nat} {f0 : Int} {f1 : Int} {a : Nat} {cs : Array Value} {t : TypeId} {fr : Nat × Nat} (h : bn w0 W g f0 f1) (hb2 : W.heap[a]? = some (.cells cs t fr)) (ht : t ≠ 91) : g ≠ a := by
 obtain ⟨hb, hg⟩ := h; rintro rfl; rw [hb] at hb2; injection hb2 with hb2; injection hb2 with _ ht2; exact ht ht2.symm
theorem bn.far {w0 W : World} {g : Nat} {f0 : Int} {f1 : Int} {p : Addr} (h : bn w0 W g f0 f1) (hne : g ≠ p.block) (u : Value) : bn w0 (W.setCell p u) g f0 f1 := by
 obtain ⟨hb, hg⟩ := h; exact ⟨bI hb hne u, hg⟩
theorem CE {W : World} {g : Nat} {f0 : Int} {f1 : Int} (h : W.heap[g]? = some (.cells #[.int .u64 f0, .int .u64 f1] 91 (0, 0))) : W.cell? ⟨g, 0, none⟩ = some (.int .u64 f0) := (ag h 0).trans rfl
theorem bn.aeO {w0 W : World} {g : Nat} {f0 : Int} {f1 : Int} (h : bn w0 W g f0 f1) (x : Int) : bn w0 (W.setCell ⟨g, 0, none⟩ (.int .u64 x)) g x f1 := by
 obtain ⟨hb, hg⟩ := h; exact ⟨by simpa using DV hb 0 (.int .u64 x), hg⟩
theorem Ct {W : World} {g : Nat} {f0 : Int} {f1 : Int} (h : W.heap[g]? = some (.cells #[.int .u64 f0, .int .u64 f1] 91 (0, 0))) : W.cell? ⟨g, 1, none⟩ = some (.int .u64 f1) := (ag h 1).trans rfl
theorem bn.TL {w0 W : World} {g : Nat} {f0 : Int} {f1 : Int} (h : bn w0 W g f0 f1) (x : Int) : bn w0 (W.setCell ⟨g, 1, none⟩ (.int .u64 x)) g f0 x := by
 obtain ⟨hb, hg⟩ := h; exact ⟨by simpa using DV hb 1 (.int .u64 x), hg⟩
theorem bn.new (w0 W : World) (f0 : Int) (f1 : Int) (hB : Below w0.heap.size w0 W) : bn w0 (W.alloc (.cells #[.int .u64 f0, .int .u64 f1] 91)) W.heap.size f0 f1 := ⟨by simpa using heap_alloc_new W _, hB.size⟩
end Go.Proofs.Ytihedeofkhapiaa.Pr
end
section
namespace Go.Proofs.Ytihedeofkhapiaa.Pr
open Go.RowKit Go.Proofs.YtihedeofkhapiaaW.PrintWords Go.Proofs.YtihedeofkhapiaaW.PrintLast Go.Proofs.YtihedeofkhapiaaW.PrintMore
class inductive UpC : World → World → Prop
 | refl (w : World) : UpC w w
 | alloc {w w' : World} (o : Obj) (h : UpC w w') : UpC w (w'.alloc o)
 | drewN {w w' : World} (n : Nat) (h : UpC w w') : UpC w (w'.drewN n)
 | drew {w w' : World} (h : UpC w w') : UpC w w'.drew
instance UpC.iA {w w' : World} {o : Obj} [h : UpC w w'] : UpC w (w'.alloc o) := .alloc o h
instance UpC.iN {w w' : World} {n : Nat} [h : UpC w w'] : UpC w (w'.drewN n) := .drewN n h
instance UpC.iD {w w' : World} [h : UpC w w'] : UpC w w'.drew := .drew h
instance (priority := high) UpC.iR {w : World} : UpC w w := .refl w
theorem bU {w w' : World} {g : Nat} {o : Obj} (hb : w.heap[g]? = some o) [h : UpC w w'] : w'.heap[g]? = some o := by
 induction h with
 | refl => exact hb
 | alloc o _ ih => exact eD ih _
 | drewN n _ ih => exact lH ih _
 | drew _ ih => exact gU ih
theorem rU {α : Type} {d : Kd α} {e : Nat} {w w' : World} {base : Nat} {ok : Nat → Prop} {v : Value} {xs : List α} (hb : Kd.R d e w base ok v xs) [h : UpC w w'] : Kd.R d e w' base ok v xs := by
 induction h with
 | refl => exact hb
 | alloc o _ ih => exact Kd.XP ih _
 | drewN n _ ih => exact Kd.VV ih _
 | drew _ ih => exact Kd.wZ ih
theorem nU {α : Type} {d : Kd α} {e : Nat} {w w' : World} {base : Nat} {ok : Nat → Prop} {v : Value} {xs : List α} (hb : Kd.N d e w base ok v xs) [h : UpC w w'] : Kd.N d e w' base ok v xs := by
 induction h with
 | refl => exact hb
 | alloc o _ ih => exact Kd.XX ih _
 | drewN n _ ih => exact Kd.VJ ih _
 | drew _ ih => exact Kd.uQ ih
theorem vU {α : Type} {d : Kd α} {e : Nat} {w w' : World} {base : Nat} {ok : Nat → Prop} {v : Value} {xs : List α} (hb : Kd.V d e w base ok v xs) [h : UpC w w'] : Kd.V d e w' base ok v xs := by
 induction h with
 | refl => exact hb
 | alloc o _ ih => exact Kd.XF ih _
 | drewN n _ ih => exact Kd.Jv ih _
 | drew _ ih => exact Kd.yZ ih
theorem iU {w0 w w' : World} {g : Nat} {x y : Int} (hb : bn w0 w g x y) [h : UpC w w'] : bn w0 w' g x y := by
 induction h with
 | refl => exact hb
 | alloc o _ ih => exact bn.alloc ih _
 | drewN n _ ih => exact bn.drewN ih _
 | drew _ ih => exact bn.drew ih
theorem kU {w0 w w' : World} {g : Nat} (hb : az w0 w g none) [h : UpC w w'] : az w0 w' g none := by
 induction h with
 | refl => exact hb
 | alloc o _ ih => exact NW ih _
 | drewN n _ ih => exact xV ih _
 | drew _ ih => exact vg ih
theorem lU {w0 w w' : World} (hb : Below w0.heap.size w0 w) [h : UpC w w'] : Below w0.heap.size w0 w' := by
 induction h with
 | refl => exact hb
 | alloc o _ ih => exact bK ih _
 | drewN n _ ih => exact gH ih _
 | drew _ ih => exact iO ih
end Go.Proofs.Ytihedeofkhapiaa.Pr
end
section
namespace Go.Proofs.Ytihedeofkhapiaa.Pr
open Go.RowKit Go.Proofs.YtihedeofkhapiaaW.PrintWords Go.Proofs.YtihedeofkhapiaaW.PrintLast Go.Proofs.YtihedeofkhapiaaW.PrintMore
attribute [local go_sem] pU pX ru rz nJ nK pR qa
mutual
def dW.l0 : Nat → List (S27) → Int → Int → Bool → List (S27) → Int → Int → Option (Int × Int × Bool)
 | 0, _, _, _, _, _, _, _ => none
 | k + 1, x0, x2, x3, x4, x9, x10, x11 => if x11 < x10 then (if 0 ≤ x11 then (if x11 < (x9.length : Int) then (dW.l0 k x0 (Go.bits .or .i64 x2 ((iM x9 x11).f0)) (Go.bits .or .i64 x3 ((iM x9 x11).f1)) x4 x9 x10 (wrap64 (x11 + 1))) else (none)) else (none)) else (dW.l1 k x2 x3 x4 x0 (x0.length : Int) 0)
def dW.l1 : Nat → Int → Int → Bool → List (S27) → Int → Int → Option (Int × Int × Bool)
 | 0, _, _, _, _, _, _ => none
 | k + 1, x2, x3, x4, x24, x25, x26 => if x26 < x25 then (if 0 ≤ x26 then (if x26 < (x24.length : Int) then (if x4 = true then (dW.l1 k x2 x3 ((Go.bits .and .i64 x3 ((iM x24 x26).f0)) == ((iM x24 x26).f1)) x24 x25 (wrap64 (x26 + 1))) else (dW.l1 k x2 x3 false x24 x25 (wrap64 (x26 + 1)))) else (none)) else (none)) else (some (x2, x3, x4))
end
def dW.f (k : Nat) (l0 : List (S27)) : Option (Int × Int × Bool) := dW.l0 k l0 0 0 true l0 (l0.length : Int) 0
theorem dW.ig : ∀ k, (∀ y0 y1 y2 y3 y4 y5 y6, LeO (dW.l0 k y0 y1 y2 y3 y4 y5 y6) (dW.l0 (k + 1) y0 y1 y2 y3 y4 y5 y6)) ∧ (∀ y0 y1 y2 y3 y4 y5, LeO (dW.l1 k y0 y1 y2 y3 y4 y5) (dW.l1 (k + 1) y0 y1 y2 y3 y4 y5))
 | 0 => ⟨fun _ _ _ _ _ _ _ r h => by simp [dW.l0] at h, fun _ _ _ _ _ _ r h => by simp [dW.l1] at h⟩
 | k + 1 => by
  obtain ⟨ih0, ih1⟩ := dW.ig k; refine ⟨?_, ?_⟩
  ·intro y0 y1 y2 y3 y4 y5 y6; unfold dW.l0
   repeat' first | (with_reducible exact ih0 _ _ _ _ _ _ _) | (with_reducible exact ih1 _ _ _ _ _ _) | (with_reducible exact LeO.refl _) | (with_reducible refine LeO.ite ?_ ?_)
  ·intro y0 y1 y2 y3 y4 y5; unfold dW.l1
   repeat' first | (with_reducible exact ih1 _ _ _ _ _ _) | (with_reducible exact LeO.refl _) | (with_reducible refine LeO.ite ?_ ?_)
theorem dW.mono : ∀ a0 k, LeO (dW.f k a0) (dW.f (k + 1) a0) := by
 intro a0 k; obtain ⟨ih0, ih1⟩ := dW.ig k; unfold dW.f
 repeat' (with_reducible exact ih0 _ _ _ _ _ _ _)
set_option maxHeartbeats 8000000 in
set_option maxRecDepth 100000 in
theorem dW.calls (k : Nat) (A0 : Option Addr) (c0 : Nat) (l0 : List (S27)) (r1 : Int) (r2 : Int) (r3 : Bool) (w : World) (hr0 : Kd.C k27 w A0 l0.length l0) (hc0 : l0.length ≤ c0) (h : dW.f k l0 = some (r1, r2, r3)) :
 Calls Try.prog 82 #[.slice A0 l0.length c0] w fun e w' => e = .returned (.tuple #[.int .i64 r1, .int .i64 r2, .bool r3]) ∧ Below w.heap.size w w' := by
 have hu27 := Try.underlying27; have HR0 := aa.mk hr0; have HC0 := aa.mk hc0; clear hr0 hc0; have HB := aa.mk (Below.refl w.heap.size w); have H : (dW.l0 k l0 0 0 true l0 (l0.length : Int) 0) = some (r1, r2, r3) := h; clear h; have H' := aa.mk H; clear H; go_enter Try.func82, Try.ntmps82; go_wp2; (go_loopg [2, 3, 11] k (fun kq v2 v3 v11 w' => ∃ (CX : Int) (wm : Int) (nM : Int), v2 = .int .i64 CX ∧ v3 = .int .i64 wm ∧ v11 = .int .i64 nM ∧ aa (dW.l0 kq l0 CX wm true l0 (l0.length : Int) nM = some (r1, r2, r3)) ∧ aa (kq ≤ k) ∧ aa (Below w.heap.size w w'))); case atStart => exact ⟨(0), (0), (0), (by rfl), (by rfl), (by rfl), H', ⟨Nat.le_refl _⟩, ⟨by exact HB.out⟩⟩
 case round =>
  clear H'; obtain ⟨CX, wm, nM, rfl, rfl, rfl, HA, HK1, HB⟩ := hrel
  cases gk with
  | zero => exact absurd HA.out (by simp [dW.l0])
  | succ k1 =>
   have H := HA.out; clear HA; simp only [dW.l0] at H; by_cases c2 : nM < (l0.length : Int)
   ·rw [if_pos c2] at H; have Iz : decide (nM < (l0.length : Int)) = true := decide_eq_true c2; clear c2; by_cases c3 : 0 ≤ nM
    ·rw [if_pos c3] at H; have yH : decide (0 ≤ nM) = true := decide_eq_true c3; clear c3; by_cases c4 : nM < (l0.length : Int)
     ·rw [if_pos c4] at H; have AB : decide (nM < (l0.length : Int)) = true := decide_eq_true c4; clear c4; have H' := aa.mk H; clear H; have Sn : 0 ≤ (nM : Int) := of_decide_eq_true (by with_reducible assumption); have SB : nM < (l0.length : Int) := of_decide_eq_true (by with_reducible assumption); obtain ⟨ak3, e1166, ED, Gr⟩ := Ji HR0.out nM Sn SB; cases e1166; replace ED := (HB.out.cell (World.block_lt_of_cell? w _ ED)).trans ED; replace Gr := (HB.out.cell (World.block_lt_of_cell? w _ Gr)).trans Gr; replace Sn := eq_true Sn; replace SB := eq_true SB; (go_wp2_with (((with_reducible refine dN (N := 6) rfl ?_); refine eB ?hg (N := 6) ?hd (cs := #[.int .i64 0, .int .i64 0]) (t := 27) ?hr ?_; (case hd => rfl); (case hg => rfl); (case hr => (go_simp; done)); intro ze hg w5 hbox hb; have FF := aa.mk (hbox); have Sk := aa.mk ((by rw [hg]; exact (ak (by exact HB.out)) : w.heap.size ≤ ze)); have NB := aa.mk ((by rw [hg]; exact (ak (by exact HB.out)) : w.heap.size ≤ ze)); replace HB := aa.mk (aM (by exact HB.out) hb); clear hb hbox hg; obtain ⟨yV, zk, yQ, zw⟩ := qf FF.out))); (repeat (go_quiet (first | ((with_reducible refine dN (N := 6) rfl ?_); refine eB ?hg (N := 6) ?hd (cs := #[.int .i64 0, .int .i64 0]) (t := 27) ?hr ?_; (case hd => rfl); (case hg => rfl); (case hr => first | (go_simp; done) | (go_simp; rfl)); intro ze hg w5 hbox hb; have FF := aa.mk (hbox); have Sk := aa.mk ((by rw [hg]; exact (ak (by repeat (first | (with_reducible first | exact HB.out | apply bK | apply gH | apply iO) | exact HB.out))) : w.heap.size ≤ ze)); have NB := aa.mk ((by rw [hg]; exact (ak (by repeat (first | (with_reducible first | exact HB.out | apply bK | apply gH | apply iO) | exact HB.out))) : w.heap.size ≤ ze)); replace HB := aa.mk (aM (by repeat (first | (with_reducible first | exact HB.out | apply bK | apply gH | apply iO) | exact HB.out)) hb); clear hb hbox hg; obtain ⟨yV, zk, yQ, zw⟩ := qf FF.out)); go_wp2_with (first | ((with_reducible refine dN (N := 6) rfl ?_); refine eB ?hg (N := 6) ?hd (cs := #[.int .i64 0, .int .i64 0]) (t := 27) ?hr ?_; (case hd => rfl); (case hg => rfl); (case hr => first | (go_simp; done) | (go_simp; rfl)); intro ze hg w5 hbox hb; have FF := aa.mk (hbox); have Sk := aa.mk ((by rw [hg]; exact (ak (by repeat (first | (with_reducible first | exact HB.out | apply bK | apply gH | apply iO) | exact HB.out))) : w.heap.size ≤ ze)); have NB := aa.mk ((by rw [hg]; exact (ak (by repeat (first | (with_reducible first | exact HB.out | apply bK | apply gH | apply iO) | exact HB.out))) : w.heap.size ≤ ze)); replace HB := aa.mk (aM (by repeat (first | (with_reducible first | exact HB.out | apply bK | apply gH | apply iO) | exact HB.out)) hb); clear hb hbox hg; obtain ⟨yV, zk, yQ, zw⟩ := qf FF.out)))); go_roundg k1; (case measure => have := HK1.out; omega); case rel => exact ⟨(Go.bits .or .i64 CX ((iM l0 nM).f0)), (Go.bits .or .i64 wm ((iM l0 nM).f1)), (wrap64 (nM + 1)), (by rfl), (by rfl), (by rfl), H', ⟨by have := HK1.out; omega⟩, ⟨by repeat ((with_reducible first | exact HB.out | apply gH | refine dB ?_ NB.out))⟩⟩
     ·rw [if_neg c4] at H; exact absurd H (by simp)
    ·rw [if_neg c3] at H; exact absurd H (by simp)
   ·rw [if_neg c2] at H; have Iz : decide (nM < (l0.length : Int)) = false := decide_eq_false c2; clear c2; have H' := aa.mk H; clear H; go_wp2; (go_loopg [4, 26] k1 (fun kq v4 v26 w' => ∃ (YZ : Bool) (rW : Int), v4 = .bool YZ ∧ v26 = .int .i64 rW ∧ aa (dW.l1 kq CX wm YZ l0 (l0.length : Int) rW = some (r1, r2, r3)) ∧ aa (kq ≤ k1) ∧ aa (Below w.heap.size w w'))); case atStart => exact ⟨(true), (0), (by rfl), (by rfl), H', ⟨Nat.le_refl _⟩, ⟨by exact HB.out⟩⟩
    case round =>
     clear H' Iz; obtain ⟨YZ, rW, rfl, rfl, HA, HK2, HB⟩ := hrel
     cases gk with
     | zero => exact absurd HA.out (by simp [dW.l1])
     | succ k2 =>
      have H := HA.out; clear HA; simp only [dW.l1] at H; by_cases c7 : rW < (l0.length : Int)
      ·rw [if_pos c7] at H; have NR : decide (rW < (l0.length : Int)) = true := decide_eq_true c7; clear c7; by_cases c8 : 0 ≤ rW
       ·rw [if_pos c8] at H; have Ud : decide (0 ≤ rW) = true := decide_eq_true c8; clear c8; by_cases c9 : rW < (l0.length : Int)
        ·rw [if_pos c9] at H; have aaY : decide (rW < (l0.length : Int)) = true := decide_eq_true c9; clear c9; by_cases c10 : YZ = true
         ·subst c10; rw [if_pos rfl] at H; have H' := aa.mk H; clear H; have EC : 0 ≤ (rW : Int) := of_decide_eq_true (by with_reducible assumption); have FY : rW < (l0.length : Int) := of_decide_eq_true (by with_reducible assumption); obtain ⟨aa4, e1168, vR, vI⟩ := Ji HR0.out rW EC FY; cases e1168; replace vR := (HB.out.cell (World.block_lt_of_cell? w _ vR)).trans vR; replace vI := (HB.out.cell (World.block_lt_of_cell? w _ vI)).trans vI; replace EC := eq_true EC; replace FY := eq_true FY; (go_wp2_with (((with_reducible refine dN (N := 8) rfl ?_); refine eB ?hg (N := 8) ?hd (cs := #[.int .i64 0, .int .i64 0]) (t := 27) ?hr ?_; (case hd => rfl); (case hg => rfl); (case hr => (go_simp; done)); intro Gp hg w11 hbox hb; have Mo := aa.mk (hbox); have acp := aa.mk ((by rw [hg]; exact (ak (by exact HB.out)) : w.heap.size ≤ Gp)); have NT := aa.mk ((by rw [hg]; exact (ak (by exact HB.out)) : w.heap.size ≤ Gp)); replace HB := aa.mk (aM (by exact HB.out) hb); clear hb hbox hg; obtain ⟨Je, JY, JV, JR⟩ := qf Mo.out))); go_roundg k2; (case measure => have := HK1.out; have := HK2.out; omega); case rel => exact ⟨(((Go.bits .and .i64 wm ((iM l0 rW).f0)) == ((iM l0 rW).f1))), (wrap64 (rW + 1)), (by rfl), (by rfl), H', ⟨by have := HK1.out; have := HK2.out; omega⟩, ⟨by repeat ((with_reducible first | exact HB.out | refine dB ?_ NT.out))⟩⟩
         ·replace c10 := Bool.eq_false_iff.mpr c10; subst c10; rw [if_neg (show ¬ (false = true) by decide)] at H; have H' := aa.mk H; clear H; have EC : 0 ≤ (rW : Int) := of_decide_eq_true (by with_reducible assumption); have FY : rW < (l0.length : Int) := of_decide_eq_true (by with_reducible assumption); obtain ⟨aa4, e1168, vR, vI⟩ := Ji HR0.out rW EC FY; cases e1168; replace vR := (HB.out.cell (World.block_lt_of_cell? w _ vR)).trans vR; replace vI := (HB.out.cell (World.block_lt_of_cell? w _ vI)).trans vI; replace EC := eq_true EC; replace FY := eq_true FY; (go_wp2_with (((with_reducible refine dN (N := 8) rfl ?_); refine eB ?hg (N := 8) ?hd (cs := #[.int .i64 0, .int .i64 0]) (t := 27) ?hr ?_; (case hd => rfl); (case hg => rfl); (case hr => (go_simp; done)); intro Gp hg w13 hbox hb; have Mo := aa.mk (hbox); have acp := aa.mk ((by rw [hg]; exact (ak (by exact HB.out)) : w.heap.size ≤ Gp)); have NT := aa.mk ((by rw [hg]; exact (ak (by exact HB.out)) : w.heap.size ≤ Gp)); replace HB := aa.mk (aM (by exact HB.out) hb); clear hb hbox hg; obtain ⟨Ja, JC, JI, J9⟩ := qf Mo.out))); go_roundg k2; (case measure => have := HK1.out; have := HK2.out; omega); case rel => exact ⟨(false), (wrap64 (rW + 1)), (by rfl), (by rfl), H', ⟨by have := HK1.out; have := HK2.out; omega⟩, ⟨by repeat ((with_reducible first | exact HB.out | refine dB ?_ NT.out))⟩⟩
        ·rw [if_neg c9] at H; exact absurd H (by simp)
       ·rw [if_neg c8] at H; exact absurd H (by simp)
      ·rw [if_neg c7] at H; have NR : decide (rW < (l0.length : Int)) = false := decide_eq_false c7; clear c7; simp only [Option.some.injEq, Prod.mk.injEq] at H; obtain ⟨rfl, rfl, rfl⟩ := H; go_wp2
       go_ret3
       exact ⟨by rfl, by exact HB.out⟩
def mQ.f (a0 : Int) : Option (Int) := some (Go.bits .and .i64 (wrap64 (IntKind.u64.wrap ((IntKind.u64.wrap ((IntKind.u64.wrap ((Go.bits .and .u64 (IntKind.u64.wrap (((IntKind.u64.wrap ((Go.bits .and .u64 ((IntKind.u64.wrap ((Go.bits .and .u64 (a0 / 2) 6148914691236517205) + (Go.bits .and .u64 a0 6148914691236517205))) / 4) 3689348814741910323) + (Go.bits .and .u64 (IntKind.u64.wrap ((Go.bits .and .u64 (a0 / 2) 6148914691236517205) + (Go.bits .and .u64 a0 6148914691236517205))) 3689348814741910323))) / 16) + (IntKind.u64.wrap ((Go.bits .and .u64 ((IntKind.u64.wrap ((Go.bits .and .u64 (a0 / 2) 6148914691236517205) + (Go.bits .and .u64 a0 6148914691236517205))) / 4) 3689348814741910323) + (Go.bits .and .u64 (IntKind.u64.wrap ((Go.bits .and .u64 (a0 / 2) 6148914691236517205) + (Go.bits .and .u64 a0 6148914691236517205))) 3689348814741910323))))) 1085102592571150095) + ((Go.bits .and .u64 (IntKind.u64.wrap (((IntKind.u64.wrap ((Go.bits .and .u64 ((IntKind.u64.wrap ((Go.bits .and .u64 (a0 / 2) 6148914691236517205) + (Go.bits .and .u64 a0 6148914691236517205))) / 4) 3689348814741910323) + (Go.bits .and .u64 (IntKind.u64.wrap ((Go.bits .and .u64 (a0 / 2) 6148914691236517205) + (Go.bits .and .u64 a0 6148914691236517205))) 3689348814741910323))) / 16) + (IntKind.u64.wrap ((Go.bits .and .u64 ((IntKind.u64.wrap ((Go.bits .and .u64 (a0 / 2) 6148914691236517205) + (Go.bits .and .u64 a0 6148914691236517205))) / 4) 3689348814741910323) + (Go.bits .and .u64 (IntKind.u64.wrap ((Go.bits .and .u64 (a0 / 2) 6148914691236517205) + (Go.bits .and .u64 a0 6148914691236517205))) 3689348814741910323))))) 1085102592571150095) / 256))) + ((IntKind.u64.wrap ((Go.bits .and .u64 (IntKind.u64.wrap (((IntKind.u64.wrap ((Go.bits .and .u64 ((IntKind.u64.wrap ((Go.bits .and .u64 (a0 / 2) 6148914691236517205) + (Go.bits .and .u64 a0 6148914691236517205))) / 4) 3689348814741910323) + (Go.bits .and .u64 (IntKind.u64.wrap ((Go.bits .and .u64 (a0 / 2) 6148914691236517205) + (Go.bits .and .u64 a0 6148914691236517205))) 3689348814741910323))) / 16) + (IntKind.u64.wrap ((Go.bits .and .u64 ((IntKind.u64.wrap ((Go.bits .and .u64 (a0 / 2) 6148914691236517205) + (Go.bits .and .u64 a0 6148914691236517205))) / 4) 3689348814741910323) + (Go.bits .and .u64 (IntKind.u64.wrap ((Go.bits .and .u64 (a0 / 2) 6148914691236517205) + (Go.bits .and .u64 a0 6148914691236517205))) 3689348814741910323))))) 1085102592571150095) + ((Go.bits .and .u64 (IntKind.u64.wrap (((IntKind.u64.wrap ((Go.bits .and .u64 ((IntKind.u64.wrap ((Go.bits .and .u64 (a0 / 2) 6148914691236517205) + (Go.bits .and .u64 a0 6148914691236517205))) / 4) 3689348814741910323) + (Go.bits .and .u64 (IntKind.u64.wrap ((Go.bits .and .u64 (a0 / 2) 6148914691236517205) + (Go.bits .and .u64 a0 6148914691236517205))) 3689348814741910323))) / 16) + (IntKind.u64.wrap ((Go.bits .and .u64 ((IntKind.u64.wrap ((Go.bits .and .u64 (a0 / 2) 6148914691236517205) + (Go.bits .and .u64 a0 6148914691236517205))) / 4) 3689348814741910323) + (Go.bits .and .u64 (IntKind.u64.wrap ((Go.bits .and .u64 (a0 / 2) 6148914691236517205) + (Go.bits .and .u64 a0 6148914691236517205))) 3689348814741910323))))) 1085102592571150095) / 256))) / 65536))) + ((IntKind.u64.wrap ((IntKind.u64.wrap ((Go.bits .and .u64 (IntKind.u64.wrap (((IntKind.u64.wrap ((Go.bits .and .u64 ((IntKind.u64.wrap ((Go.bits .and .u64 (a0 / 2) 6148914691236517205) + (Go.bits .and .u64 a0 6148914691236517205))) / 4) 3689348814741910323) + (Go.bits .and .u64 (IntKind.u64.wrap ((Go.bits .and .u64 (a0 / 2) 6148914691236517205) + (Go.bits .and .u64 a0 6148914691236517205))) 3689348814741910323))) / 16) + (IntKind.u64.wrap ((Go.bits .and .u64 ((IntKind.u64.wrap ((Go.bits .and .u64 (a0 / 2) 6148914691236517205) + (Go.bits .and .u64 a0 6148914691236517205))) / 4) 3689348814741910323) + (Go.bits .and .u64 (IntKind.u64.wrap ((Go.bits .and .u64 (a0 / 2) 6148914691236517205) + (Go.bits .and .u64 a0 6148914691236517205))) 3689348814741910323))))) 1085102592571150095) + ((Go.bits .and .u64 (IntKind.u64.wrap (((IntKind.u64.wrap ((Go.bits .and .u64 ((IntKind.u64.wrap ((Go.bits .and .u64 (a0 / 2) 6148914691236517205) + (Go.bits .and .u64 a0 6148914691236517205))) / 4) 3689348814741910323) + (Go.bits .and .u64 (IntKind.u64.wrap ((Go.bits .and .u64 (a0 / 2) 6148914691236517205) + (Go.bits .and .u64 a0 6148914691236517205))) 3689348814741910323))) / 16) + (IntKind.u64.wrap ((Go.bits .and .u64 ((IntKind.u64.wrap ((Go.bits .and .u64 (a0 / 2) 6148914691236517205) + (Go.bits .and .u64 a0 6148914691236517205))) / 4) 3689348814741910323) + (Go.bits .and .u64 (IntKind.u64.wrap ((Go.bits .and .u64 (a0 / 2) 6148914691236517205) + (Go.bits .and .u64 a0 6148914691236517205))) 3689348814741910323))))) 1085102592571150095) / 256))) + ((IntKind.u64.wrap ((Go.bits .and .u64 (IntKind.u64.wrap (((IntKind.u64.wrap ((Go.bits .and .u64 ((IntKind.u64.wrap ((Go.bits .and .u64 (a0 / 2) 6148914691236517205) + (Go.bits .and .u64 a0 6148914691236517205))) / 4) 3689348814741910323) + (Go.bits .and .u64 (IntKind.u64.wrap ((Go.bits .and .u64 (a0 / 2) 6148914691236517205) + (Go.bits .and .u64 a0 6148914691236517205))) 3689348814741910323))) / 16) + (IntKind.u64.wrap ((Go.bits .and .u64 ((IntKind.u64.wrap ((Go.bits .and .u64 (a0 / 2) 6148914691236517205) + (Go.bits .and .u64 a0 6148914691236517205))) / 4) 3689348814741910323) + (Go.bits .and .u64 (IntKind.u64.wrap ((Go.bits .and .u64 (a0 / 2) 6148914691236517205) + (Go.bits .and .u64 a0 6148914691236517205))) 3689348814741910323))))) 1085102592571150095) + ((Go.bits .and .u64 (IntKind.u64.wrap (((IntKind.u64.wrap ((Go.bits .and .u64 ((IntKind.u64.wrap ((Go.bits .and .u64 (a0 / 2) 6148914691236517205) + (Go.bits .and .u64 a0 6148914691236517205))) / 4) 3689348814741910323) + (Go.bits .and .u64 (IntKind.u64.wrap ((Go.bits .and .u64 (a0 / 2) 6148914691236517205) + (Go.bits .and .u64 a0 6148914691236517205))) 3689348814741910323))) / 16) + (IntKind.u64.wrap ((Go.bits .and .u64 ((IntKind.u64.wrap ((Go.bits .and .u64 (a0 / 2) 6148914691236517205) + (Go.bits .and .u64 a0 6148914691236517205))) / 4) 3689348814741910323) + (Go.bits .and .u64 (IntKind.u64.wrap ((Go.bits .and .u64 (a0 / 2) 6148914691236517205) + (Go.bits .and .u64 a0 6148914691236517205))) 3689348814741910323))))) 1085102592571150095) / 256))) / 65536))) / 4294967296)))) 127)
set_option maxHeartbeats 8000000 in
set_option maxRecDepth 100000 in
theorem mQ.calls (a0 : Int) (r : Int) (w : World) (h : mQ.f a0 = some r) :
 Calls Try.prog 100 #[.int .u64 a0] w fun e w' => e = .returned (.int .i64 r) ∧ gy w w' := by
 have H : (some (Go.bits .and .i64 (wrap64 (IntKind.u64.wrap ((IntKind.u64.wrap ((IntKind.u64.wrap ((Go.bits .and .u64 (IntKind.u64.wrap (((IntKind.u64.wrap ((Go.bits .and .u64 ((IntKind.u64.wrap ((Go.bits .and .u64 (a0 / 2) 6148914691236517205) + (Go.bits .and .u64 a0 6148914691236517205))) / 4) 3689348814741910323) + (Go.bits .and .u64 (IntKind.u64.wrap ((Go.bits .and .u64 (a0 / 2) 6148914691236517205) + (Go.bits .and .u64 a0 6148914691236517205))) 3689348814741910323))) / 16) + (IntKind.u64.wrap ((Go.bits .and .u64 ((IntKind.u64.wrap ((Go.bits .and .u64 (a0 / 2) 6148914691236517205) + (Go.bits .and .u64 a0 6148914691236517205))) / 4) 3689348814741910323) + (Go.bits .and .u64 (IntKind.u64.wrap ((Go.bits .and .u64 (a0 / 2) 6148914691236517205) + (Go.bits .and .u64 a0 6148914691236517205))) 3689348814741910323))))) 1085102592571150095) + ((Go.bits .and .u64 (IntKind.u64.wrap (((IntKind.u64.wrap ((Go.bits .and .u64 ((IntKind.u64.wrap ((Go.bits .and .u64 (a0 / 2) 6148914691236517205) + (Go.bits .and .u64 a0 6148914691236517205))) / 4) 3689348814741910323) + (Go.bits .and .u64 (IntKind.u64.wrap ((Go.bits .and .u64 (a0 / 2) 6148914691236517205) + (Go.bits .and .u64 a0 6148914691236517205))) 3689348814741910323))) / 16) + (IntKind.u64.wrap ((Go.bits .and .u64 ((IntKind.u64.wrap ((Go.bits .and .u64 (a0 / 2) 6148914691236517205) + (Go.bits .and .u64 a0 6148914691236517205))) / 4) 3689348814741910323) + (Go.bits .and .u64 (IntKind.u64.wrap ((Go.bits .and .u64 (a0 / 2) 6148914691236517205) + (Go.bits .and .u64 a0 6148914691236517205))) 3689348814741910323))))) 1085102592571150095) / 256))) + ((IntKind.u64.wrap ((Go.bits .and .u64 (IntKind.u64.wrap (((IntKind.u64.wrap ((Go.bits .and .u64 ((IntKind.u64.wrap ((Go.bits .and .u64 (a0 / 2) 6148914691236517205) + (Go.bits .and .u64 a0 6148914691236517205))) / 4) 3689348814741910323) + (Go.bits .and .u64 (IntKind.u64.wrap ((Go.bits .and .u64 (a0 / 2) 6148914691236517205) + (Go.bits .and .u64 a0 6148914691236517205))) 3689348814741910323))) / 16) + (IntKind.u64.wrap ((Go.bits .and .u64 ((IntKind.u64.wrap ((Go.bits .and .u64 (a0 / 2) 6148914691236517205) + (Go.bits .and .u64 a0 6148914691236517205))) / 4) 3689348814741910323) + (Go.bits .and .u64 (IntKind.u64.wrap ((Go.bits .and .u64 (a0 / 2) 6148914691236517205) + (Go.bits .and .u64 a0 6148914691236517205))) 3689348814741910323))))) 1085102592571150095) + ((Go.bits .and .u64 (IntKind.u64.wrap (((IntKind.u64.wrap ((Go.bits .and .u64 ((IntKind.u64.wrap ((Go.bits .and .u64 (a0 / 2) 6148914691236517205) + (Go.bits .and .u64 a0 6148914691236517205))) / 4) 3689348814741910323) + (Go.bits .and .u64 (IntKind.u64.wrap ((Go.bits .and .u64 (a0 / 2) 6148914691236517205) + (Go.bits .and .u64 a0 6148914691236517205))) 3689348814741910323))) / 16) + (IntKind.u64.wrap ((Go.bits .and .u64 ((IntKind.u64.wrap ((Go.bits .and .u64 (a0 / 2) 6148914691236517205) + (Go.bits .and .u64 a0 6148914691236517205))) / 4) 3689348814741910323) + (Go.bits .and .u64 (IntKind.u64.wrap ((Go.bits .and .u64 (a0 / 2) 6148914691236517205) + (Go.bits .and .u64 a0 6148914691236517205))) 3689348814741910323))))) 1085102592571150095) / 256))) / 65536))) + ((IntKind.u64.wrap ((IntKind.u64.wrap ((Go.bits .and .u64 (IntKind.u64.wrap (((IntKind.u64.wrap ((Go.bits .and .u64 ((IntKind.u64.wrap ((Go.bits .and .u64 (a0 / 2) 6148914691236517205) + (Go.bits .and .u64 a0 6148914691236517205))) / 4) 3689348814741910323) + (Go.bits .and .u64 (IntKind.u64.wrap ((Go.bits .and .u64 (a0 / 2) 6148914691236517205) + (Go.bits .and .u64 a0 6148914691236517205))) 3689348814741910323))) / 16) + (IntKind.u64.wrap ((Go.bits .and .u64 ((IntKind.u64.wrap ((Go.bits .and .u64 (a0 / 2) 6148914691236517205) + (Go.bits .and .u64 a0 6148914691236517205))) / 4) 3689348814741910323) + (Go.bits .and .u64 (IntKind.u64.wrap ((Go.bits .and .u64 (a0 / 2) 6148914691236517205) + (Go.bits .and .u64 a0 6148914691236517205))) 3689348814741910323))))) 1085102592571150095) + ((Go.bits .and .u64 (IntKind.u64.wrap (((IntKind.u64.wrap ((Go.bits .and .u64 ((IntKind.u64.wrap ((Go.bits .and .u64 (a0 / 2) 6148914691236517205) + (Go.bits .and .u64 a0 6148914691236517205))) / 4) 3689348814741910323) + (Go.bits .and .u64 (IntKind.u64.wrap ((Go.bits .and .u64 (a0 / 2) 6148914691236517205) + (Go.bits .and .u64 a0 6148914691236517205))) 3689348814741910323))) / 16) + (IntKind.u64.wrap ((Go.bits .and .u64 ((IntKind.u64.wrap ((Go.bits .and .u64 (a0 / 2) 6148914691236517205) + (Go.bits .and .u64 a0 6148914691236517205))) / 4) 3689348814741910323) + (Go.bits .and .u64 (IntKind.u64.wrap ((Go.bits .and .u64 (a0 / 2) 6148914691236517205) + (Go.bits .and .u64 a0 6148914691236517205))) 3689348814741910323))))) 1085102592571150095) / 256))) + ((IntKind.u64.wrap ((Go.bits .and .u64 (IntKind.u64.wrap (((IntKind.u64.wrap ((Go.bits .and .u64 ((IntKind.u64.wrap ((Go.bits .and .u64 (a0 / 2) 6148914691236517205) + (Go.bits .and .u64 a0 6148914691236517205))) / 4) 3689348814741910323) + (Go.bits .and .u64 (IntKind.u64.wrap ((Go.bits .and .u64 (a0 / 2) 6148914691236517205) + (Go.bits .and .u64 a0 6148914691236517205))) 3689348814741910323))) / 16) + (IntKind.u64.wrap ((Go.bits .and .u64 ((IntKind.u64.wrap ((Go.bits .and .u64 (a0 / 2) 6148914691236517205) + (Go.bits .and .u64 a0 6148914691236517205))) / 4) 3689348814741910323) + (Go.bits .and .u64 (IntKind.u64.wrap ((Go.bits .and .u64 (a0 / 2) 6148914691236517205) + (Go.bits .and .u64 a0 6148914691236517205))) 3689348814741910323))))) 1085102592571150095) + ((Go.bits .and .u64 (IntKind.u64.wrap (((IntKind.u64.wrap ((Go.bits .and .u64 ((IntKind.u64.wrap ((Go.bits .and .u64 (a0 / 2) 6148914691236517205) + (Go.bits .and .u64 a0 6148914691236517205))) / 4) 3689348814741910323) + (Go.bits .and .u64 (IntKind.u64.wrap ((Go.bits .and .u64 (a0 / 2) 6148914691236517205) + (Go.bits .and .u64 a0 6148914691236517205))) 3689348814741910323))) / 16) + (IntKind.u64.wrap ((Go.bits .and .u64 ((IntKind.u64.wrap ((Go.bits .and .u64 (a0 / 2) 6148914691236517205) + (Go.bits .and .u64 a0 6148914691236517205))) / 4) 3689348814741910323) + (Go.bits .and .u64 (IntKind.u64.wrap ((Go.bits .and .u64 (a0 / 2) 6148914691236517205) + (Go.bits .and .u64 a0 6148914691236517205))) 3689348814741910323))))) 1085102592571150095) / 256))) / 65536))) / 4294967296)))) 127)) = some r := h; clear h; obtain rfl := Option.some.inj H; go_enter Try.func100, Try.ntmps100; go_wp2
 go_ret
 exact ⟨by rfl, by exact gy.refl _⟩
def oJ.f (a0 : Int) : Option (Int) := (mQ.f a0).bind fun KO => (some KO)
set_option maxHeartbeats 8000000 in
set_option maxRecDepth 100000 in
theorem oJ.calls (a0 : Int) (r : Int) (w : World) (h : oJ.f a0 = some r) :
 Calls Try.prog 87 #[.int .u64 a0] w fun e w' => e = .returned (.int .i64 r) ∧ gy w w' := by
 have H : ((mQ.f a0).bind fun KO => (some KO)) = some r := h; clear h; replace H := Option.bind_eq_some_iff.mp H; obtain ⟨KO, A20, H⟩ := H; have A2 := aa.mk A20; clear A20; obtain rfl := Option.some.inj H; go_enter Try.func87, Try.ntmps87; go_wp2_with (((with_reducible refine bR (f := 100) rfl ?_); refine fJ (some 7) rfl rfl Try.func100 (by kernel_rfl) rfl #[.int .u64 a0] rfl (by (simp only [List.map_toArray, List.map_cons, List.map_nil]); rfl) ?_; (with_reducible refine (mQ.calls a0 KO _ A2.out).mono ?_); rintro e w' ⟨rfl, ⟨nd, rfl⟩⟩; refine ⟨_, rfl, ?_⟩))
 go_ret
 exact ⟨by rfl, by repeat (first | exact gy.refl _ | apply gy.step)⟩
def jT.f (a0 : Int) : Option (Int) := (oJ.f (IntKind.u64.wrap (a0))).bind fun Ko => (some Ko)
set_option maxHeartbeats 8000000 in
set_option maxRecDepth 100000 in
theorem jT.calls (a0 : Int) (r : Int) (w : World) (h : jT.f a0 = some r) :
 Calls Try.prog 83 #[.int .i64 a0] w fun e w' => e = .returned (.int .i64 r) ∧ gy w w' := by
 have H : ((oJ.f (IntKind.u64.wrap (a0))).bind fun Ko => (some Ko)) = some r := h; clear h; replace H := Option.bind_eq_some_iff.mp H; obtain ⟨Ko, A20, H⟩ := H; have A2 := aa.mk A20; clear A20; obtain rfl := Option.some.inj H; go_enter Try.func83, Try.ntmps83; go_wp2_with (((with_reducible refine bR (f := 87) rfl ?_); refine fJ (some 5) rfl rfl Try.func87 (by kernel_rfl) rfl #[.int .u64 (IntKind.u64.wrap (a0))] rfl (by (simp only [List.map_toArray, List.map_cons, List.map_nil]); rfl) ?_; (with_reducible refine (oJ.calls (IntKind.u64.wrap (a0)) Ko _ A2.out).mono ?_); rintro e w' ⟨rfl, ⟨nd, rfl⟩⟩; refine ⟨_, rfl, ?_⟩))
 go_ret
 exact ⟨by rfl, by repeat (first | exact gy.refl _ | apply gy.step)⟩
def iy.f (a0 : Int) (a1 : Int) : Option (Int) := some (Go.bits .andNot .i64 a0 a1)
set_option maxHeartbeats 8000000 in
set_option maxRecDepth 100000 in
theorem iy.calls (a0 : Int) (a1 : Int) (r : Int) (w : World) (h : iy.f a0 a1 = some r) :
 Calls Try.prog 65 #[.int .i64 a0, .int .i64 a1] w fun e w' => e = .returned (.int .i64 r) ∧ gy w w' := by
 have H : (some (Go.bits .andNot .i64 a0 a1)) = some r := h; clear h; obtain rfl := Option.some.inj H; go_enter Try.func65, Try.ntmps65; go_wp2
 go_ret
 exact ⟨by first | rfl | (simp; done) | (simp [*]; done), by repeat (first | exact gy.refl _ | apply gy.step)⟩
end Go.Proofs.Ytihedeofkhapiaa.Pr
end
section
namespace Go.Proofs.Ytihedeofkhapiaa.Pr
open Go.RowKit Go.Proofs.YtihedeofkhapiaaW.PrintWords Go.Proofs.YtihedeofkhapiaaW.PrintLast Go.Proofs.YtihedeofkhapiaaW.PrintMore
theorem C8 {i : Int} {n : Nat} (h0 : 0 ≤ i) (h : i < (n : Int)) (hn : n ≤ 9223372036854775807) : wrap64 (i + 1) = i + 1 := by
 unfold wrap64; omega
theorem oK {α : Type} (l : List α) (d : α) (i : Nat) (h : i < l.length) : l.drop i = l.getD i d :: l.drop (i + 1) := by
 rw [List.drop_eq_getElem_cons h]; simp [List.getD_eq_getElem?_getD, List.getElem?_eq_getElem h]
def seenStep (s : Int × Int) (x : S27) : Int × Int := (Go.bits .or .i64 s.1 x.f0, Go.bits .or .i64 s.2 x.f1)
def EU (l : List S27) : Int × Int := l.foldl seenStep (0, 0)
def zq (v : Int) (b : Bool) (x : S27) : Bool := if b = true then (Go.bits .and .i64 v x.f0 == x.f1) else false
def ky (l : List S27) : Int × Int × Bool := ((EU l).1, (EU l).2, l.foldl (zq (EU l).2) true)
theorem Ze (l : List S27) (hl : l.length ≤ 9223372036854775807) (x2 x3 : Int) : ∀ (d k i : Nat) (b : Bool), i + d = l.length → d < k →
 dW.l1 k x2 x3 b l (l.length : Int) (i : Int) = some (x2, x3, (l.drop i).foldl (zq x3) b) := by
 intro d
 induction d with
 | zero =>
  intro k i b hi hk; obtain ⟨k, rfl⟩ : ∃ m, k = m + 1 := ⟨k - 1, by omega⟩; simp only [dW.l1]; rw [if_neg (by omega), List.drop_eq_nil_of_le (by omega)]; rfl
 | succ d ih =>
  intro k i b hi hk; obtain ⟨k, rfl⟩ : ∃ m, k = m + 1 := ⟨k - 1, by omega⟩; simp only [dW.l1]; rw [if_pos (by omega), if_pos (by omega), if_pos (by omega), C8 (by omega) (by omega) hl, oK l z27 i (by omega)]; (have e : iM l (i : Int) = l.getD i z27 := by simp [iM]); rw [e, List.foldl_cons]; have hc : ((i : Int) + 1) = ((i + 1 : Nat) : Int) := by omega
  cases b with
  | true =>
   rw [if_pos rfl, hc, ih k (i + 1) _ (by omega) (by omega)]; simp [zq]
  | false =>
   rw [if_neg (by decide), hc, ih k (i + 1) _ (by omega) (by omega)]; simp [zq]
theorem Zc (l : List S27) (hl : l.length ≤ 9223372036854775807) : ∀ (d k i : Nat) (s : Int × Int), i + d = l.length → l.length + d + 1 < k →
 dW.l0 k l s.1 s.2 true l (l.length : Int) (i : Int) = some (((l.drop i).foldl seenStep s).1, ((l.drop i).foldl seenStep s).2, l.foldl (zq ((l.drop i).foldl seenStep s).2) true) := by
 intro d
 induction d with
 | zero =>
  intro k i s hi hk; obtain ⟨k, rfl⟩ : ∃ m, k = m + 1 := ⟨k - 1, by omega⟩; simp only [dW.l0]; rw [if_neg (by omega), List.drop_eq_nil_of_le (show l.length ≤ i by omega)]; have := Ze l hl s.1 s.2 l.length k 0 true (by omega) (by omega)
  simpa using this
 | succ d ih =>
  intro k i s hi hk; obtain ⟨k, rfl⟩ : ∃ m, k = m + 1 := ⟨k - 1, by omega⟩; simp only [dW.l0]; rw [if_pos (by omega), if_pos (by omega), if_pos (by omega), C8 (by omega) (by omega) hl, oK l z27 i (by omega)]; (have e : iM l (i : Int) = l.getD i z27 := by simp [iM]); (have hc : ((i : Int) + 1) = ((i + 1 : Nat) : Int) := by omega); rw [e, hc, List.foldl_cons]; exact ih k (i + 1) (seenStep s (l.getD i z27)) (by omega) (by omega)
theorem ab1 (l : List S27) (hl : l.length ≤ 9223372036854775807) : dW.f (2 * l.length + 2) l = some (ky l) := by
 have := Zc l hl l.length (2 * l.length + 2) 0 (0, 0) (by omega) (by omega)
 simpa [dW.f, ky, EU] using this
theorem NI (A0 : Option Addr) (c0 : Nat) (l0 : List S27) (w : World) (hr0 : Kd.C k27 w A0 l0.length l0) (hc0 : l0.length ≤ c0) (hl : l0.length ≤ 9223372036854775807) :
 Calls Try.prog 82 #[.slice A0 l0.length c0] w fun e w' => e = .returned (.tuple #[.int .i64 (ky l0).1, .int .i64 (ky l0).2.1, .bool (ky l0).2.2]) ∧ Below w.heap.size w w' :=
 dW.calls _ A0 c0 l0 _ _ _ w hr0 hc0 (ab1 l0 hl)
def rV (a : Int) : Int := (jT.f a).getD 0
theorem acE (a : Int) : jT.f a = some (rV a) := by
 obtain ⟨r, h⟩ : ∃ r, jT.f a = some r := by
  simp only [jT.f, oJ.f, mQ.f, Option.bind_some]; exact ⟨_, rfl⟩
 rw [rV, h]; rfl
theorem MR (a : Int) (w : World) : Calls Try.prog 83 #[.int .i64 a] w fun e w' => e = .returned (.int .i64 (rV a)) ∧ gy w w' :=
 jT.calls a _ w (acE a)
def jE (a b : Int) : Int := Go.bits .andNot .i64 a b
theorem GZ (a b : Int) (w : World) : Calls Try.prog 65 #[.int .i64 a, .int .i64 b] w fun e w' => e = .returned (.int .i64 (jE a b)) ∧ gy w w' :=
 iy.calls a b _ w rfl
end Go.Proofs.Ytihedeofkhapiaa.Pr
end
section
namespace Go.Proofs.Ytihedeofkhapiaa.Pr
open Go.RowKit Go.Proofs.YtihedeofkhapiaaW.PrintWords Go.Proofs.YtihedeofkhapiaaW.PrintLast Go.Proofs.YtihedeofkhapiaaW.PrintMore
attribute [local go_sem] pU pX ru rz nJ nK pR qa
def dO.l0 : Nat → Int → List Int → Int → Int → Option (Int)
 | 0, _, _, _, _ => none
 | k + 1, x0, x7, x8, x9 => if x9 < x8 then (if 0 ≤ x9 then (if x9 < (x7.length : Int) then (dO.l0 k (mn x0 (rd x7 x9)) x7 x8 (wrap64 (x9 + 1))) else (none)) else (none)) else (some x0)
def dO.f (k : Nat) (a0 : Int) (l1 : List Int) : Option (Int) := dO.l0 k a0 l1 (l1.length : Int) 0
theorem dO.ig : ∀ k, (∀ y0 y1 y2 y3, LeO (dO.l0 k y0 y1 y2 y3) (dO.l0 (k + 1) y0 y1 y2 y3))
 | 0 => fun _ _ _ _ r h => by simp [dO.l0] at h
 | k + 1 => by
  have ih0 := dO.ig k
  ·intro y0 y1 y2 y3; unfold dO.l0
   repeat' first | (with_reducible exact ih0 _ _ _ _) | (with_reducible exact LeO.refl _) | (with_reducible refine LeO.ite ?_ ?_)
theorem dO.mono : ∀ a0 a1 k, LeO (dO.f k a0 a1) (dO.f (k + 1) a0 a1) := by
 intro a0 a1 k; have ih0 := dO.ig k; unfold dO.f
 repeat' (with_reducible exact ih0 _ _ _ _)
set_option maxHeartbeats 8000000 in
set_option maxRecDepth 100000 in
theorem dO.calls (k : Nat) (a0 : Int) (A1 : Option Addr) (c1 : Nat) (l1 : List Int) (r : Int) (w : World) (hr1 : Kd.C (Kd.int .i64) w A1 l1.length l1) (hc1 : l1.length ≤ c1) (h : dO.f k a0 l1 = some r) :
 Calls Try.prog 56 #[.int .i64 a0, .slice A1 l1.length c1] w fun e w' => e = .returned (.int .i64 r) ∧ Below w.heap.size w w' := by
 have HR1 := aa.mk hr1; have HC1 := aa.mk hc1; clear hr1 hc1; have HB := aa.mk (Below.refl w.heap.size w); have H : (dO.l0 k a0 l1 (l1.length : Int) 0) = some r := h; clear h; have H' := aa.mk H; clear H; go_enter Try.func56, Try.ntmps56; go_wp2; (go_loopg [0, 9] k (fun kq v0 v9 w' => ∃ (QJ : Int) (oV : Int), v0 = .int .i64 QJ ∧ v9 = .int .i64 oV ∧ aa (dO.l0 kq QJ l1 (l1.length : Int) oV = some r) ∧ aa (kq ≤ k) ∧ aa (Below w.heap.size w w'))); case atStart => exact ⟨(a0), (0), (by rfl), (by rfl), H', ⟨Nat.le_refl _⟩, ⟨by exact HB.out⟩⟩
 case round =>
  clear H'; obtain ⟨QJ, oV, rfl, rfl, HA, HK1, HB⟩ := hrel
  cases gk with
  | zero => exact absurd HA.out (by simp [dO.l0])
  | succ k1 =>
   have H := HA.out; clear HA; simp only [dO.l0] at H; by_cases c3 : oV < (l1.length : Int)
   ·rw [if_pos c3] at H; have yH : decide (oV < (l1.length : Int)) = true := decide_eq_true c3; clear c3; by_cases c4 : 0 ≤ oV
    ·rw [if_pos c4] at H; have AB : decide (0 ≤ oV) = true := decide_eq_true c4; clear c4; by_cases c5 : oV < (l1.length : Int)
     ·rw [if_pos c5] at H; have yE : decide (oV < (l1.length : Int)) = true := decide_eq_true c5; clear c5; obtain ⟨ji6, agn⟩ : ∃ j_ : Int, (mn QJ (rd l1 oV)) = j_ := ⟨_, rfl⟩; (replace H : (dO.l0 k1 ji6 l1 (l1.length : Int) (wrap64 (oV + 1))) = some r := by (rw [agn] at H; exact H)); have amK : (if (rd l1 oV) < QJ then (rd l1 oV) else QJ) = ji6 := agn; have H' := aa.mk H; clear H; have acB : 0 ≤ (oV : Int) := of_decide_eq_true (by with_reducible assumption); have aa0 : oV < (l1.length : Int) := of_decide_eq_true (by with_reducible assumption); obtain ⟨anv, e124, Jo⟩ := Kd.CW HR1.out oV acB aa0; cases e124; replace Jo := (HB.out.cell (World.block_lt_of_cell? w _ Jo)).trans Jo; replace acB := eq_true acB; replace aa0 := eq_true aa0; go_wp2; go_roundg k1; (case measure => have := HK1.out; omega); case rel => exact ⟨(ji6), (wrap64 (oV + 1)), (by rfl), (by rfl), H', ⟨by have := HK1.out; omega⟩, ⟨by exact HB.out⟩⟩
     ·rw [if_neg c5] at H; exact absurd H (by simp)
    ·rw [if_neg c4] at H; exact absurd H (by simp)
   ·rw [if_neg c3] at H; have yH : decide (oV < (l1.length : Int)) = false := decide_eq_false c3; clear c3; obtain rfl := Option.some.inj H; go_wp2
    go_ret
    exact ⟨by rfl, by exact HB.out⟩
def rq.f (iZ : Int) (aX : Int) (a1 : Int) (NS : Int) (Rb : Int) : Option (Bool) := if iZ = a1 then (some (NS == aX)) else (some true)
set_option maxHeartbeats 8000000 in
set_option maxRecDepth 100000 in
theorem rq.calls (iZ : Int) (aX : Int) (a1 : Int) (NS : Int) (Rb : Int) (r : Bool) (w : World) (h : rq.f iZ aX a1 NS Rb = some r) :
 Calls Try.prog 75 #[.agg #[.int .i64 iZ, .int .u8 aX], .int .i64 a1, .agg #[.int .u8 NS, .int .i64 Rb]] w fun e w' => e = .returned (.bool r) ∧ Below w.heap.size w w' := by
 have hu100 := Try.underlying100; have hu86 := Try.underlying86; have HB := aa.mk (Below.refl w.heap.size w); have H : (if iZ = a1 then (some (NS == aX)) else (some true)) = some r := h; clear h; by_cases c4 : iZ = a1
 ·rw [if_pos c4] at H; have AB : (iZ == a1) = true := beq_iff_eq.mpr c4; have alN : (iZ != a1) = false := bne_eq_false_iff_eq.mpr c4; clear c4; obtain rfl := Option.some.inj H; go_enter Try.func75, Try.ntmps75; go_wp2_with (first | ((with_reducible refine dN (N := 3) rfl ?_); refine eB ?hg (N := 3) ?hd (cs := #[.int .i64 iZ, .int .u8 aX]) (t := 100) ?hr ?_; (case hd => rfl); (case hg => rfl); (case hr => (go_simp; done)); intro xw hg w5 hbox hb; have zx := aa.mk (hbox); have afU := aa.mk ((by rw [hg]; exact (ak (by exact HB.out)) : w.heap.size ≤ xw)); have afa := aa.mk ((by rw [hg]; exact (ak (by exact HB.out)) : w.heap.size ≤ xw)); replace HB := aa.mk (aM (by exact HB.out) hb); clear hb hbox hg) | ((with_reducible refine dN (N := 5) rfl ?_); refine eB ?hg (N := 5) ?hd (cs := #[.int .u8 NS, .int .i64 Rb]) (t := 86) ?hr ?_; (case hd => rfl); (case hg => rfl); (case hr => (go_simp; done)); intro AQ hg w6 hbox hb; have aaC := aa.mk (hbox); have aeQ := aa.mk ((by rw [hg]; exact (ak (by exact HB.out)) : w.heap.size ≤ AQ)); have aeY := aa.mk ((by rw [hg]; exact (ak (by exact HB.out)) : w.heap.size ≤ AQ)); replace HB := aa.mk (aM (by exact HB.out) hb); have CO := aa.mk ((by rw [hg]; exact Nat.ne_of_lt (bW (g := xw) (o := .cells #[.int .i64 iZ, .int .u8 aX] 100 (0, 0)) (bU zx.out)) : xw ≠ AQ)); have Cv := aa.mk ((by rw [hg]; exact Nat.ne_of_gt (bW (g := xw) (o := .cells #[.int .i64 iZ, .int .u8 aX] 100 (0, 0)) (bU zx.out)) : AQ ≠ xw)); replace zx := aa.mk (aG (bU zx.out) hb); clear hb hbox hg; have an8 := CO.out; have aor := Cv.out; obtain ⟨AL, Au, AF, AJ⟩ := qf zx.out; obtain ⟨Q6, Tz, Sa, SC⟩ := qf aaC.out))
  go_ret
  exact ⟨by rfl, by exact HB.out⟩
 ·rw [if_neg c4] at H; have AB : (iZ == a1) = false := beq_eq_false_iff_ne.mpr c4; have alN : (iZ != a1) = true := bne_iff_ne.mpr c4; obtain rfl := Option.some.inj H; go_enter Try.func75, Try.ntmps75; go_wp2_with (first | ((with_reducible refine dN (N := 3) rfl ?_); refine eB ?hg (N := 3) ?hd (cs := #[.int .i64 iZ, .int .u8 aX]) (t := 100) ?hr ?_; (case hd => rfl); (case hg => rfl); (case hr => (go_simp; done)); intro xw hg w10 hbox hb; have zx := aa.mk (hbox); have afU := aa.mk ((by rw [hg]; exact (ak (by exact HB.out)) : w.heap.size ≤ xw)); have afa := aa.mk ((by rw [hg]; exact (ak (by exact HB.out)) : w.heap.size ≤ xw)); replace HB := aa.mk (aM (by exact HB.out) hb); clear hb hbox hg) | ((with_reducible refine dN (N := 5) rfl ?_); refine eB ?hg (N := 5) ?hd (cs := #[.int .u8 NS, .int .i64 Rb]) (t := 86) ?hr ?_; (case hd => rfl); (case hg => rfl); (case hr => (go_simp; done)); intro AQ hg w11 hbox hb; have aaC := aa.mk (hbox); have aeQ := aa.mk ((by rw [hg]; exact (ak (by exact HB.out)) : w.heap.size ≤ AQ)); have aeY := aa.mk ((by rw [hg]; exact (ak (by exact HB.out)) : w.heap.size ≤ AQ)); replace HB := aa.mk (aM (by exact HB.out) hb); have CO := aa.mk ((by rw [hg]; exact Nat.ne_of_lt (bW (g := xw) (o := .cells #[.int .i64 iZ, .int .u8 aX] 100 (0, 0)) (bU zx.out)) : xw ≠ AQ)); have Cv := aa.mk ((by rw [hg]; exact Nat.ne_of_gt (bW (g := xw) (o := .cells #[.int .i64 iZ, .int .u8 aX] 100 (0, 0)) (bU zx.out)) : AQ ≠ xw)); replace zx := aa.mk (aG (bU zx.out) hb); clear hb hbox hg; have SX := CO.out; have R9 := Cv.out; obtain ⟨JZ, JW, IU, IP⟩ := qf zx.out))
  go_ret
  exact ⟨by rfl, by exact HB.out⟩
def gJ.f (a0 : Int) (a1 : Int) (a2 : Int) : Option (Bool) := if a1 ≤ a0 then (some (decide (a0 ≤ a2))) else (some false)
set_option maxHeartbeats 8000000 in
set_option maxRecDepth 100000 in
theorem gJ.calls (a0 : Int) (a1 : Int) (a2 : Int) (r : Bool) (w : World) (h : gJ.f a0 a1 a2 = some r) :
 Calls Try.prog 64 #[.int .i64 a0, .int .i64 a1, .int .i64 a2] w fun e w' => e = .returned (.bool r) ∧ gy w w' := by
 have H : (if a1 ≤ a0 then (some (decide (a0 ≤ a2))) else (some false)) = some r := h; clear h; by_cases c4 : a1 ≤ a0
 ·rw [if_pos c4] at H; have AB : decide (a1 ≤ a0) = true := decide_eq_true c4; clear c4; obtain rfl := Option.some.inj H; go_enter Try.func64, Try.ntmps64; go_wp2
  go_ret
  exact ⟨by rfl, by exact gy.refl _⟩
 ·rw [if_neg c4] at H; have AB : decide (a1 ≤ a0) = false := decide_eq_false c4; clear c4; obtain rfl := Option.some.inj H; go_enter Try.func64, Try.ntmps64; go_wp2
  go_ret
  exact ⟨by rfl, by exact gy.refl _⟩
mutual
def aT.j0 : Nat → Bool → Int → Int → List (S86) → Option (Int)
 | 0, _, _, _, _ => none
 | k + 1, x5, wF, wM, qN => if x5 = true then (some 1) else (if wF > wM then (some 5) else (if (qN.length : Int) = 0 then (some 7) else (if (qN.length : Int) > 8 then (some 6) else (aT.l0 k qN (qN.length : Int) 0 wF wM qN))))
def aT.l0 : Nat → List (S86) → Int → Int → Int → Int → List (S86) → Option (Int)
 | 0, _, _, _, _, _, _ => none
 | k + 1, x35, x36, x37, wF, wM, qN => if x37 < x36 then (if 0 ≤ x37 then (if x37 < (x35.length : Int) then (if ((av x35 x37).f0) < 65 then (aT.j2 k x37 x35 x36 x37 (decide (((av x35 x37).f0) < 65)) wF wM qN ((av x35 x37).f0) ((av x35 x37).f1)) else (aT.j2 k x37 x35 x36 x37 (decide (((av x35 x37).f0) > 90)) wF wM qN ((av x35 x37).f0) ((av x35 x37).f1))) else (none)) else (none)) else (some 0)
def aT.j2 : Nat → Int → List (S86) → Int → Int → Bool → Int → Int → List (S86) → Int → Int → Option (Int)
 | 0, _, _, _, _, _, _, _, _, _, _ => none
 | k + 1, x3, x35, x36, x37, x42, wF, wM, qN, XB, VO => if x42 = true then (some 8) else ((gJ.f VO 1 1023).bind fun ace => (if ace = true then (if x3 > 0 then (if 0 ≤ (wrap64 (x3 - 1)) then (if (wrap64 (x3 - 1)) < (qN.length : Int) then (if XB ≤ ((av qN (wrap64 (x3 - 1))).f0) then (some 5) else (aT.l0 k x35 x36 (wrap64 (x37 + 1)) wF wM qN)) else (none)) else (none)) else (aT.l0 k x35 x36 (wrap64 (x37 + 1)) wF wM qN)) else (some 1)))
end
def aT.f (k : Nat) (iZ : Int) (aX : Int) (iL : List (S86)) : Option (Int) := (gJ.f iZ (-3000) 3000).bind fun Lx => (if Lx = true then ((gJ.f aX (-3000) 3000).bind fun QK => (aT.j0 k (!QK) iZ aX iL)) else (aT.j0 k (!Lx) iZ aX iL))
theorem aT.ig : ∀ k, (∀ y0 y1 y2 y3, LeO (aT.j0 k y0 y1 y2 y3) (aT.j0 (k + 1) y0 y1 y2 y3)) ∧ (∀ y0 y1 y2 y3 y4 y5, LeO (aT.l0 k y0 y1 y2 y3 y4 y5) (aT.l0 (k + 1) y0 y1 y2 y3 y4 y5)) ∧ (∀ y0 y1 y2 y3 y4 y5 y6 y7 y8 y9, LeO (aT.j2 k y0 y1 y2 y3 y4 y5 y6 y7 y8 y9) (aT.j2 (k + 1) y0 y1 y2 y3 y4 y5 y6 y7 y8 y9))
 | 0 => ⟨fun _ _ _ _ r h => by simp [aT.j0] at h, fun _ _ _ _ _ _ r h => by simp [aT.l0] at h, fun _ _ _ _ _ _ _ _ _ _ r h => by simp [aT.j2] at h⟩
 | k + 1 => by
  obtain ⟨ih0, ih1, ih2⟩ := aT.ig k; refine ⟨?_, ?_, ?_⟩
  ·intro y0 y1 y2 y3; unfold aT.j0
   repeat' first | (with_reducible exact ih1 _ _ _ _ _ _) | (with_reducible exact LeO.refl _) | (with_reducible refine LeO.ite ?_ ?_)
  ·intro y0 y1 y2 y3 y4 y5; unfold aT.l0
   repeat' first | (with_reducible exact ih2 _ _ _ _ _ _ _ _ _ _) | (with_reducible exact LeO.refl _) | (with_reducible refine LeO.ite ?_ ?_)
  ·intro y0 y1 y2 y3 y4 y5 y6 y7 y8 y9; unfold aT.j2
   repeat' first | (with_reducible exact ih1 _ _ _ _ _ _) | (with_reducible exact LeO.refl _) | (with_reducible refine LeO.ite ?_ ?_) | (with_reducible refine LeO.bind ?_ (fun _ => ?_))
theorem aT.mono : ∀ a0 a1 a2 k, LeO (aT.f k a0 a1 a2) (aT.f (k + 1) a0 a1 a2) := by
 intro a0 a1 a2 k; obtain ⟨ih0, ih1, ih2⟩ := aT.ig k; unfold aT.f
 repeat' first | (with_reducible exact ih0 _ _ _ _) | (with_reducible exact LeO.refl _) | (with_reducible refine LeO.ite ?_ ?_) | (with_reducible refine LeO.bind ?_ (fun _ => ?_))
set_option maxHeartbeats 8000000 in
set_option maxRecDepth 100000 in
theorem aT.calls (k : Nat) (iZ : Int) (aX : Int) (RY : Option Addr) (KW : Nat) (iL : List (S86)) (r : Int) (w : World) (Z8 : Kd.C k86 w RY iL.length iL) (aae : iL.length ≤ KW) (h : aT.f k iZ aX iL = some r) :
 Calls Try.prog 63 #[.agg #[.int .i64 iZ, .int .i64 aX, .slice RY iL.length KW]] w fun e w' => e = .returned (.int .i64 r) ∧ Below w.heap.size w w' := by
 have hu66 := Try.underlying66; have hu86 := Try.underlying86; have ER := aa.mk Z8; have anK := aa.mk aae; clear Z8 aae; have HB := aa.mk (Below.refl w.heap.size w); have H : ((gJ.f iZ (-3000) 3000).bind fun Lx => (if Lx = true then ((gJ.f aX (-3000) 3000).bind fun QK => (aT.j0 k (!QK) iZ aX iL)) else (aT.j0 k (!Lx) iZ aX iL))) = some r := h; clear h; replace H := Option.bind_eq_some_iff.mp H; obtain ⟨Lx, A20, H⟩ := H; have A2 := aa.mk A20; clear A20; have HC3 := aa.mk H; clear H; go_enter Try.func63, Try.ntmps63; (go_upto_if 5 with (first | ((with_reducible refine dN (N := 1) rfl ?_); refine eB ?hg (N := 1) ?hd (cs := #[.int .i64 iZ, .int .i64 aX, .slice RY iL.length KW]) (t := 66) ?hr ?_; (case hd => rfl); (case hg => rfl); (case hr => (go_simp; done)); intro AP hg w4 hbox hb; have pg := aa.mk (hbox); have anU := aa.mk ((by rw [hg]; exact (ak (by exact HB.out)) : w.heap.size ≤ AP)); have amW := aa.mk ((by rw [hg]; exact (ak (by exact HB.out)) : w.heap.size ≤ AP)); replace HB := aa.mk (aM (by exact HB.out) hb); clear hb hbox hg; obtain ⟨ML, MN, ND, NM, Nw, NA⟩ := cells3 pg.out) | (go_at_call 64; (with_reducible refine (gJ.calls iZ (-3000) 3000 Lx _ A2.out).mono ?_); rintro e w' ⟨rfl, ⟨nd, rfl⟩⟩))); (skip); go_cut [5] (fun v5 wc => ∃ (kq : Nat) (Xx : Bool), v5 = .bool Xx ∧ aa (aT.j0 kq Xx iZ aX iL = some r) ∧ aa (kq ≤ k) ∧ aa (wc.heap[AP]? = some (.cells #[.int .i64 iZ, .int .i64 aX, (.slice RY iL.length KW)] 66 (0, 0))) ∧ aa (Below w.heap.size w wc))
 case first =>
  have H := HC3.out; clear HC3; by_cases c6 : Lx = true
  ·subst c6; rw [if_pos rfl] at H; replace H := Option.bind_eq_some_iff.mp H; obtain ⟨QK, A70, H⟩ := H; have A7 := aa.mk A70; clear A70; have H' := aa.mk H; clear H; obtain ⟨AL, Au, CR, AF, AJ, CZ⟩ := cells3 pg.out; (go_wp2_with ((go_at_call 64; (with_reducible refine (gJ.calls aX (-3000) 3000 QK _ A7.out).mono ?_); rintro e w' ⟨rfl, ⟨nd, rfl⟩⟩))); go_meet; case rel => exact ⟨_, (!QK), (by rfl), H', ⟨by omega⟩, ⟨by (with_reducible repeat (refine lH ?_ _)); exact pg.out⟩, ⟨by exact lU HB.out⟩⟩
  ·replace c6 := Bool.eq_false_iff.mpr c6; subst c6; rw [if_neg (show ¬ (false = true) by decide)] at H; have H' := aa.mk H; clear H; go_wp2; go_meet; case rel => exact ⟨_, (!false), (by rfl), H', ⟨by omega⟩, ⟨by (with_reducible repeat (refine lH ?_ _)); exact pg.out⟩, ⟨by exact lU HB.out⟩⟩
 case rest =>
  clear HC3 ML MN ND NM Nw NA; obtain ⟨kq, Xx, rfl, HA, HJ2, pg, HB⟩ := hcut
  cases kq with
  | zero => exact absurd HA.out (by simp [aT.j0])
  | succ kj2 =>
   have H := HA.out; clear HA; simp only [aT.j0] at H; by_cases c9 : Xx = true
   ·subst c9; rw [if_pos rfl] at H; obtain rfl := Option.some.inj H; go_wp2
    go_ret
    exact ⟨by rfl, by exact HB.out⟩
   ·replace c9 := Bool.eq_false_iff.mpr c9; subst c9; rw [if_neg (show ¬ (false = true) by decide)] at H; by_cases c10 : iZ > aX
    ·rw [if_pos c10] at H; have Df : decide (aX < iZ) = true := decide_eq_true c10; clear c10; obtain rfl := Option.some.inj H; obtain ⟨ajm, ah1, aii, aiE, ajb, ajW⟩ := cells3 pg.out; go_wp2
     go_ret
     exact ⟨by rfl, by exact HB.out⟩
    ·rw [if_neg c10] at H; have Df : decide (aX < iZ) = false := decide_eq_false c10; clear c10; by_cases c12 : (iL.length : Int) = 0
     ·rw [if_pos c12] at H; have Am : ((iL.length : Int) == 0) = true := beq_iff_eq.mpr c12; have OB : ((iL.length : Int) != 0) = false := bne_eq_false_iff_eq.mpr c12; clear c12; obtain rfl := Option.some.inj H; obtain ⟨JZ, JW, Pp, IU, IP, OW⟩ := cells3 pg.out; go_wp2
      go_ret
      exact ⟨by rfl, by exact HB.out⟩
     ·rw [if_neg c12] at H; have Am : ((iL.length : Int) == 0) = false := beq_eq_false_iff_ne.mpr c12; have OB : ((iL.length : Int) != 0) = true := bne_iff_ne.mpr c12; (have agt : ¬ (iL = []) := fun h_ => c12 (by rw [h_]; rfl)); by_cases c14 : (iL.length : Int) > 8
      ·rw [if_pos c14] at H; have Dk : decide (8 < (iL.length : Int)) = true := decide_eq_true c14; have KM : decide (8 < iL.length) = true := decide_eq_true (by omega); clear c14; obtain rfl := Option.some.inj H; obtain ⟨YL, Y8, Xm, YR, Yz, XU⟩ := cells3 pg.out; go_wp2
       go_ret
       exact ⟨by rfl, by exact HB.out⟩
      ·rw [if_neg c14] at H; have Dk : decide (8 < (iL.length : Int)) = false := decide_eq_false c14; have KM : decide (8 < iL.length) = false := decide_eq_false (by omega); clear c14; have H' := aa.mk H; clear H; obtain ⟨Ck, BA, Bf, BK, Ca, BU⟩ := cells3 pg.out; go_wp2; (go_loopg [37] kj2 (fun kq v37 w' => ∃ (jl : Int), v37 = .int .i64 jl ∧ aa (aT.l0 kq iL (iL.length : Int) jl iZ aX iL = some r) ∧ aa (kq ≤ kj2) ∧ aa (w'.heap[AP]? = some (.cells #[.int .i64 iZ, .int .i64 aX, (.slice RY iL.length KW)] 66 (0, 0))) ∧ aa (Below w.heap.size w w'))); case atStart => exact ⟨(0), (by rfl), H', ⟨Nat.le_refl _⟩, ⟨by (with_reducible skip); exact pg.out⟩, ⟨by exact HB.out⟩⟩
       case round =>
        clear H' Df c12 Am OB agt Dk KM Ck BA Bf BK Ca BU; obtain ⟨jl, rfl, HA, HK2, pg, HB⟩ := hrel
        cases gk with
        | zero => exact absurd HA.out (by simp [aT.l0])
        | succ k2 =>
         have H := HA.out; clear HA; simp only [aT.l0] at H; by_cases c17 : jl < (iL.length : Int)
         ·rw [if_pos c17] at H; have Pt : decide (jl < (iL.length : Int)) = true := decide_eq_true c17; clear c17; by_cases c18 : 0 ≤ jl
          ·rw [if_pos c18] at H; have KF : decide (0 ≤ jl) = true := decide_eq_true c18; clear c18; by_cases c19 : jl < (iL.length : Int)
           ·rw [if_pos c19] at H; have aah : decide (jl < (iL.length : Int)) = true := decide_eq_true c19; clear c19; have acj := aa.mk H; clear H; have Ws : 0 ≤ (jl : Int) := of_decide_eq_true (by with_reducible assumption); have YP : jl < (iL.length : Int) := of_decide_eq_true (by with_reducible assumption); obtain ⟨Cf, e107, D6, D8⟩ := sF ER.out jl Ws YP; cases e107; replace D6 := (HB.out.cell (World.block_lt_of_cell? w _ D6)).trans D6; replace D8 := (HB.out.cell (World.block_lt_of_cell? w _ D8)).trans D8; replace Ws := eq_true Ws; replace YP := eq_true YP; (go_upto_if 42 with (((with_reducible refine dN (N := 4) rfl ?_); refine eB ?hg (N := 4) ?hd (cs := #[.int .u8 0, .int .i64 0]) (t := 86) ?hr ?_; (case hd => rfl); (case hg => rfl); (case hr => (go_simp; done)); intro LM hg w21 hbox hb; have BC := aa.mk (hbox); have an2 := aa.mk ((by rw [hg]; exact (ak (by exact HB.out)) : w.heap.size ≤ LM)); have ZO := aa.mk ((by rw [hg]; exact (ak (by exact HB.out)) : w.heap.size ≤ LM)); replace HB := aa.mk (aM (by exact HB.out) hb); have qd := aa.mk ((by rw [hg]; exact Nat.ne_of_lt (bW (g := AP) (o := .cells #[.int .i64 iZ, .int .i64 aX, .slice (some Cf) iL.length KW] 66 (0, 0)) (bU pg.out)) : AP ≠ LM)); have ve := aa.mk ((by rw [hg]; exact Nat.ne_of_gt (bW (g := AP) (o := .cells #[.int .i64 iZ, .int .i64 aX, .slice (some Cf) iL.length KW] 66 (0, 0)) (bU pg.out)) : LM ≠ AP)); replace pg := aa.mk (aG (bU pg.out) hb); clear hb hbox hg; have ael := ve.out; have ada := qd.out; obtain ⟨Oj, Pz, Qh, PK⟩ := qf BC.out))); (skip); go_cut [42] (fun v42 wc => ∃ (kq : Nat) (J8 : Bool), v42 = .bool J8 ∧ aa (aT.j2 kq jl iL (iL.length : Int) jl J8 iZ aX iL ((av iL jl).f0) ((av iL jl).f1) = some r) ∧ aa (kq ≤ k2) ∧ aa (wc.heap[AP]? = some (.cells #[.int .i64 iZ, .int .i64 aX, (.slice (some Cf) iL.length KW)] 66 (0, 0))) ∧ aa (wc.heap[LM]? = some (.cells #[.int .u8 ((av iL jl).f0), .int .i64 ((av iL jl).f1)] 86 (0, 0))) ∧ aa (Below w.heap.size w wc))
            case first =>
             have H := acj.out; clear acj; by_cases c24 : ((av iL jl).f0) < 65
             ·rw [if_pos c24] at H; have Dq : decide (((av iL jl).f0) < 65) = true := decide_eq_true c24; clear c24; (rw [Dq]); have H' := aa.mk H; clear H; go_wp2; go_meet; case rel => exact ⟨_, (decide (((av iL jl).f0) < 65)), (by simp [*]; done), H', ⟨by have := HJ2.out; have := HK2.out; omega⟩, ⟨by (with_reducible skip); refine bI ?_ qd.out _; (with_reducible skip); refine bI ?_ qd.out _; (with_reducible skip); exact pg.out⟩, ⟨by (with_reducible skip); refine cu (cs := #[.int .u8 ((av iL jl).f0), .int .i64 0]) ?_ 1 _ rfl; (with_reducible skip); refine cu (cs := #[.int .u8 0, .int .i64 0]) ?_ 0 _ rfl; (with_reducible skip); exact BC.out⟩, ⟨by repeat ((with_reducible first | exact HB.out | refine dB ?_ ZO.out))⟩⟩
             ·rw [if_neg c24] at H; have Dq : decide (((av iL jl).f0) < 65) = false := decide_eq_false c24; clear c24; (rw [Dq]); have H' := aa.mk H; clear H; have aex := ve.out; have ac3 := qd.out; obtain ⟨Yb, YE, Zg, Xi⟩ := qf BC.out; go_wp2; go_meet; case rel => exact ⟨_, (decide (((av iL jl).f0) > 90)), (by rfl), H', ⟨by have := HJ2.out; have := HK2.out; omega⟩, ⟨by (with_reducible skip); refine bI ?_ qd.out _; (with_reducible skip); refine bI ?_ qd.out _; (with_reducible skip); exact pg.out⟩, ⟨by (with_reducible skip); refine cu (cs := #[.int .u8 ((av iL jl).f0), .int .i64 0]) ?_ 1 _ rfl; (with_reducible skip); refine cu (cs := #[.int .u8 0, .int .i64 0]) ?_ 0 _ rfl; (with_reducible skip); exact BC.out⟩, ⟨by repeat ((with_reducible first | exact HB.out | refine dB ?_ ZO.out))⟩⟩
            case rest =>
             clear acj Pt KF aah Oj Pz Qh PK D6 D8 Ws YP; obtain ⟨kq, J8, rfl, HA, HJ19, pg, BC, HB⟩ := hcut
             cases kq with
             | zero => exact absurd HA.out (by simp [aT.j2])
             | succ kj19 =>
              have H := HA.out; clear HA; simp only [aT.j2] at H; by_cases c27 : J8 = true
              ·subst c27; rw [if_pos rfl] at H; obtain rfl := Option.some.inj H; go_wp2
               go_ret
               exact ⟨by rfl, by exact HB.out⟩
              ·replace c27 := Bool.eq_false_iff.mpr c27; subst c27; rw [if_neg (show ¬ (false = true) by decide)] at H; replace H := Option.bind_eq_some_iff.mp H; obtain ⟨ace, adD, H⟩ := H; have A28 := aa.mk adD; clear adD; by_cases c29 : ace = true
               ·subst c29; rw [if_pos rfl] at H; by_cases c30 : jl > 0
                ·rw [if_pos c30] at H; have agB : decide (0 < jl) = true := decide_eq_true c30; clear c30; obtain ⟨sV, aat⟩ : ∃ j_ : Int, (wrap64 (jl - 1)) = j_ := ⟨_, rfl⟩; (replace H : (if 0 ≤ (sV) then (if (sV) < (iL.length : Int) then (if ((av iL jl).f0) ≤ ((av iL (sV)).f0) then (some 5) else (aT.l0 kj19 iL (iL.length : Int) (wrap64 (jl + 1)) iZ aX iL)) else (none)) else (none)) = some r := by (rw [aat] at H; exact H)); (skip); have alk : (IntKind.i64.wrap (jl - 1)) = sV := (cZ _).trans aat; by_cases c32 : 0 ≤ (sV)
                 ·rw [if_pos c32] at H; have N8 : decide (0 ≤ (sV)) = true := decide_eq_true c32; clear c32; by_cases c33 : (sV) < (iL.length : Int)
                  ·rw [if_pos c33] at H; have LA : decide ((sV) < (iL.length : Int)) = true := decide_eq_true c33; clear c33; by_cases c34 : ((av iL jl).f0) ≤ ((av iL (sV)).f0)
                   ·rw [if_pos c34] at H; have acU : decide (((av iL jl).f0) ≤ ((av iL (sV)).f0)) = true := decide_eq_true c34; clear c34; obtain rfl := Option.some.inj H; have Vd := ve.out; have RX := qd.out; obtain ⟨Wt, WZ, Xr, Xh⟩ := qf BC.out; (go_wp2_with ((go_at_call 64; (with_reducible refine (gJ.calls ((av iL jl).f1) 1 1023 true _ A28.out).mono ?_); rintro e w' ⟨rfl, ⟨nd, rfl⟩⟩; obtain ⟨zD, zI, zV, zU, zR, zH⟩ := cells3 pg.out; have vN : 0 ≤ ((sV) : Int) := of_decide_eq_true (by with_reducible assumption); have vV : (sV) < (iL.length : Int) := of_decide_eq_true (by with_reducible assumption); obtain ⟨yM, e110, kF, kE⟩ := sF ER.out (sV) vN vV; obtain rfl : Cf = yM := (by injection e110); replace kF := (HB.out.cell (World.block_lt_of_cell? w _ kF)).trans kF; replace kE := (HB.out.cell (World.block_lt_of_cell? w _ kE)).trans kE; replace vN := eq_true vN; replace vV := eq_true vV))); repeat (go_quiet (first | (go_at_call 64; (with_reducible refine (gJ.calls ((av iL jl).f1) 1 1023 true _ A28.out).mono ?_); rintro e w' ⟨rfl, ⟨nd, rfl⟩⟩; (try first | exact ⟨rfl, _, World.drewN_drewN _ _ _⟩ | exact ⟨rfl, _, Eq.trans (World.drewN_drewN _ _ _) (congrArg (World.drewN _) (Nat.add_assoc _ _ _))⟩); obtain ⟨zD, zI, zV, zU, zR, zH⟩ := cells3 pg.out; have vN : 0 ≤ ((sV) : Int) := of_decide_eq_true (by first | (with_reducible assumption) | assumption); have vV : (sV) < (iL.length : Int) := of_decide_eq_true (by first | (with_reducible assumption) | assumption); obtain ⟨yM, e110, kF, kE⟩ := sF ER.out (sV) vN vV; obtain rfl : Cf = yM := (by injection e110); replace kF := (HB.out.cell (World.block_lt_of_cell? w _ kF)).trans kF; replace kE := (HB.out.cell (World.block_lt_of_cell? w _ kE)).trans kE; replace vN := eq_true vN; replace vV := eq_true vV)); go_wp2_with (first | (go_at_call 64; (with_reducible refine (gJ.calls ((av iL jl).f1) 1 1023 true _ A28.out).mono ?_); rintro e w' ⟨rfl, ⟨nd, rfl⟩⟩; (try first | exact ⟨rfl, _, World.drewN_drewN _ _ _⟩ | exact ⟨rfl, _, Eq.trans (World.drewN_drewN _ _ _) (congrArg (World.drewN _) (Nat.add_assoc _ _ _))⟩); obtain ⟨zD, zI, zV, zU, zR, zH⟩ := cells3 pg.out; have vN : 0 ≤ ((sV) : Int) := of_decide_eq_true (by first | (with_reducible assumption) | assumption); have vV : (sV) < (iL.length : Int) := of_decide_eq_true (by first | (with_reducible assumption) | assumption); obtain ⟨yM, e110, kF, kE⟩ := sF ER.out (sV) vN vV; obtain rfl : Cf = yM := (by injection e110); replace kF := (HB.out.cell (World.block_lt_of_cell? w _ kF)).trans kF; replace kE := (HB.out.cell (World.block_lt_of_cell? w _ kE)).trans kE; replace vN := eq_true vN; replace vV := eq_true vV)))
                    go_ret
                    exact ⟨by rfl, by exact lU HB.out⟩
                   ·rw [if_neg c34] at H; have acU : decide (((av iL jl).f0) ≤ ((av iL (sV)).f0)) = false := decide_eq_false c34; clear c34; have H' := aa.mk H; clear H; have amD := ve.out; have anX := qd.out; obtain ⟨aim, ahK, akg, ahm⟩ := qf BC.out; (go_wp2_with ((go_at_call 64; (with_reducible refine (gJ.calls ((av iL jl).f1) 1 1023 true _ A28.out).mono ?_); rintro e w' ⟨rfl, ⟨nd, rfl⟩⟩; obtain ⟨PR, OX, OY, OQ, P8, Oy⟩ := cells3 pg.out; have vN : 0 ≤ ((sV) : Int) := of_decide_eq_true (by with_reducible assumption); have vV : (sV) < (iL.length : Int) := of_decide_eq_true (by with_reducible assumption); obtain ⟨yM, e110, kF, kE⟩ := sF ER.out (sV) vN vV; obtain rfl : Cf = yM := (by injection e110); replace kF := (HB.out.cell (World.block_lt_of_cell? w _ kF)).trans kF; replace kE := (HB.out.cell (World.block_lt_of_cell? w _ kE)).trans kE; replace vN := eq_true vN; replace vV := eq_true vV))); (repeat (go_quiet (first | (go_at_call 64; (with_reducible refine (gJ.calls ((av iL jl).f1) 1 1023 true _ A28.out).mono ?_); rintro e w' ⟨rfl, ⟨nd, rfl⟩⟩; (try first | exact ⟨rfl, _, World.drewN_drewN _ _ _⟩ | exact ⟨rfl, _, Eq.trans (World.drewN_drewN _ _ _) (congrArg (World.drewN _) (Nat.add_assoc _ _ _))⟩); obtain ⟨PR, OX, OY, OQ, P8, Oy⟩ := cells3 pg.out; have vN : 0 ≤ ((sV) : Int) := of_decide_eq_true (by first | (with_reducible assumption) | assumption); have vV : (sV) < (iL.length : Int) := of_decide_eq_true (by first | (with_reducible assumption) | assumption); obtain ⟨yM, e110, kF, kE⟩ := sF ER.out (sV) vN vV; obtain rfl : Cf = yM := (by injection e110); replace kF := (HB.out.cell (World.block_lt_of_cell? w _ kF)).trans kF; replace kE := (HB.out.cell (World.block_lt_of_cell? w _ kE)).trans kE; replace vN := eq_true vN; replace vV := eq_true vV)); go_wp2_with (first | (go_at_call 64; (with_reducible refine (gJ.calls ((av iL jl).f1) 1 1023 true _ A28.out).mono ?_); rintro e w' ⟨rfl, ⟨nd, rfl⟩⟩; (try first | exact ⟨rfl, _, World.drewN_drewN _ _ _⟩ | exact ⟨rfl, _, Eq.trans (World.drewN_drewN _ _ _) (congrArg (World.drewN _) (Nat.add_assoc _ _ _))⟩); obtain ⟨PR, OX, OY, OQ, P8, Oy⟩ := cells3 pg.out; have vN : 0 ≤ ((sV) : Int) := of_decide_eq_true (by first | (with_reducible assumption) | assumption); have vV : (sV) < (iL.length : Int) := of_decide_eq_true (by first | (with_reducible assumption) | assumption); obtain ⟨yM, e110, kF, kE⟩ := sF ER.out (sV) vN vV; obtain rfl : Cf = yM := (by injection e110); replace kF := (HB.out.cell (World.block_lt_of_cell? w _ kF)).trans kF; replace kE := (HB.out.cell (World.block_lt_of_cell? w _ kE)).trans kE; replace vN := eq_true vN; replace vV := eq_true vV)))); go_roundg kj19; (case measure => have := HJ2.out; have := HK2.out; have := HJ19.out; omega); case rel => exact ⟨(wrap64 (jl + 1)), (by rfl), H', ⟨by have := HJ2.out; have := HK2.out; have := HJ19.out; omega⟩, ⟨by (with_reducible repeat (refine lH ?_ _)); exact pg.out⟩, ⟨by exact lU HB.out⟩⟩
                  ·rw [if_neg c33] at H; exact absurd H (by simp)
                 ·rw [if_neg c32] at H; exact absurd H (by simp)
                ·rw [if_neg c30] at H; have agB : decide (0 < jl) = false := decide_eq_false c30; clear c30; have H' := aa.mk H; clear H; have PN := ve.out; have Qc := qd.out; obtain ⟨Oz, Qg, OP, Pw⟩ := qf BC.out; (go_wp2_with ((go_at_call 64; (with_reducible refine (gJ.calls ((av iL jl).f1) 1 1023 true _ A28.out).mono ?_); rintro e w' ⟨rfl, ⟨nd, rfl⟩⟩))); (repeat (go_quiet (first | (go_at_call 64; (with_reducible refine (gJ.calls ((av iL jl).f1) 1 1023 true _ A28.out).mono ?_); rintro e w' ⟨rfl, ⟨nd, rfl⟩⟩; (try first | exact ⟨rfl, _, World.drewN_drewN _ _ _⟩ | exact ⟨rfl, _, Eq.trans (World.drewN_drewN _ _ _) (congrArg (World.drewN _) (Nat.add_assoc _ _ _))⟩))); go_wp2_with (first | (go_at_call 64; (with_reducible refine (gJ.calls ((av iL jl).f1) 1 1023 true _ A28.out).mono ?_); rintro e w' ⟨rfl, ⟨nd, rfl⟩⟩; (try first | exact ⟨rfl, _, World.drewN_drewN _ _ _⟩ | exact ⟨rfl, _, Eq.trans (World.drewN_drewN _ _ _) (congrArg (World.drewN _) (Nat.add_assoc _ _ _))⟩))))); go_roundg kj19; (case measure => have := HJ2.out; have := HK2.out; have := HJ19.out; omega); case rel => exact ⟨(wrap64 (jl + 1)), (by rfl), H', ⟨by have := HJ2.out; have := HK2.out; have := HJ19.out; omega⟩, ⟨by (with_reducible repeat (refine lH ?_ _)); exact pg.out⟩, ⟨by exact lU HB.out⟩⟩
               ·replace c29 := Bool.eq_false_iff.mpr c29; subst c29; rw [if_neg (show ¬ (false = true) by decide)] at H; obtain rfl := Option.some.inj H; have Sz := ve.out; have Sj := qd.out; obtain ⟨aiW, ahZ, aiB, ai3⟩ := qf BC.out; go_wp2_with ((go_at_call 64; (with_reducible refine (gJ.calls ((av iL jl).f1) 1 1023 false _ A28.out).mono ?_); rintro e w' ⟨rfl, ⟨nd, rfl⟩⟩))
                go_ret
                exact ⟨by rfl, by exact lU HB.out⟩
           ·rw [if_neg c19] at H; exact absurd H (by simp)
          ·rw [if_neg c18] at H; exact absurd H (by simp)
         ·rw [if_neg c17] at H; have Pt : decide (jl < (iL.length : Int)) = false := decide_eq_false c17; clear c17; obtain rfl := Option.some.inj H; go_wp2
          go_ret
          exact ⟨by rfl, by exact HB.out⟩
mutual
def aZ.l0 : Nat → List (S66) → Int → Int → List (S66) → Int → Int → Int → List (List (S27)) → Option (Int)
 | 0, _, _, _, _, _, _, _, _ => none
 | k + 1, x21, x22, x23, Bi, zT, zK, zG, uY => if x23 < x22 then (if 0 ≤ x23 then (if x23 < (x21.length : Int) then ((aT.f k ((ah x21 x23).f0.f0) ((ah x21 x23).f0.f1) ((ah x21 x23).f1)).bind fun GX => (if GX = 0 then (aZ.l0 k x21 x22 (wrap64 (x23 + 1)) Bi zT zK zG uY) else (some GX))) else (none)) else (none)) else ((gJ.f zT 0 10).bind fun Rk => (if Rk = true then ((gJ.f zK 0 10).bind fun Xo => (if Xo = true then ((gJ.f zG 0 40).bind fun Yk => (aZ.j1 k (!Yk) Bi zT zK zG uY)) else (aZ.j1 k (!Xo) Bi zT zK zG uY))) else (aZ.j1 k (!Rk) Bi zT zK zG uY)))
def aZ.j1 : Nat → Bool → List (S66) → Int → Int → Int → List (List (S27)) → Option (Int)
 | 0, _, _, _, _, _, _ => none
 | k + 1, x33, Bi, zT, zK, zG, uY => if x33 = true then (some 1) else (if (uY.length : Int) = 0 then (some 7) else (if (uY.length : Int) > 8 then (some 6) else (aZ.l1 k uY (uY.length : Int) 0)))
def aZ.l1 : Nat → List (List (S27)) → Int → Int → Option (Int)
 | 0, _, _, _ => none
 | k + 1, x57, x58, x59 => if x59 < x58 then (if 0 ≤ x59 then (if x59 < (x57.length : Int) then (if ((cO x57 x59).length : Int) > 4 then (some 6) else (aZ.l2 k x57 x58 x59 (cO x57 x59) ((cO x57 x59).length : Int) 0)) else (none)) else (none)) else (some 0)
def aZ.l2 : Nat → List (List (S27)) → Int → Int → List (S27) → Int → Int → Option (Int)
 | 0, _, _, _, _, _, _ => none
 | k + 1, x57, x58, x59, x66, x67, x68 => if x68 < x67 then (if 0 ≤ x68 then (if x68 < (x66.length : Int) then ((gJ.f ((iM x66 x68).f0) 0 1023).bind fun RS => (if RS = true then ((gJ.f ((iM x66 x68).f1) 0 1023).bind fun Y3 => (aZ.j4 k x57 x58 x59 x66 x67 x68 (!Y3) ((iM x66 x68).f0) ((iM x66 x68).f1))) else (aZ.j4 k x57 x58 x59 x66 x67 x68 (!RS) ((iM x66 x68).f0) ((iM x66 x68).f1)))) else (none)) else (none)) else (aZ.l1 k x57 x58 (wrap64 (x59 + 1)))
def aZ.j4 : Nat → List (List (S27)) → Int → Int → List (S27) → Int → Int → Bool → Int → Int → Option (Int)
 | 0, _, _, _, _, _, _, _, _, _ => none
 | k + 1, x57, x58, x59, x66, x67, x68, x72, YG, V7 => if x72 = true then (some 1) else ((iy.f V7 YG).bind fun J7 => (if J7 = 0 then (aZ.l2 k x57 x58 x59 x66 x67 (wrap64 (x68 + 1))) else (some 2)))
end
def aZ.f (k : Nat) (aH : List (S66)) (aX : Int) (bz : Int) (bG : Int) (ay : List (List (S27))) : Option (Int) := if (aH.length : Int) = 0 then (some 7) else (if (aH.length : Int) > 4 then (some 6) else (aZ.l0 k aH (aH.length : Int) 0 aH aX bz bG ay))
theorem aZ.ig : ∀ k, (∀ y0 y1 y2 y3 y4 y5 y6 y7, LeO (aZ.l0 k y0 y1 y2 y3 y4 y5 y6 y7) (aZ.l0 (k + 1) y0 y1 y2 y3 y4 y5 y6 y7)) ∧ (∀ y0 y1 y2 y3 y4 y5, LeO (aZ.j1 k y0 y1 y2 y3 y4 y5) (aZ.j1 (k + 1) y0 y1 y2 y3 y4 y5)) ∧ (∀ y0 y1 y2, LeO (aZ.l1 k y0 y1 y2) (aZ.l1 (k + 1) y0 y1 y2)) ∧ (∀ y0 y1 y2 y3 y4 y5, LeO (aZ.l2 k y0 y1 y2 y3 y4 y5) (aZ.l2 (k + 1) y0 y1 y2 y3 y4 y5)) ∧ (∀ y0 y1 y2 y3 y4 y5 y6 y7 y8, LeO (aZ.j4 k y0 y1 y2 y3 y4 y5 y6 y7 y8) (aZ.j4 (k + 1) y0 y1 y2 y3 y4 y5 y6 y7 y8))
 | 0 => ⟨fun _ _ _ _ _ _ _ _ r h => by simp [aZ.l0] at h, fun _ _ _ _ _ _ r h => by simp [aZ.j1] at h, fun _ _ _ r h => by simp [aZ.l1] at h, fun _ _ _ _ _ _ r h => by simp [aZ.l2] at h, fun _ _ _ _ _ _ _ _ _ r h => by simp [aZ.j4] at h⟩
 | k + 1 => by
  obtain ⟨ih0, ih1, ih2, ih3, ih4⟩ := aZ.ig k; refine ⟨?_, ?_, ?_, ?_, ?_⟩
  ·intro y0 y1 y2 y3 y4 y5 y6 y7; unfold aZ.l0
   repeat' first | (with_reducible exact ih0 _ _ _ _ _ _ _ _) | (with_reducible exact ih1 _ _ _ _ _ _) | (with_reducible exact aT.mono _ _ _ _) | (with_reducible exact LeO.refl _) | (with_reducible refine LeO.ite ?_ ?_) | (with_reducible refine LeO.bind ?_ (fun _ => ?_))
  ·intro y0 y1 y2 y3 y4 y5; unfold aZ.j1
   repeat' first | (with_reducible exact ih2 _ _ _) | (with_reducible exact LeO.refl _) | (with_reducible refine LeO.ite ?_ ?_)
  ·intro y0 y1 y2; unfold aZ.l1
   repeat' first | (with_reducible exact ih3 _ _ _ _ _ _) | (with_reducible exact LeO.refl _) | (with_reducible refine LeO.ite ?_ ?_)
  ·intro y0 y1 y2 y3 y4 y5; unfold aZ.l2
   repeat' first | (with_reducible exact ih2 _ _ _) | (with_reducible exact ih4 _ _ _ _ _ _ _ _ _) | (with_reducible exact LeO.refl _) | (with_reducible refine LeO.ite ?_ ?_) | (with_reducible refine LeO.bind ?_ (fun _ => ?_))
  ·intro y0 y1 y2 y3 y4 y5 y6 y7 y8; unfold aZ.j4
   repeat' first | (with_reducible exact ih3 _ _ _ _ _ _) | (with_reducible exact LeO.refl _) | (with_reducible refine LeO.ite ?_ ?_) | (with_reducible refine LeO.bind ?_ (fun _ => ?_))
theorem aZ.mono : ∀ a0 a1 a2 a3 a4 k, LeO (aZ.f k a0 a1 a2 a3 a4) (aZ.f (k + 1) a0 a1 a2 a3 a4) := by
 intro a0 a1 a2 a3 a4 k; obtain ⟨ih0, ih1, ih2, ih3, ih4⟩ := aZ.ig k; unfold aZ.f
 repeat' first | (with_reducible exact ih0 _ _ _ _ _ _ _ _) | (with_reducible exact LeO.refl _) | (with_reducible refine LeO.ite ?_ ?_)
set_option maxHeartbeats 8000000 in
set_option maxRecDepth 100000 in
theorem aZ.calls (k : Nat) (dF : Option Addr) (dz : Nat) (aH : List (S66)) (aX : Int) (bz : Int) (bG : Int) (eu : Option Addr) (bZ : Nat) (ay : List (List (S27))) (r : Int) (w : World) (oO : Kd.C k66 w dF aH.length aH) (qL : aH.length ≤ dz) (qh : Kd.C (Kd.slice 27 k27) w eu ay.length ay) (rJ : ay.length ≤ bZ) (h : aZ.f k aH aX bz bG ay = some r) :
 Calls Try.prog 40 #[.agg #[.slice dF aH.length dz, .int .i64 aX, .int .i64 bz, .int .i64 bG, .slice eu ay.length bZ]] w fun e w' => e = .returned (.int .i64 r) ∧ Below w.heap.size w w' := by
 have hu25 := Try.underlying25; have hu66 := Try.underlying66; have hu27 := Try.underlying27; have uK := aa.mk oO; have wH := aa.mk qL; clear oO qL; have uU := aa.mk qh; have xH := aa.mk rJ; clear qh rJ; have HB := aa.mk (Below.refl w.heap.size w); have H : (if (aH.length : Int) = 0 then (some 7) else (if (aH.length : Int) > 4 then (some 6) else (aZ.l0 k aH (aH.length : Int) 0 aH aX bz bG ay))) = some r := h; clear h; by_cases c2 : (aH.length : Int) = 0
 ·rw [if_pos c2] at H; have Iz : ((aH.length : Int) == 0) = true := beq_iff_eq.mpr c2; have adO : ((aH.length : Int) != 0) = false := bne_eq_false_iff_eq.mpr c2; clear c2; obtain rfl := Option.some.inj H; go_enter Try.func40, Try.ntmps40; go_wp2_with (((with_reducible refine dN (N := 1) rfl ?_); refine eB ?hg (N := 1) ?hd (cs := #[.slice dF aH.length dz, .int .i64 aX, .int .i64 bz, .int .i64 bG, .slice eu ay.length bZ]) (t := 25) ?hr ?_; (case hd => rfl); (case hg => rfl); (case hr => (go_simp; done)); intro oQ hg w3 hbox hb; have jJ := aa.mk (hbox); have ZI := aa.mk ((by rw [hg]; exact (ak (by exact HB.out)) : w.heap.size ≤ oQ)); have aaf := aa.mk ((by rw [hg]; exact (ak (by exact HB.out)) : w.heap.size ≤ oQ)); replace HB := aa.mk (aM (by exact HB.out) hb); clear hb hbox hg; obtain ⟨ala, amy, alp, al6, alc, alK, alY, ald, ak6, alj⟩ := cells5 jJ.out))
  go_ret
  exact ⟨by rfl, by exact HB.out⟩
 ·rw [if_neg c2] at H; have Iz : ((aH.length : Int) == 0) = false := beq_eq_false_iff_ne.mpr c2; have adO : ((aH.length : Int) != 0) = true := bne_iff_ne.mpr c2; (have aki : ¬ (aH = []) := fun h_ => c2 (by rw [h_]; rfl)); by_cases c5 : (aH.length : Int) > 4
  ·rw [if_pos c5] at H; have yE : decide (4 < (aH.length : Int)) = true := decide_eq_true c5; have SQ : decide (4 < aH.length) = true := decide_eq_true (by omega); clear c5; obtain rfl := Option.some.inj H; go_enter Try.func40, Try.ntmps40; go_wp2_with (((with_reducible refine dN (N := 1) rfl ?_); refine eB ?hg (N := 1) ?hd (cs := #[.slice dF aH.length dz, .int .i64 aX, .int .i64 bz, .int .i64 bG, .slice eu ay.length bZ]) (t := 25) ?hr ?_; (case hd => rfl); (case hg => rfl); (case hr => (go_simp; done)); intro oQ hg w6 hbox hb; have jJ := aa.mk (hbox); have ZI := aa.mk ((by rw [hg]; exact (ak (by exact HB.out)) : w.heap.size ≤ oQ)); have aaf := aa.mk ((by rw [hg]; exact (ak (by exact HB.out)) : w.heap.size ≤ oQ)); replace HB := aa.mk (aM (by exact HB.out) hb); clear hb hbox hg; obtain ⟨amk, akm, akj, ama, alB, akD, akT, alm, al8, akr⟩ := cells5 jJ.out))
   go_ret
   exact ⟨by rfl, by exact HB.out⟩
  ·rw [if_neg c5] at H; have yE : decide (4 < (aH.length : Int)) = false := decide_eq_false c5; have SQ : decide (4 < aH.length) = false := decide_eq_false (by omega); clear c5; have H' := aa.mk H; clear H; go_enter Try.func40, Try.ntmps40; (go_wp2_with (((with_reducible refine dN (N := 1) rfl ?_); refine eB ?hg (N := 1) ?hd (cs := #[.slice dF aH.length dz, .int .i64 aX, .int .i64 bz, .int .i64 bG, .slice eu ay.length bZ]) (t := 25) ?hr ?_; (case hd => rfl); (case hg => rfl); (case hr => (go_simp; done)); intro oQ hg w8 hbox hb; have jJ := aa.mk (hbox); have ZI := aa.mk ((by rw [hg]; exact (ak (by exact HB.out)) : w.heap.size ≤ oQ)); have aaf := aa.mk ((by rw [hg]; exact (ak (by exact HB.out)) : w.heap.size ≤ oQ)); replace HB := aa.mk (aM (by exact HB.out) hb); clear hb hbox hg; obtain ⟨Q6, Tz, acu, acH, abh, Sa, SC, acI, abd, abK⟩ := cells5 jJ.out))); (go_loopg [23] k (fun kq v23 w' => ∃ (jW : Int), v23 = .int .i64 jW ∧ aa (aZ.l0 kq aH (aH.length : Int) jW aH aX bz bG ay = some r) ∧ aa (kq ≤ k) ∧ aa (w'.heap[oQ]? = some (.cells #[(.slice dF aH.length dz), .int .i64 aX, .int .i64 bz, .int .i64 bG, (.slice eu ay.length bZ)] 25 (0, 0))) ∧ aa (Below w.heap.size w w'))); case atStart => exact ⟨(0), (by rfl), H', ⟨Nat.le_refl _⟩, ⟨by (with_reducible skip); exact jJ.out⟩, ⟨by exact HB.out⟩⟩
   case round =>
    clear H' c2 Iz adO aki yE SQ Q6 Tz acu acH abh Sa SC acI abd abK; obtain ⟨jW, rfl, HA, HK1, jJ, HB⟩ := hrel
    cases gk with
    | zero => exact absurd HA.out (by simp [aZ.l0])
    | succ k1 =>
     have H := HA.out; clear HA; simp only [aZ.l0] at H; by_cases c10 : jW < (aH.length : Int)
     ·rw [if_pos c10] at H; have Df : decide (jW < (aH.length : Int)) = true := decide_eq_true c10; clear c10; by_cases c11 : 0 ≤ jW
      ·rw [if_pos c11] at H; have Ht : decide (0 ≤ jW) = true := decide_eq_true c11; clear c11; by_cases c12 : jW < (aH.length : Int)
       ·rw [if_pos c12] at H; have Am : decide (jW < (aH.length : Int)) = true := decide_eq_true c12; clear c12; replace H := Option.bind_eq_some_iff.mp H; obtain ⟨GX, afG, H⟩ := H; have A13 := aa.mk afG; clear afG; by_cases c14 : GX = 0
        ·rw [if_pos c14] at H; have Dk : (GX == 0) = true := beq_iff_eq.mpr c14; have KM : (GX != 0) = false := bne_eq_false_iff_eq.mpr c14; clear c14; have H' := aa.mk H; clear H; have NF : 0 ≤ (jW : Int) := of_decide_eq_true (by with_reducible assumption); have MH : jW < (aH.length : Int) := of_decide_eq_true (by with_reducible assumption); obtain ⟨EX, A112_2, c112_2, e112, xX, xQ, xR, BS, Bl⟩ := rE uK.out jW NF MH; cases e112; replace xX := (HB.out.cell (World.block_lt_of_cell? w _ xX)).trans xX; replace xQ := (HB.out.cell (World.block_lt_of_cell? w _ xQ)).trans xQ; replace xR := (HB.out.cell (World.block_lt_of_cell? w _ xR)).trans xR; have I4 := aa.mk Bl; have JU := aa.mk BS; clear Bl BS; replace NF := eq_true NF; replace MH := eq_true MH; (go_wp2_with (first | ((with_reducible refine dN (N := 4) rfl ?_); refine eB ?hg (N := 4) ?hd (cs := #[.int .i64 0, .int .i64 0, .slice none 0 0]) (t := 66) ?hr ?_; (case hd => rfl); (case hg => rfl); (case hr => (go_simp; done)); intro zg hg w15 hbox hb; have EK := aa.mk (hbox); have af4 := aa.mk ((by rw [hg]; exact (ak (by exact HB.out)) : w.heap.size ≤ zg)); have LV := aa.mk ((by rw [hg]; exact (ak (by exact HB.out)) : w.heap.size ≤ zg)); replace HB := aa.mk (aM (by exact HB.out) hb); have qP := aa.mk ((by rw [hg]; exact Nat.ne_of_lt (bW (g := oQ) (o := .cells #[.slice (some EX) aH.length dz, .int .i64 aX, .int .i64 bz, .int .i64 bG, .slice eu ay.length bZ] 25 (0, 0)) (bU jJ.out)) : oQ ≠ zg)); have CJ := aa.mk ((by rw [hg]; exact Nat.ne_of_gt (bW (g := oQ) (o := .cells #[.slice (some EX) aH.length dz, .int .i64 aX, .int .i64 bz, .int .i64 bG, .slice eu ay.length bZ] 25 (0, 0)) (bU jJ.out)) : zg ≠ oQ)); replace jJ := aa.mk (aG (bU jJ.out) hb); clear hb hbox hg; have aet := CJ.out; have aeo := qP.out; obtain ⟨Ej, DZ, Ea, D5, Eh, Ec⟩ := cells3 EK.out) | ((with_reducible refine bR (f := 63) rfl ?_); refine fJ (some 28) rfl rfl Try.func63 (by kernel_rfl) rfl #[.agg #[.int .i64 ((ah aH jW).f0.f0), .int .i64 ((ah aH jW).f0.f1), .slice A112_2 ((ah aH jW).f1).length c112_2]] rfl (by (simp only [List.map_toArray, List.map_cons, List.map_nil]); rfl) ?_; (with_reducible refine (aT.calls k1 ((ah aH jW).f0.f0) ((ah aH jW).f0.f1) _ _ ((ah aH jW).f1) GX _ ?side1 ?side2 A13.out).mono ?_); (case side1 => exact Kd.gm I4.out (by repeat ((with_reducible first | exact HB.out | refine dB ?_ LV.out)))); (case side2 => exact JU.out); rintro e w18 ⟨rfl, hb⟩; refine ⟨_, rfl, ?_⟩; replace jJ := aa.mk (aG (g := oQ) (o := .cells #[.slice (some EX) aH.length dz, .int .i64 aX, .int .i64 bz, .int .i64 bG, .slice eu ay.length bZ] 25 (0, 0)) (by (with_reducible skip); refine bI ?_ qP.out _; (with_reducible skip); refine bI ?_ qP.out _; (with_reducible skip); refine bI ?_ qP.out _; (with_reducible skip); exact jJ.out) hb); replace EK := aa.mk (aG (g := zg) (o := .cells #[.int .i64 ((ah aH jW).f0.f0), .int .i64 ((ah aH jW).f0.f1), .slice A112_2 ((ah aH jW).f1).length c112_2] 66 (0, 0)) (by (with_reducible skip); refine cu (cs := #[.int .i64 ((ah aH jW).f0.f0), .int .i64 ((ah aH jW).f0.f1), .slice none 0 0]) ?_ 2 _ rfl; (with_reducible skip); refine cu (cs := #[.int .i64 ((ah aH jW).f0.f0), .int .i64 0, .slice none 0 0]) ?_ 1 _ rfl; (with_reducible skip); refine cu (cs := #[.int .i64 0, .int .i64 0, .slice none 0 0]) ?_ 0 _ rfl; (with_reducible skip); exact EK.out) hb); replace HB := aa.mk (aM (by repeat ((with_reducible first | exact HB.out | refine dB ?_ LV.out))) hb); (clear hb)))); go_roundg k1; (case measure => have := HK1.out; omega); case rel => exact ⟨(wrap64 (jW + 1)), (by rfl), H', ⟨by have := HK1.out; omega⟩, ⟨by (with_reducible skip); exact jJ.out⟩, ⟨by exact HB.out⟩⟩
        ·rw [if_neg c14] at H; have Dk : (GX == 0) = false := beq_eq_false_iff_ne.mpr c14; have KM : (GX != 0) = true := bne_iff_ne.mpr c14; obtain rfl := Option.some.inj H; have NF : 0 ≤ (jW : Int) := of_decide_eq_true (by with_reducible assumption); have MH : jW < (aH.length : Int) := of_decide_eq_true (by with_reducible assumption); obtain ⟨EX, A112_2, c112_2, e112, xX, xQ, xR, BS, Bl⟩ := rE uK.out jW NF MH; cases e112; replace xX := (HB.out.cell (World.block_lt_of_cell? w _ xX)).trans xX; replace xQ := (HB.out.cell (World.block_lt_of_cell? w _ xQ)).trans xQ; replace xR := (HB.out.cell (World.block_lt_of_cell? w _ xR)).trans xR; have I4 := aa.mk Bl; have JU := aa.mk BS; clear Bl BS; replace NF := eq_true NF; replace MH := eq_true MH; go_wp2_with (first | ((with_reducible refine dN (N := 4) rfl ?_); refine eB ?hg (N := 4) ?hd (cs := #[.int .i64 0, .int .i64 0, .slice none 0 0]) (t := 66) ?hr ?_; (case hd => rfl); (case hg => rfl); (case hr => (go_simp; done)); intro zg hg w19 hbox hb; have EK := aa.mk (hbox); have af4 := aa.mk ((by rw [hg]; exact (ak (by exact HB.out)) : w.heap.size ≤ zg)); have LV := aa.mk ((by rw [hg]; exact (ak (by exact HB.out)) : w.heap.size ≤ zg)); replace HB := aa.mk (aM (by exact HB.out) hb); have qP := aa.mk ((by rw [hg]; exact Nat.ne_of_lt (bW (g := oQ) (o := .cells #[.slice (some EX) aH.length dz, .int .i64 aX, .int .i64 bz, .int .i64 bG, .slice eu ay.length bZ] 25 (0, 0)) (bU jJ.out)) : oQ ≠ zg)); have CJ := aa.mk ((by rw [hg]; exact Nat.ne_of_gt (bW (g := oQ) (o := .cells #[.slice (some EX) aH.length dz, .int .i64 aX, .int .i64 bz, .int .i64 bG, .slice eu ay.length bZ] 25 (0, 0)) (bU jJ.out)) : zg ≠ oQ)); replace jJ := aa.mk (aG (bU jJ.out) hb); clear hb hbox hg; have anc := CJ.out; have ane := qP.out; obtain ⟨VN, Zk, YD, VZ, VX, Zj⟩ := cells3 EK.out) | ((with_reducible refine bR (f := 63) rfl ?_); refine fJ (some 28) rfl rfl Try.func63 (by kernel_rfl) rfl #[.agg #[.int .i64 ((ah aH jW).f0.f0), .int .i64 ((ah aH jW).f0.f1), .slice A112_2 ((ah aH jW).f1).length c112_2]] rfl (by (simp only [List.map_toArray, List.map_cons, List.map_nil]); rfl) ?_; (with_reducible refine (aT.calls k1 ((ah aH jW).f0.f0) ((ah aH jW).f0.f1) _ _ ((ah aH jW).f1) GX _ ?side1 ?side2 A13.out).mono ?_); (case side1 => exact Kd.gm I4.out (by repeat ((with_reducible first | exact HB.out | refine dB ?_ LV.out)))); (case side2 => exact JU.out); rintro e w22 ⟨rfl, hb⟩; refine ⟨_, rfl, ?_⟩; replace jJ := aa.mk (aG (g := oQ) (o := .cells #[.slice (some EX) aH.length dz, .int .i64 aX, .int .i64 bz, .int .i64 bG, .slice eu ay.length bZ] 25 (0, 0)) (by (with_reducible skip); refine bI ?_ qP.out _; (with_reducible skip); refine bI ?_ qP.out _; (with_reducible skip); refine bI ?_ qP.out _; (with_reducible skip); exact jJ.out) hb); replace EK := aa.mk (aG (g := zg) (o := .cells #[.int .i64 ((ah aH jW).f0.f0), .int .i64 ((ah aH jW).f0.f1), .slice A112_2 ((ah aH jW).f1).length c112_2] 66 (0, 0)) (by (with_reducible skip); refine cu (cs := #[.int .i64 ((ah aH jW).f0.f0), .int .i64 ((ah aH jW).f0.f1), .slice none 0 0]) ?_ 2 _ rfl; (with_reducible skip); refine cu (cs := #[.int .i64 ((ah aH jW).f0.f0), .int .i64 0, .slice none 0 0]) ?_ 1 _ rfl; (with_reducible skip); refine cu (cs := #[.int .i64 0, .int .i64 0, .slice none 0 0]) ?_ 0 _ rfl; (with_reducible skip); exact EK.out) hb); replace HB := aa.mk (aM (by repeat ((with_reducible first | exact HB.out | refine dB ?_ LV.out))) hb); (clear hb)))
         go_ret
         exact ⟨by rfl, by exact HB.out⟩
       ·rw [if_neg c12] at H; exact absurd H (by simp)
      ·rw [if_neg c11] at H; exact absurd H (by simp)
     ·rw [if_neg c10] at H; have Df : decide (jW < (aH.length : Int)) = false := decide_eq_false c10; clear c10; replace H := Option.bind_eq_some_iff.mp H; obtain ⟨Rk, agj, H⟩ := H; have A23 := aa.mk agj; clear agj; have abo := aa.mk H; clear H; obtain ⟨Yj, VK, XH, Yr, WO, WR, XE, Yn, VW, YM⟩ := cells5 jJ.out; (go_upto_if 33 with (((with_reducible refine bR (f := 64) rfl ?_); refine fJ (some 36) rfl rfl Try.func64 (by kernel_rfl) rfl #[.int .i64 aX, .int .i64 0, .int .i64 10] rfl (by (simp only [List.map_toArray, List.map_cons, List.map_nil]); rfl) ?_; (with_reducible refine (gJ.calls aX 0 10 Rk _ A23.out).mono ?_); rintro e w' ⟨rfl, ⟨nd, rfl⟩⟩; refine ⟨_, rfl, ?_⟩))); (skip); go_cut [33] (fun v33 wc => ∃ (kq : Nat) (Ip : Bool), v33 = .bool Ip ∧ aa (aZ.j1 kq Ip aH aX bz bG ay = some r) ∧ aa (kq ≤ k1) ∧ aa (wc.heap[oQ]? = some (.cells #[(.slice dF aH.length dz), .int .i64 aX, .int .i64 bz, .int .i64 bG, (.slice eu ay.length bZ)] 25 (0, 0))) ∧ aa (Below w.heap.size w wc))
      case first =>
       have H := abo.out; clear abo; by_cases c26 : Rk = true
       ·subst c26; rw [if_pos rfl] at H; replace H := Option.bind_eq_some_iff.mp H; obtain ⟨Xo, afe, H⟩ := H; have A27 := aa.mk afe; clear afe; by_cases c28 : Xo = true
        ·subst c28; rw [if_pos rfl] at H; replace H := Option.bind_eq_some_iff.mp H; obtain ⟨Yk, adx, H⟩ := H; have A29 := aa.mk adx; clear adx; have H' := aa.mk H; clear H; obtain ⟨aie, ahI, ahF, ahR, aj2, ajj, aiA, ahL, ahe, aiI⟩ := cells5 jJ.out; (go_wp2_with (first | ((with_reducible refine bR (f := 64) rfl ?_); refine fJ (some 40) rfl rfl Try.func64 (by kernel_rfl) rfl #[.int .i64 bz, .int .i64 0, .int .i64 10] rfl (by (simp only [List.map_toArray, List.map_cons, List.map_nil]); rfl) ?_; (with_reducible refine (gJ.calls bz 0 10 true _ A27.out).mono ?_); rintro e w' ⟨rfl, ⟨nd, rfl⟩⟩; refine ⟨_, rfl, ?_⟩) | ((with_reducible refine bR (f := 64) rfl ?_); refine fJ (some 44) rfl rfl Try.func64 (by kernel_rfl) rfl #[.int .i64 bG, .int .i64 0, .int .i64 40] rfl (by (simp only [List.map_toArray, List.map_cons, List.map_nil]); rfl) ?_; (with_reducible refine (gJ.calls bG 0 40 Yk _ A29.out).mono ?_); rintro e w' ⟨rfl, ⟨nd, rfl⟩⟩; refine ⟨_, rfl, ?_⟩))); go_meet; case rel => exact ⟨_, (!Yk), (by rfl), H', ⟨by have := HK1.out; omega⟩, ⟨by (with_reducible repeat (refine lH ?_ _)); exact jJ.out⟩, ⟨by exact lU HB.out⟩⟩
        ·replace c28 := Bool.eq_false_iff.mpr c28; subst c28; rw [if_neg (show ¬ (false = true) by decide)] at H; have H' := aa.mk H; clear H; obtain ⟨Oc, O4, O6, XO, WW, O3, N7, Oe, Xp, Wq⟩ := cells5 jJ.out; (go_wp2_with (((with_reducible refine bR (f := 64) rfl ?_); refine fJ (some 40) rfl rfl Try.func64 (by kernel_rfl) rfl #[.int .i64 bz, .int .i64 0, .int .i64 10] rfl (by (simp only [List.map_toArray, List.map_cons, List.map_nil]); rfl) ?_; (with_reducible refine (gJ.calls bz 0 10 false _ A27.out).mono ?_); rintro e w' ⟨rfl, ⟨nd, rfl⟩⟩; refine ⟨_, rfl, ?_⟩))); go_meet; case rel => exact ⟨_, (!false), (by rfl), H', ⟨by have := HK1.out; omega⟩, ⟨by (with_reducible repeat (refine lH ?_ _)); exact jJ.out⟩, ⟨by exact lU HB.out⟩⟩
       ·replace c26 := Bool.eq_false_iff.mpr c26; subst c26; rw [if_neg (show ¬ (false = true) by decide)] at H; have H' := aa.mk H; clear H; go_wp2; go_meet; case rel => exact ⟨_, (!false), (by rfl), H', ⟨by have := HK1.out; omega⟩, ⟨by (with_reducible repeat (refine lH ?_ _)); exact jJ.out⟩, ⟨by exact lU HB.out⟩⟩
      case rest =>
       clear abo Df Yj VK XH Yr WO WR XE Yn VW YM; obtain ⟨kq, Ip, rfl, HA, HJ23, jJ, HB⟩ := hcut
       cases kq with
       | zero => exact absurd HA.out (by simp [aZ.j1])
       | succ kj23 =>
        have H := HA.out; clear HA; simp only [aZ.j1] at H; by_cases c32 : Ip = true
        ·subst c32; rw [if_pos rfl] at H; obtain rfl := Option.some.inj H; go_wp2
         go_ret
         exact ⟨by rfl, by exact HB.out⟩
        ·replace c32 := Bool.eq_false_iff.mpr c32; subst c32; rw [if_neg (show ¬ (false = true) by decide)] at H; by_cases c33 : (ay.length : Int) = 0
         ·rw [if_pos c33] at H; have LA : ((ay.length : Int) == 0) = true := beq_iff_eq.mpr c33; have Pb : ((ay.length : Int) != 0) = false := bne_eq_false_iff_eq.mpr c33; clear c33; obtain rfl := Option.some.inj H; obtain ⟨ag6, ajw, aiM, aiQ, ajS, ahW, aij, aji, ahy, aj5⟩ := cells5 jJ.out; go_wp2
          go_ret
          exact ⟨by rfl, by exact HB.out⟩
         ·rw [if_neg c33] at H; have LA : ((ay.length : Int) == 0) = false := beq_eq_false_iff_ne.mpr c33; have Pb : ((ay.length : Int) != 0) = true := bne_iff_ne.mpr c33; (have adR : ¬ (ay = []) := fun h_ => c33 (by rw [h_]; rfl)); by_cases c35 : (ay.length : Int) > 8
          ·rw [if_pos c35] at H; have aax : decide (8 < (ay.length : Int)) = true := decide_eq_true c35; have Zx : decide (8 < ay.length) = true := decide_eq_true (by omega); clear c35; obtain rfl := Option.some.inj H; obtain ⟨Wt, WZ, aiY, aiX, ahp, Xr, Xh, ajq, ajT, aj3⟩ := cells5 jJ.out; go_wp2
           go_ret
           exact ⟨by rfl, by exact HB.out⟩
          ·rw [if_neg c35] at H; have aax : decide (8 < (ay.length : Int)) = false := decide_eq_false c35; have Zx : decide (8 < ay.length) = false := decide_eq_false (by omega); clear c35; have H' := aa.mk H; clear H; obtain ⟨zD, zI, zV, Iw, JO, zU, zR, zH, Jh, IC⟩ := cells5 jJ.out; go_wp2; (go_loopg [59] kj23 (fun kq v59 w' => ∃ (iX : Int), v59 = .int .i64 iX ∧ aa (aZ.l1 kq ay (ay.length : Int) iX = some r) ∧ aa (kq ≤ kj23) ∧ aa (w'.heap[oQ]? = some (.cells #[(.slice dF aH.length dz), .int .i64 aX, .int .i64 bz, .int .i64 bG, (.slice eu ay.length bZ)] 25 (0, 0))) ∧ aa (Below w.heap.size w w'))); case atStart => exact ⟨(0), (by rfl), H', ⟨Nat.le_refl _⟩, ⟨by (with_reducible skip); exact jJ.out⟩, ⟨by exact HB.out⟩⟩
           case round =>
            clear H' c33 LA Pb adR aax Zx zD zI zV Iw JO zU zR zH Jh IC; obtain ⟨iX, rfl, HA, HK3, jJ, HB⟩ := hrel
            cases gk with
            | zero => exact absurd HA.out (by simp [aZ.l1])
            | succ k3 =>
             have H := HA.out; clear HA; simp only [aZ.l1] at H; by_cases c38 : iX < (ay.length : Int)
             ·rw [if_pos c38] at H; have ZU : decide (iX < (ay.length : Int)) = true := decide_eq_true c38; clear c38; by_cases c39 : 0 ≤ iX
              ·rw [if_pos c39] at H; have OD : decide (0 ≤ iX) = true := decide_eq_true c39; clear c39; by_cases c40 : iX < (ay.length : Int)
               ·rw [if_pos c40] at H; have adk : decide (iX < (ay.length : Int)) = true := decide_eq_true c40; clear c40; by_cases c41 : ((cO ay iX).length : Int) > 4
                ·rw [if_pos c41] at H; have Tn : decide (4 < ((cO ay iX).length : Int)) = true := decide_eq_true c41; have aai : decide (4 < (cO ay iX).length) = true := decide_eq_true (by omega); clear c41; obtain rfl := Option.some.inj H; have KG : 0 ≤ (iX : Int) := of_decide_eq_true (by with_reducible assumption); have LZ : iX < (ay.length : Int) := of_decide_eq_true (by with_reducible assumption); obtain ⟨Lh, A118_0, c118_0, e118, wO, AR, Bg⟩ := Ia uU.out iX KG LZ; cases e118; replace wO := (HB.out.cell (World.block_lt_of_cell? w _ wO)).trans wO; have Ob := aa.mk Bg; have Yy := aa.mk AR; clear Bg AR; replace KG := eq_true KG; replace LZ := eq_true LZ; go_wp2
                 go_ret
                 exact ⟨by rfl, by exact HB.out⟩
                ·rw [if_neg c41] at H; have Tn : decide (4 < ((cO ay iX).length : Int)) = false := decide_eq_false c41; have aai : decide (4 < (cO ay iX).length) = false := decide_eq_false (by omega); clear c41; have H' := aa.mk H; clear H; have KG : 0 ≤ (iX : Int) := of_decide_eq_true (by with_reducible assumption); have LZ : iX < (ay.length : Int) := of_decide_eq_true (by with_reducible assumption); obtain ⟨Lh, A118_0, c118_0, e118, wO, AR, Bg⟩ := Ia uU.out iX KG LZ; cases e118; replace wO := (HB.out.cell (World.block_lt_of_cell? w _ wO)).trans wO; have Ob := aa.mk Bg; have Yy := aa.mk AR; clear Bg AR; replace KG := eq_true KG; replace LZ := eq_true LZ; go_wp2; (go_loopg [68] k3 (fun kq v68 w' => ∃ (mD : Int), v68 = .int .i64 mD ∧ aa (aZ.l2 kq ay (ay.length : Int) iX (cO ay iX) ((cO ay iX).length : Int) mD = some r) ∧ aa (kq ≤ k3) ∧ aa (w'.heap[oQ]? = some (.cells #[(.slice dF aH.length dz), .int .i64 aX, .int .i64 bz, .int .i64 bG, (.slice (some Lh) ay.length bZ)] 25 (0, 0))) ∧ aa (Below w.heap.size w w'))); case atStart => exact ⟨(0), (by rfl), H', ⟨Nat.le_refl _⟩, ⟨by (with_reducible skip); exact jJ.out⟩, ⟨by exact HB.out⟩⟩
                 case round =>
                  clear H' ZU OD adk Tn aai wO KG LZ; obtain ⟨mD, rfl, HA, HK4, jJ, HB⟩ := hrel
                  cases gk with
                  | zero => exact absurd HA.out (by simp [aZ.l2])
                  | succ k4 =>
                   have H := HA.out; clear HA; simp only [aZ.l2] at H; by_cases c42 : mD < ((cO ay iX).length : Int)
                   ·rw [if_pos c42] at H; have U6 : decide (mD < ((cO ay iX).length : Int)) = true := decide_eq_true c42; clear c42; by_cases c43 : 0 ≤ mD
                    ·rw [if_pos c43] at H; have VD : decide (0 ≤ mD) = true := decide_eq_true c43; clear c43; by_cases c44 : mD < ((cO ay iX).length : Int)
                     ·rw [if_pos c44] at H; have Zu : decide (mD < ((cO ay iX).length : Int)) = true := decide_eq_true c44; clear c44; replace H := Option.bind_eq_some_iff.mp H; obtain ⟨RS, age, H⟩ := H; have A45 := aa.mk age; clear age; have abe := aa.mk H; clear H; have WY : 0 ≤ (mD : Int) := of_decide_eq_true (by with_reducible assumption); have Xq : mD < ((cO ay iX).length : Int) := of_decide_eq_true (by with_reducible assumption); obtain ⟨amJ, e119, El, DX⟩ := Ji Ob.out mD WY Xq; cases e119; replace El := (HB.out.cell (World.block_lt_of_cell? w _ El)).trans El; replace DX := (HB.out.cell (World.block_lt_of_cell? w _ DX)).trans DX; replace WY := eq_true WY; replace Xq := eq_true Xq; (go_upto_if 72 with (first | ((with_reducible refine dN (N := 9) rfl ?_); refine eB ?hg (N := 9) ?hd (cs := #[.int .i64 0, .int .i64 0]) (t := 27) ?hr ?_; (case hd => rfl); (case hg => rfl); (case hr => (go_simp; done)); intro KR hg w47 hbox hb; have FQ := aa.mk (hbox); have anI := aa.mk ((by rw [hg]; exact (ak (by exact HB.out)) : w.heap.size ≤ KR)); have aaj := aa.mk ((by rw [hg]; exact (ak (by exact HB.out)) : w.heap.size ≤ KR)); replace HB := aa.mk (aM (by exact HB.out) hb); have rY := aa.mk ((by rw [hg]; exact Nat.ne_of_lt (bW (g := oQ) (o := .cells #[.slice dF aH.length dz, .int .i64 aX, .int .i64 bz, .int .i64 bG, .slice (some Lh) ay.length bZ] 25 (0, 0)) (bU jJ.out)) : oQ ≠ KR)); have zO := aa.mk ((by rw [hg]; exact Nat.ne_of_gt (bW (g := oQ) (o := .cells #[.slice dF aH.length dz, .int .i64 aX, .int .i64 bz, .int .i64 bG, .slice (some Lh) ay.length bZ] 25 (0, 0)) (bU jJ.out)) : KR ≠ oQ)); replace jJ := aa.mk (aG (bU jJ.out) hb); clear hb hbox hg; have amz := zO.out; have amA := rY.out; obtain ⟨Wm, YQ, Xv, XN⟩ := qf FQ.out) | ((with_reducible refine bR (f := 64) rfl ?_); refine fJ (some 75) rfl rfl Try.func64 (by kernel_rfl) rfl #[.int .i64 ((iM (cO ay iX) mD).f0), .int .i64 0, .int .i64 1023] rfl (by (simp only [List.map_toArray, List.map_cons, List.map_nil]); rfl) ?_; (with_reducible refine (gJ.calls ((iM (cO ay iX) mD).f0) 0 1023 RS _ A45.out).mono ?_); rintro e w' ⟨rfl, ⟨nd, rfl⟩⟩; refine ⟨_, rfl, ?_⟩))); (skip); go_cut [72] (fun v72 wc => ∃ (kq : Nat) (Jq : Bool), v72 = .bool Jq ∧ aa (aZ.j4 kq ay (ay.length : Int) iX (cO ay iX) ((cO ay iX).length : Int) mD Jq ((iM (cO ay iX) mD).f0) ((iM (cO ay iX) mD).f1) = some r) ∧ aa (kq ≤ k4) ∧ aa (wc.heap[oQ]? = some (.cells #[(.slice dF aH.length dz), .int .i64 aX, .int .i64 bz, .int .i64 bG, (.slice (some Lh) ay.length bZ)] 25 (0, 0))) ∧ aa (wc.heap[KR]? = some (.cells #[.int .i64 ((iM (cO ay iX) mD).f0), .int .i64 ((iM (cO ay iX) mD).f1)] 27 (0, 0))) ∧ aa (Below w.heap.size w wc))
                      case first =>
                       have H := abe.out; clear abe; by_cases c50 : RS = true
                       ·subst c50; rw [if_pos rfl] at H; replace H := Option.bind_eq_some_iff.mp H; obtain ⟨Y3, UZ, H⟩ := H; have A51 := aa.mk UZ; clear UZ; have H' := aa.mk H; clear H; have ant := zO.out; have anG := rY.out; obtain ⟨O7, P9, Pg, Qa⟩ := qf FQ.out; (go_wp2_with (((with_reducible refine bR (f := 64) rfl ?_); refine fJ (some 79) rfl rfl Try.func64 (by kernel_rfl) rfl #[.int .i64 ((iM (cO ay iX) mD).f1), .int .i64 0, .int .i64 1023] rfl (by (simp only [List.map_toArray, List.map_cons, List.map_nil]); rfl) ?_; (with_reducible refine (gJ.calls ((iM (cO ay iX) mD).f1) 0 1023 Y3 _ A51.out).mono ?_); rintro e w' ⟨rfl, ⟨nd, rfl⟩⟩; refine ⟨_, rfl, ?_⟩))); go_meet; case rel => exact ⟨_, (!Y3), (by rfl), H', ⟨by have := HK1.out; have := HJ23.out; have := HK3.out; have := HK4.out; omega⟩, ⟨by (with_reducible repeat (refine lH ?_ _)); refine bI ?_ rY.out _; (with_reducible skip); refine bI ?_ rY.out _; (with_reducible skip); exact jJ.out⟩, ⟨by (with_reducible repeat (refine lH ?_ _)); refine cu (cs := #[.int .i64 ((iM (cO ay iX) mD).f0), .int .i64 0]) ?_ 1 _ rfl; (with_reducible skip); refine cu (cs := #[.int .i64 0, .int .i64 0]) ?_ 0 _ rfl; (with_reducible skip); exact FQ.out⟩, ⟨by repeat ((with_reducible first | exact HB.out | apply gH | refine dB ?_ aaj.out))⟩⟩
                       ·replace c50 := Bool.eq_false_iff.mpr c50; subst c50; rw [if_neg (show ¬ (false = true) by decide)] at H; have H' := aa.mk H; clear H; go_wp2; go_meet; case rel => exact ⟨_, (!false), (by rfl), H', ⟨by have := HK1.out; have := HJ23.out; have := HK3.out; have := HK4.out; omega⟩, ⟨by (with_reducible repeat (refine lH ?_ _)); refine bI ?_ rY.out _; (with_reducible skip); refine bI ?_ rY.out _; (with_reducible skip); exact jJ.out⟩, ⟨by (with_reducible repeat (refine lH ?_ _)); refine cu (cs := #[.int .i64 ((iM (cO ay iX) mD).f0), .int .i64 0]) ?_ 1 _ rfl; (with_reducible skip); refine cu (cs := #[.int .i64 0, .int .i64 0]) ?_ 0 _ rfl; (with_reducible skip); exact FQ.out⟩, ⟨by repeat ((with_reducible first | exact HB.out | apply gH | refine dB ?_ aaj.out))⟩⟩
                      case rest =>
                       clear abe U6 VD Zu Wm YQ Xv XN El DX WY Xq; obtain ⟨kq, Jq, rfl, HA, HJ45, jJ, FQ, HB⟩ := hcut
                       cases kq with
                       | zero => exact absurd HA.out (by simp [aZ.j4])
                       | succ kj45 =>
                        have H := HA.out; clear HA; simp only [aZ.j4] at H; by_cases c54 : Jq = true
                        ·subst c54; rw [if_pos rfl] at H; obtain rfl := Option.some.inj H; go_wp2
                         go_ret
                         exact ⟨by rfl, by exact HB.out⟩
                        ·replace c54 := Bool.eq_false_iff.mpr c54; subst c54; rw [if_neg (show ¬ (false = true) by decide)] at H; replace H := Option.bind_eq_some_iff.mp H; obtain ⟨J7, UO, H⟩ := H; have A55 := aa.mk UO; clear UO; by_cases c56 : J7 = 0
                         ·rw [if_pos c56] at H; have Ra : (J7 == 0) = true := beq_iff_eq.mpr c56; have Vu : (J7 != 0) = false := bne_eq_false_iff_eq.mpr c56; clear c56; have H' := aa.mk H; clear H; have anm := zO.out; have anq := rY.out; obtain ⟨aj8, akc, aj1, ah8⟩ := qf FQ.out; (go_wp2_with (((with_reducible refine bR (f := 65) rfl ?_); refine fJ (some 86) rfl rfl Try.func65 (by kernel_rfl) rfl #[.int .i64 ((iM (cO ay iX) mD).f1), .int .i64 ((iM (cO ay iX) mD).f0)] rfl (by (simp only [List.map_toArray, List.map_cons, List.map_nil]); rfl) ?_; (with_reducible refine (iy.calls ((iM (cO ay iX) mD).f1) ((iM (cO ay iX) mD).f0) J7 _ A55.out).mono ?_); rintro e w' ⟨rfl, ⟨nd, rfl⟩⟩; refine ⟨_, rfl, ?_⟩))); go_roundg kj45; (case measure => have := HK1.out; have := HJ23.out; have := HK3.out; have := HK4.out; have := HJ45.out; omega); case rel => exact ⟨(wrap64 (mD + 1)), (by rfl), H', ⟨by have := HK1.out; have := HJ23.out; have := HK3.out; have := HK4.out; have := HJ45.out; omega⟩, ⟨by (with_reducible repeat (refine lH ?_ _)); exact jJ.out⟩, ⟨by exact lU HB.out⟩⟩
                         ·rw [if_neg c56] at H; have Ra : (J7 == 0) = false := beq_eq_false_iff_ne.mpr c56; have Vu : (J7 != 0) = true := bne_iff_ne.mpr c56; obtain rfl := Option.some.inj H; have RL := zO.out; have VB := rY.out; obtain ⟨ahX, aic, ajN, ajX⟩ := qf FQ.out; go_wp2_with (((with_reducible refine bR (f := 65) rfl ?_); refine fJ (some 86) rfl rfl Try.func65 (by kernel_rfl) rfl #[.int .i64 ((iM (cO ay iX) mD).f1), .int .i64 ((iM (cO ay iX) mD).f0)] rfl (by (simp only [List.map_toArray, List.map_cons, List.map_nil]); rfl) ?_; (with_reducible refine (iy.calls ((iM (cO ay iX) mD).f1) ((iM (cO ay iX) mD).f0) J7 _ A55.out).mono ?_); rintro e w' ⟨rfl, ⟨nd, rfl⟩⟩; refine ⟨_, rfl, ?_⟩))
                          go_ret
                          exact ⟨by rfl, by exact lU HB.out⟩
                     ·rw [if_neg c44] at H; exact absurd H (by simp)
                    ·rw [if_neg c43] at H; exact absurd H (by simp)
                   ·rw [if_neg c42] at H; have U6 : decide (mD < ((cO ay iX).length : Int)) = false := decide_eq_false c42; clear c42; have H' := aa.mk H; clear H; go_wp2; go_roundg k4; (case measure => have := HK1.out; have := HJ23.out; have := HK3.out; have := HK4.out; omega); case rel => exact ⟨(wrap64 (iX + 1)), (by rfl), H', ⟨by have := HK1.out; have := HJ23.out; have := HK3.out; have := HK4.out; omega⟩, ⟨by (with_reducible skip); exact jJ.out⟩, ⟨by exact HB.out⟩⟩
               ·rw [if_neg c40] at H; exact absurd H (by simp)
              ·rw [if_neg c39] at H; exact absurd H (by simp)
             ·rw [if_neg c38] at H; have ZU : decide (iX < (ay.length : Int)) = false := decide_eq_false c38; clear c38; obtain rfl := Option.some.inj H; go_wp2
              go_ret
              exact ⟨by rfl, by exact HB.out⟩
end Go.Proofs.Ytihedeofkhapiaa.Pr
end
section
namespace Go.Proofs.Ytihedeofkhapiaa.Pr
open Go.RowKit Go.Proofs.YtihedeofkhapiaaW.PrintWords Go.Proofs.YtihedeofkhapiaaW.PrintLast Go.Proofs.YtihedeofkhapiaaW.PrintMore
def inP (n lo hi : Int) : Bool := decide (lo ≤ n) && decide (n ≤ hi)
theorem wR {n lo hi : Int} : inP n lo hi = true ↔ lo ≤ n ∧ n ≤ hi := by simp [inP]
theorem NL (n lo hi : Int) : gJ.f n lo hi = some (inP n lo hi) := by
 unfold gJ.f inP; split
 ·rename_i h; simp [h]
 ·rename_i h; simp [h]
def tF : Option Int → List S86 → Int
 | _, [] => 0
 | p, s :: r => if s.f0 < 65 ∨ s.f0 > 90 then 8 else if inP s.f1 1 1023 = true then (if (∃ q, p = some q ∧ s.f0 ≤ q) then 5 else tF (some s.f0) r) else 1
def Ao (a b : Int) (l : List S86) : Int :=
 if inP a (-3000) 3000 = true ∧ inP b (-3000) 3000 = true then (if a > b then 5 else if l.length = 0 then 7 else if l.length > 8 then 6 else tF none l) else 1
def Ld (l : List S86) (i : Nat) : Option Int := if i = 0 then none else some (l.getD (i - 1) z86).f0
theorem Ms (l : List S86) : Ld l 0 = none := rfl
theorem Az (l : List S86) (i : Nat) : Ld l (i + 1) = some (l.getD i z86).f0 := by simp [Ld]
theorem Gg (l : List S86) (i : Nat) : av l (i : Int) = l.getD i z86 := by simp [av]
theorem Q3 (a b : Int) (l : List S86) (hl : l.length ≤ 8) : ∀ (d i : Nat), i + d = l.length → Ev (fun k => aT.l0 k l (l.length : Int) (i : Int) a b l) (tF (Ld l i) (l.drop i)) := by
 intro d
 induction d with
 | zero =>
  intro i hi; refine Ev.step (f := fun _ => some 0) (fun k => ?_) ?_
  ·simp only [aT.l0]; rw [if_neg (by omega)]
  ·rw [List.drop_eq_nil_of_le (by omega)]; exact Ev.now 0
 | succ d ih =>
  intro i hi; (have hc : ((i : Int) + 1) = ((i + 1 : Nat) : Int) := by omega); refine Ev.step (f := fun k => aT.j2 k (i : Int) l (l.length : Int) (i : Int) (decide ((l.getD i z86).f0 < 65 ∨ (l.getD i z86).f0 > 90)) a b l (l.getD i z86).f0 (l.getD i z86).f1) (fun k => ?_) ?_
  ·simp only [aT.l0]; rw [if_pos (by omega), if_pos (by omega), if_pos (by omega), Gg]; by_cases h : (l.getD i z86).f0 < 65
   ·rw [if_pos h, decide_eq_true h, decide_eq_true (show (l.getD i z86).f0 < 65 ∨ (l.getD i z86).f0 > 90 from .inl h)]
   ·rw [if_neg h]; simp only [h, false_or]
  rw [oK l z86 i (by omega), tF]; by_cases h1 : (l.getD i z86).f0 < 65 ∨ (l.getD i z86).f0 > 90
  ·rw [if_pos h1]; refine Ev.step (f := fun _ => some 8) (fun k => ?_) (Ev.now 8); simp only [aT.j2, h1, decide_true, if_true]
  rw [if_neg h1]; by_cases h2 : inP (l.getD i z86).f1 1 1023 = true
  ·rw [if_pos h2]; by_cases h3 : i = 0
   ·subst h3; rw [if_neg (by simp [Ld])]; refine Ev.step (f := fun k => aT.l0 k l (l.length : Int) ((0 + 1 : Nat) : Int) a b l) (fun k => ?_) ?_
    ·simp only [aT.j2, h1, decide_false, NL, Option.bind_some, h2]; rw [if_neg (by decide), if_pos trivial, if_neg (by decide), show wrap64 (((0 : Nat) : Int) + 1) = ((0 + 1 : Nat) : Int) from by unfold wrap64; omega]
    ·have := ih 1 (by omega)
     rwa [Az] at this
   ·obtain ⟨j, rfl⟩ : ∃ j, i = j + 1 := ⟨i - 1, by omega⟩; rw [Az]; (have hw : wrap64 (((j + 1 : Nat) : Int) - 1) = (j : Int) := by unfold wrap64; omega); (have hw2 : wrap64 (((j + 1 : Nat) : Int) + 1) = ((j + 1 + 1 : Nat) : Int) := by unfold wrap64; omega); by_cases h4 : (l.getD (j + 1) z86).f0 ≤ (l.getD j z86).f0
    ·rw [if_pos ⟨_, rfl, h4⟩]; refine Ev.step (f := fun _ => some 5) (fun k => ?_) (Ev.now 5); simp only [aT.j2, h1, decide_false, NL, Option.bind_some, h2, hw]; rw [if_neg (by decide), if_pos trivial, if_pos (by omega), if_pos (by omega), if_pos (by omega), Gg, if_pos h4]
    ·rw [if_neg (by rintro ⟨q, hq, h⟩; cases hq; exact h4 h)]; refine Ev.step (f := fun k => aT.l0 k l (l.length : Int) ((j + 1 + 1 : Nat) : Int) a b l) (fun k => ?_) ?_
     ·simp only [aT.j2, h1, decide_false, NL, Option.bind_some, h2, hw, hw2]; rw [if_neg (by decide), if_pos trivial, if_pos (by omega), if_pos (by omega), if_pos (by omega), Gg, if_neg h4]
     ·have := ih (j + 1 + 1) (by omega)
      rwa [Az] at this
  ·rw [if_neg h2]; refine Ev.step (f := fun _ => some 1) (fun k => ?_) (Ev.now 1); simp only [aT.j2, h1, decide_false, NL, Option.bind_some, h2]; rw [if_neg (by decide), if_neg (by simp)]
theorem Xn (a b : Int) (l : List S86) : Ev (fun k => aT.f k a b l) (Ao a b l) := by
 have hj : ∀ x, Ev (fun k => aT.j0 k x a b l) (if x = true then 1 else if a > b then 5 else if l.length = 0 then 7 else if l.length > 8 then 6 else tF none l) := by
  intro x; by_cases h1 : x = true
  ·rw [if_pos h1]; refine Ev.step (f := fun _ => some 1) (fun k => ?_) (Ev.now 1); simp only [aT.j0]; rw [if_pos h1]
  rw [if_neg h1]; by_cases h2 : a > b
  ·rw [if_pos h2]; refine Ev.step (f := fun _ => some 5) (fun k => ?_) (Ev.now 5); simp only [aT.j0]; rw [if_neg h1, if_pos h2]
  rw [if_neg h2]; by_cases h3 : l.length = 0
  ·rw [if_pos h3]; refine Ev.step (f := fun _ => some 7) (fun k => ?_) (Ev.now 7); simp only [aT.j0]; rw [if_neg h1, if_neg h2, if_pos (by omega)]
  rw [if_neg h3]; by_cases h4 : l.length > 8
  ·rw [if_pos h4]; refine Ev.step (f := fun _ => some 6) (fun k => ?_) (Ev.now 6); simp only [aT.j0]; rw [if_neg h1, if_neg h2, if_neg (by omega), if_pos (by omega)]
  rw [if_neg h4]; refine Ev.step (f := fun k => aT.l0 k l (l.length : Int) ((0 : Nat) : Int) a b l) (fun k => ?_) ?_
  ·simp only [aT.j0]; rw [if_neg h1, if_neg h2, if_neg (by omega), if_neg (by omega)]; rfl
  ·have := Q3 a b l (by omega) l.length 0 (by omega)
   simpa [Ms] using this
 refine Ev.congr (f := fun k => aT.j0 k (!(inP a (-3000) 3000 && inP b (-3000) 3000)) a b l) (fun k => ?_) ?_
 ·simp only [aT.f, NL, Option.bind_some]; by_cases h : inP a (-3000) 3000 = true
  ·rw [if_pos h, h, Bool.true_and]
  ·rw [if_neg h]; simp only [Bool.not_eq_true] at h; rw [h, Bool.false_and]
 ·have := hj (!(inP a (-3000) 3000 && inP b (-3000) 3000)); unfold Ao; by_cases h : inP a (-3000) 3000 = true ∧ inP b (-3000) 3000 = true
  ·rw [if_pos h]; rw [h.1, h.2, Bool.and_self, Bool.not_true, if_neg (by decide)] at this; rw [h.1, h.2]; exact this
  ·rw [if_neg h]
   have hx : (inP a (-3000) 3000 && inP b (-3000) 3000) = false := by
    simp only [Bool.and_eq_false_iff]; by_cases h' : inP a (-3000) 3000 = true
    ·exact .inr (by simpa [h'] using h)
    ·exact .inl (by simpa using h')
   rw [hx, Bool.not_false, if_pos rfl] at this; rw [hx]; exact this
def tN : List S66 → Int
 | [] => 0
 | h :: r => if Ao h.f0.f0 h.f0.f1 h.f1 = 0 then tN r else Ao h.f0.f0 h.f0.f1 h.f1
def uW : List S27 → Int
 | [] => 0
 | x :: r => if inP x.f0 0 1023 = true ∧ inP x.f1 0 1023 = true then (if jE x.f1 x.f0 = 0 then uW r else 2) else 1
def qZ : List (List S27) → Int
 | [] => 0
 | q :: r => if q.length > 4 then 6 else if uW q = 0 then qZ r else uW q
def oN (l0 : List S66) (a1 a2 a3 : Int) (l4 : List (List S27)) : Int :=
 if l0.length = 0 then 7 else if l0.length > 4 then 6 else if tN l0 = 0 then
  (if inP a1 0 10 = true ∧ inP a2 0 10 = true ∧ inP a3 0 40 = true then (if l4.length = 0 then 7 else if l4.length > 8 then 6 else qZ l4) else 1)
 else tN l0
theorem K6 (l : List S66) (i : Nat) : ah l (i : Int) = l.getD i z66 := by simp [ah]
theorem akA (l : List S27) (i : Nat) : iM l (i : Int) = l.getD i z27 := by simp [iM]
theorem XQ (l : List (List S27)) (i : Nat) : cO l (i : Int) = l.getD i [] := by simp [cO]
theorem BM (i n : Nat) (h : i < n) (hn : n ≤ 9223372036854775807) : wrap64 ((i : Int) + 1) = ((i + 1 : Nat) : Int) := by unfold wrap64; omega
theorem MW (l : List (List S27)) (hl : l.length ≤ 8) : ∀ (d i : Nat), i + d = l.length → Ev (fun k => aZ.l1 k l (l.length : Int) (i : Int)) (qZ (l.drop i)) := by
 intro d
 induction d with
 | zero =>
  intro i hi; refine Ev.step (f := fun _ => some 0) (fun k => ?_) ?_
  ·simp only [aZ.l1]; rw [if_neg (by omega)]
  ·rw [List.drop_eq_nil_of_le (by omega)]; exact Ev.now 0
 | succ d ih =>
  intro i hi; rw [oK l [] i (by omega), qZ]; obtain ⟨q, hq⟩ : ∃ q, q = l.getD i [] := ⟨_, rfl⟩; rw [← hq]; by_cases h1 : q.length > 4
  ·rw [if_pos h1]; refine Ev.step (f := fun _ => some 6) (fun k => ?_) (Ev.now 6); simp only [aZ.l1]; rw [if_pos (by omega), if_pos (by omega), if_pos (by omega), XQ, ← hq, if_pos (by omega)]
  rw [if_neg h1]
  have hin : ∀ (e j : Nat), j + e = q.length → Ev (fun k => aZ.l2 k l (l.length : Int) (i : Int) q (q.length : Int) (j : Int)) (if uW (q.drop j) = 0 then qZ (l.drop (i + 1)) else uW (q.drop j)) := by
   intro e
   induction e with
   | zero =>
    intro j hj; refine Ev.step (f := fun k => aZ.l1 k l (l.length : Int) ((i + 1 : Nat) : Int)) (fun k => ?_) ?_
    ·simp only [aZ.l2]; rw [if_neg (by omega), BM i 8 (by omega) (by omega)]
    ·rw [List.drop_eq_nil_of_le (show q.length ≤ j by omega), uW, if_pos rfl]; exact ih (i + 1) (by omega)
   | succ e ih2 =>
    intro j hj; rw [oK q z27 j (by omega), uW]; obtain ⟨x, hx⟩ : ∃ x, x = q.getD j z27 := ⟨_, rfl⟩; rw [← hx]; refine Ev.step (f := fun k => aZ.j4 k l (l.length : Int) (i : Int) q (q.length : Int) (j : Int) (!(inP x.f0 0 1023 && inP x.f1 0 1023)) x.f0 x.f1) (fun k => ?_) ?_
    ·simp only [aZ.l2, NL, Option.bind_some]; rw [if_pos (by omega), if_pos (by omega), if_pos (by omega), akA, ← hx]; by_cases h : inP x.f0 0 1023 = true
     ·rw [if_pos h, h, Bool.true_and]
     ·rw [if_neg h]; simp only [Bool.not_eq_true] at h; rw [h, Bool.false_and]
    by_cases h : inP x.f0 0 1023 = true ∧ inP x.f1 0 1023 = true
    ·rw [if_pos h, h.1, h.2, Bool.and_self, Bool.not_true]; by_cases h5 : jE x.f1 x.f0 = 0
     ·rw [if_pos h5]; refine Ev.step (f := fun k => aZ.l2 k l (l.length : Int) (i : Int) q (q.length : Int) ((j + 1 : Nat) : Int)) (fun k => ?_) (ih2 (j + 1) (by omega)); simp only [aZ.j4, iy.f, Option.bind_some]; rw [if_neg (by decide), if_pos (show Go.bits .andNot .i64 x.f1 x.f0 = 0 from h5), BM j 8 (by omega) (by omega)]
     ·rw [if_neg h5, if_neg (by decide)]; refine Ev.step (f := fun _ => some 2) (fun k => ?_) (Ev.now 2); simp only [aZ.j4, iy.f, Option.bind_some]; rw [if_neg (by decide), if_neg (show ¬ Go.bits .andNot .i64 x.f1 x.f0 = 0 from h5)]
    ·rw [if_neg h, if_neg (by decide)]
     have hx : (inP x.f0 0 1023 && inP x.f1 0 1023) = false := by
      simp only [Bool.and_eq_false_iff]; by_cases h' : inP x.f0 0 1023 = true
      ·exact .inr (by simpa [h'] using h)
      ·exact .inl (by simpa using h')
     rw [hx, Bool.not_false]; refine Ev.step (f := fun _ => some 1) (fun k => ?_) (Ev.now 1); simp only [aZ.j4]; rw [if_pos trivial]
  refine Ev.step (f := fun k => aZ.l2 k l (l.length : Int) (i : Int) q (q.length : Int) ((0 : Nat) : Int)) (fun k => ?_) ?_
  ·simp only [aZ.l1]; rw [if_pos (by omega), if_pos (by omega), if_pos (by omega), XQ, ← hq, if_neg (by omega)]; rfl
  ·have := hin q.length 0 (by omega)
   simpa using this
theorem Sy (l0 : List S66) (a1 a2 a3 : Int) (l4 : List (List S27)) : Ev (fun k => aZ.f k l0 a1 a2 a3 l4) (oN l0 a1 a2 a3 l4) := by
 unfold oN; by_cases h1 : l0.length = 0
 ·rw [if_pos h1]; refine Ev.congr (f := fun _ => some 7) (fun k => ?_) (Ev.now 7); simp only [aZ.f]; rw [if_pos (by omega)]
 rw [if_neg h1]; by_cases h2 : l0.length > 4
 ·rw [if_pos h2]; refine Ev.congr (f := fun _ => some 6) (fun k => ?_) (Ev.now 6); simp only [aZ.f]; rw [if_neg (by omega), if_pos (by omega)]
 rw [if_neg h2]
 have hj : ∀ x, Ev (fun k => aZ.j1 k x l0 a1 a2 a3 l4) (if x = true then 1 else if l4.length = 0 then 7 else if l4.length > 8 then 6 else qZ l4) := by
  intro x; by_cases h3 : x = true
  ·rw [if_pos h3]; refine Ev.step (f := fun _ => some 1) (fun k => ?_) (Ev.now 1); simp only [aZ.j1]; rw [if_pos h3]
  rw [if_neg h3]; by_cases h4 : l4.length = 0
  ·rw [if_pos h4]; refine Ev.step (f := fun _ => some 7) (fun k => ?_) (Ev.now 7); simp only [aZ.j1]; rw [if_neg h3, if_pos (by omega)]
  rw [if_neg h4]; by_cases h5 : l4.length > 8
  ·rw [if_pos h5]; refine Ev.step (f := fun _ => some 6) (fun k => ?_) (Ev.now 6); simp only [aZ.j1]; rw [if_neg h3, if_neg (by omega), if_pos (by omega)]
  rw [if_neg h5]; refine Ev.step (f := fun k => aZ.l1 k l4 (l4.length : Int) ((0 : Nat) : Int)) (fun k => ?_) ?_
  ·simp only [aZ.j1]; rw [if_neg h3, if_neg (by omega), if_neg (by omega)]; rfl
  ·have := MW l4 (by omega) l4.length 0 (by omega)
   simpa using this
 have hl : ∀ (d i : Nat), i + d = l0.length → Ev (fun k => aZ.l0 k l0 (l0.length : Int) (i : Int) l0 a1 a2 a3 l4) (if tN (l0.drop i) = 0 then
  (if inP a1 0 10 = true ∧ inP a2 0 10 = true ∧ inP a3 0 40 = true then (if l4.length = 0 then 7 else if l4.length > 8 then 6 else qZ l4) else 1) else tN (l0.drop i)) := by
  intro d
  induction d with
  | zero =>
   intro i hi; rw [List.drop_eq_nil_of_le (by omega), tN, if_pos rfl]; refine Ev.step (f := fun k => aZ.j1 k (!(inP a1 0 10 && (inP a2 0 10 && inP a3 0 40))) l0 a1 a2 a3 l4) (fun k => ?_) ?_
   ·simp only [aZ.l0, NL, Option.bind_some]; rw [if_neg (by omega)]; by_cases h3 : inP a1 0 10 = true
    ·rw [if_pos h3, h3, Bool.true_and]; by_cases h4 : inP a2 0 10 = true
     ·rw [if_pos h4, h4, Bool.true_and]
     ·rw [if_neg h4]; simp only [Bool.not_eq_true] at h4; rw [h4, Bool.false_and]
    ·rw [if_neg h3]; simp only [Bool.not_eq_true] at h3; rw [h3, Bool.false_and]
   ·have := hj (!(inP a1 0 10 && (inP a2 0 10 && inP a3 0 40))); by_cases h : inP a1 0 10 = true ∧ inP a2 0 10 = true ∧ inP a3 0 40 = true
    ·rw [if_pos h]; rw [h.1, h.2.1, h.2.2] at this ⊢; exact this
    ·rw [if_neg h]
     have hx : (inP a1 0 10 && (inP a2 0 10 && inP a3 0 40)) = false := by
      rw [Bool.eq_false_iff]; intro hh; simp only [Bool.and_eq_true] at hh; exact h hh
     rw [hx] at this ⊢; exact this
  | succ d ih =>
   intro i hi; rw [oK l0 z66 i (by omega), tN]; refine Ev.step (f := fun k => (aT.f k (l0.getD i z66).f0.f0 (l0.getD i z66).f0.f1 (l0.getD i z66).f1).bind fun t => if t = 0 then aZ.l0 k l0 (l0.length : Int) ((i + 1 : Nat) : Int) l0 a1 a2 a3 l4 else some t) (fun k => ?_) ?_
   ·simp only [aZ.l0]; rw [if_pos (by omega), if_pos (by omega), if_pos (by omega), K6, BM i 8 (by omega) (by omega)]
   ·refine Ev.bind (Xn _ _ _) ?_; by_cases h3 : Ao (l0.getD i z66).f0.f0 (l0.getD i z66).f0.f1 (l0.getD i z66).f1 = 0
    ·simp only [h3, if_true]; exact ih (i + 1) (by omega)
    ·simp only [h3, if_false]; exact Ev.now _
 have := hl l0.length 0 (by omega); refine Ev.congr (f := fun k => aZ.l0 k l0 (l0.length : Int) ((0 : Nat) : Int) l0 a1 a2 a3 l4) (fun k => ?_) (by simpa using this); simp only [aZ.f]; rw [if_neg (by omega), if_neg (by omega)]; rfl
theorem xY {l0 : List S66} {a1 a2 a3 : Int} {l4 : List (List S27)} (h : oN l0 a1 a2 a3 l4 = 0) : 0 < l0.length ∧ l0.length ≤ 4 ∧ 0 < l4.length ∧ l4.length ≤ 8 ∧ tN l0 = 0 ∧ qZ l4 = 0 ∧ inP a1 0 10 = true ∧ inP a2 0 10 = true ∧ inP a3 0 40 = true := by
 unfold oN at h; split at h
 ·exact absurd h (by decide)
 split at h
 ·exact absurd h (by decide)
 split at h
 ·split at h
  ·split at h
   ·exact absurd h (by decide)
   split at h
   ·exact absurd h (by decide)
   ·rename_i h1 h2 h3 h4 h5 h6; exact ⟨by omega, by omega, by omega, by omega, h3, h, h4⟩
  ·exact absurd h (by decide)
 ·rename_i h1 h2 h3; exact absurd h h3
theorem Ii {l0 : List S66} (h : tN l0 = 0) : ∀ x ∈ l0, Ao x.f0.f0 x.f0.f1 x.f1 = 0 := by
 induction l0 with
 | nil => intro x hx; cases hx
 | cons y r ih =>
  rw [tN] at h; split at h
  ·rename_i h1; intro x hx; rcases List.mem_cons.1 hx with rfl | hx
   ·exact h1
   ·exact ih h x hx
  ·rename_i h1; exact absurd h h1
theorem Dj {a b : Int} {l : List S86} (h : Ao a b l = 0) : inP a (-3000) 3000 = true ∧ inP b (-3000) 3000 = true ∧ a ≤ b ∧ 0 < l.length ∧ l.length ≤ 8 ∧ tF none l = 0 := by
 unfold Ao at h; split at h
 ·rename_i h0; split at h
  ·exact absurd h (by decide)
  split at h
  ·exact absurd h (by decide)
  split at h
  ·exact absurd h (by decide)
  ·rename_i h1 h2 h3; exact ⟨h0.1, h0.2, by omega, by omega, by omega, h⟩
 ·exact absurd h (by decide)
theorem yt {l0 : List S66} (h : tN l0 = 0) : ∀ i : Nat, i < l0.length → (ah l0 (i : Int)).f1.length ≤ 8 := fun i hi => by
 rw [K6, List.getD_eq_getElem?_getD, List.getElem?_eq_getElem hi]; exact (Dj (Ii h _ (List.getElem_mem hi))).2.2.2.2.1
theorem Dt (dF : Option Addr) (dz : Nat) (aH : List (S66)) (aX : Int) (bz : Int) (bG : Int) (eu : Option Addr) (bZ : Nat) (ay : List (List (S27))) (w : World) (oO : Kd.C k66 w dF aH.length aH) (qL : aH.length ≤ dz) (qh : Kd.C (Kd.slice 27 k27) w eu ay.length ay) (rJ : ay.length ≤ bZ) :
 Calls Try.prog 40 #[.agg #[.slice dF aH.length dz, .int .i64 aX, .int .i64 bz, .int .i64 bG, .slice eu ay.length bZ]] w fun e w' => e = .returned (.int .i64 (oN aH aX bz bG ay)) ∧ Below w.heap.size w w' := by
 obtain ⟨k, hk⟩ := (Sy aH aX bz bG ay).rounds; exact aZ.calls k dF dz aH aX bz bG eu bZ ay _ w oO qL qh rJ hk
end Go.Proofs.Ytihedeofkhapiaa.Pr
end
section
namespace Go.Proofs.Ytihedeofkhapiaa.Pr
open Go.RowKit Go.Proofs.YtihedeofkhapiaaW.PrintWords Go.Proofs.YtihedeofkhapiaaW.PrintLast Go.Proofs.YtihedeofkhapiaaW.PrintMore
attribute [local go_sem] pU pX ru rz nJ nK pR qa
def df.l0 : Nat → List ByteArray → List ByteArray → Bool → Int → Option (Bool)
 | 0, _, _, _, _ => none
 | k + 1, x0, x1, x5, x6 => if x5 = true then (if x6 < (x0.length : Int) then (if 0 ≤ x6 then (if x6 < (x1.length : Int) then (df.l0 k x0 x1 ((jF ByteArray.empty x0 x6).toList == (jF ByteArray.empty x1 x6).toList) (wrap64 (x6 + 1))) else (none)) else (none)) else (some x5)) else (some x5)
def df.f (k : Nat) (l0 : List ByteArray) (l1 : List ByteArray) : Option (Bool) := df.l0 k l0 l1 ((l0.length : Int) == (l1.length : Int)) 0
theorem df.ig : ∀ k, (∀ y0 y1 y2 y3, LeO (df.l0 k y0 y1 y2 y3) (df.l0 (k + 1) y0 y1 y2 y3))
 | 0 => fun _ _ _ _ r h => by simp [df.l0] at h
 | k + 1 => by
  have ih0 := df.ig k
  ·intro y0 y1 y2 y3; unfold df.l0
   repeat' first | (with_reducible exact ih0 _ _ _ _) | (with_reducible exact LeO.refl _) | (with_reducible refine LeO.ite ?_ ?_)
theorem df.mono : ∀ a0 a1 k, LeO (df.f k a0 a1) (df.f (k + 1) a0 a1) := by
 intro a0 a1 k; have ih0 := df.ig k; unfold df.f
 repeat' (with_reducible exact ih0 _ _ _ _)
set_option maxHeartbeats 8000000 in
set_option maxRecDepth 100000 in
theorem df.calls (k : Nat) (A0 : Option Addr) (c0 : Nat) (l0 : List ByteArray) (A1 : Option Addr) (c1 : Nat) (l1 : List ByteArray) (r : Bool) (w : World) (hr0 : Kd.C Kd.string w A0 l0.length l0) (hc0 : l0.length ≤ c0) (hr1 : Kd.C Kd.string w A1 l1.length l1) (hc1 : l1.length ≤ c1) (h : df.f k l0 l1 = some r) :
 Calls Try.prog 42 #[.slice A0 l0.length c0, .slice A1 l1.length c1] w fun e w' => e = .returned (.bool r) ∧ gy w w' := by
 have HR0 := aa.mk hr0; have HC0 := aa.mk hc0; clear hr0 hc0; have HR1 := aa.mk hr1; have HC1 := aa.mk hc1; clear hr1 hc1; have H : (df.l0 k l0 l1 ((l0.length : Int) == (l1.length : Int)) 0) = some r := h; clear h; have H' := aa.mk H; clear H; go_enter Try.func42, Try.ntmps42; go_wp2; (go_loopg [5, 6] k (fun kq v5 v6 w' => ∃ (jk : Bool) (nz : Int), v5 = .bool jk ∧ v6 = .int .i64 nz ∧ aa (df.l0 kq l0 l1 jk nz = some r) ∧ aa (kq ≤ k) ∧ gy w w')); case atStart => exact ⟨(((l0.length : Int) == (l1.length : Int))), (0), (by rfl), (by rfl), H', ⟨Nat.le_refl _⟩, by exact gy.refl _⟩
 case round =>
  clear H'; obtain ⟨jk, nz, rfl, rfl, HA, HK1, ⟨m1, rfl⟩⟩ := hrel
  cases gk with
  | zero => exact absurd HA.out (by simp [df.l0])
  | succ k1 =>
   have H := HA.out; clear HA; simp only [df.l0] at H; by_cases c3 : jk = true
   ·subst c3; rw [if_pos rfl] at H; by_cases c4 : nz < (l0.length : Int)
    ·rw [if_pos c4] at H; have AB : decide (nz < (l0.length : Int)) = true := decide_eq_true c4; clear c4; by_cases c5 : 0 ≤ nz
     ·rw [if_pos c5] at H; have yE : decide (0 ≤ nz) = true := decide_eq_true c5; clear c5; by_cases c6 : nz < (l1.length : Int)
      ·rw [if_pos c6] at H; have akw : decide (nz < (l1.length : Int)) = true := decide_eq_true c6; clear c6; have H' := aa.mk H; clear H; have acw : 0 ≤ (nz : Int) := of_decide_eq_true (by with_reducible assumption); have abE : nz < (l0.length : Int) := of_decide_eq_true (by with_reducible assumption); obtain ⟨anW, e264, ajv⟩ := Kd.jc HR0.out nz acw abE; cases e264; replace acw := eq_true acw; replace abE := eq_true abE; have abA : 0 ≤ (nz : Int) := of_decide_eq_true (by with_reducible assumption); have aaV : nz < (l1.length : Int) := of_decide_eq_true (by with_reducible assumption); obtain ⟨amC, e265, aiv⟩ := Kd.jc HR1.out nz abA aaV; cases e265; replace abA := eq_true abA; replace aaV := eq_true aaV; go_wp2; (repeat (go_quiet (fail); go_wp2)); go_roundg k1; (case measure => have := HK1.out; omega); case rel => exact ⟨(((jF ByteArray.empty l0 nz).toList == (jF ByteArray.empty l1 nz).toList)), (wrap64 (nz + 1)), (by rfl), (by rfl), H', ⟨by have := HK1.out; omega⟩, by repeat (first | exact gy.refl _ | apply gy.step)⟩
      ·rw [if_neg c6] at H; exact absurd H (by simp)
     ·rw [if_neg c5] at H; exact absurd H (by simp)
    ·rw [if_neg c4] at H; have AB : decide (nz < (l0.length : Int)) = false := decide_eq_false c4; clear c4; obtain rfl := Option.some.inj H; go_wp2
     go_ret
     exact ⟨by rfl, by repeat (first | exact gy.refl _ | apply gy.step)⟩
   ·replace c3 := Bool.eq_false_iff.mpr c3; subst c3; rw [if_neg (show ¬ (false = true) by decide)] at H; obtain rfl := Option.some.inj H; go_wp2
    go_ret
    exact ⟨by rfl, by repeat (first | exact gy.refl _ | apply gy.step)⟩
def nV.f  : Option ((List (S66))) := some (([(⟨(⟨(-400), (-300)⟩ : S63), (([(⟨65, 7⟩ : S86), (⟨76, 3⟩ : S86), (⟨84, 12⟩ : S86)] : List (S86)))⟩ : S66), (⟨(⟨(-320), (-200)⟩ : S63), (([(⟨65, 15⟩ : S86), (⟨76, 3⟩ : S86), (⟨84, 12⟩ : S86)] : List (S86)))⟩ : S66)] : List (S66)))
set_option maxHeartbeats 8000000 in
set_option maxRecDepth 100000 in
theorem nV.calls  (r : List (S66)) (w : World) (h : nV.f  = some r) :
 Calls Try.prog 72 #[] w fun e w' => ∃ v0_ : Value, e = .returned (v0_) ∧ Kd.N k66 66 w' w.heap.size (fun k_ => (w.heap.size ≤ k_)) v0_ r ∧ Below w.heap.size w w' := by
 have hu63 := Try.underlying63; have hu86 := Try.underlying86; have hu66 := Try.underlying66; have HB := aa.mk (Below.refl w.heap.size w); have H : (some (([(⟨(⟨(-400), (-300)⟩ : S63), (([(⟨65, 7⟩ : S86), (⟨76, 3⟩ : S86), (⟨84, 12⟩ : S86)] : List (S86)))⟩ : S66), (⟨(⟨(-320), (-200)⟩ : S63), (([(⟨65, 15⟩ : S86), (⟨76, 3⟩ : S86), (⟨84, 12⟩ : S86)] : List (S86)))⟩ : S66)] : List (S66)))) = some r := h; clear h; obtain ⟨Mk, SA⟩ : ∃ y_ : List (S86), y_ = (([(⟨65, 7⟩ : S86), (⟨76, 3⟩ : S86), (⟨84, 12⟩ : S86)] : List (S86))) := ⟨_, rfl⟩; (replace H : (some (([(⟨(⟨(-400), (-300)⟩ : S63), Mk⟩ : S66), (⟨(⟨(-320), (-200)⟩ : S63), (([(⟨65, 15⟩ : S86), (⟨76, 3⟩ : S86), (⟨84, 12⟩ : S86)] : List (S86)))⟩ : S66)] : List (S66)))) = some r := by (rw [SA]; with_reducible exact H)); have afy := aa.mk SA; clear SA; obtain ⟨MS, UI⟩ : ∃ y_ : List (S86), y_ = (([(⟨65, 15⟩ : S86), (⟨76, 3⟩ : S86), (⟨84, 12⟩ : S86)] : List (S86))) := ⟨_, rfl⟩; (replace H : (some (([(⟨(⟨(-400), (-300)⟩ : S63), Mk⟩ : S66), (⟨(⟨(-320), (-200)⟩ : S63), MS⟩ : S66)] : List (S66)))) = some r := by (rw [UI]; with_reducible exact H)); have adi := aa.mk UI; clear UI; obtain ⟨amh, U3⟩ : ∃ y_ : List (S66), y_ = (([(⟨(⟨(-400), (-300)⟩ : S63), Mk⟩ : S66), (⟨(⟨(-320), (-200)⟩ : S63), MS⟩ : S66)] : List (S66))) := ⟨_, rfl⟩; (replace H : (some amh) = some r := by (rw [U3]; with_reducible exact H)); have adS := aa.mk U3; clear U3; obtain rfl := Option.some.inj H; go_enter Try.func72, Try.ntmps72; go_wp2_with (first | ((with_reducible refine dN (N := 5) rfl ?_); refine Kd.xG k86 _ 86 ?hg (N := 5) ?hd (xs := ([(⟨65, 7⟩ : S86), (⟨76, 3⟩ : S86), (⟨84, 12⟩ : S86)] : List (S86))) (inner := [.int .u8 65, .int .i64 7, .int .u8 76, .int .i64 3, .int .u8 84, .int .i64 12]) (ok := fun _ => True) (okp := fun _ => True) ?hr ?hp (fun _ hk => hk) trivial (Below.refl _ _) (Nat.le_refl _) (by simp) ?_; (case hd => rfl); (case hg => rfl); (case hr => (go_simp; done)); (case hp => exact (eT.c2 (show Kd.M k86 _ _ _ (⟨65, 7⟩ : S86) [.int .u8 65, .int .i64 7] from (tK _ _ _ (⟨65, 7⟩ : S86) )) (eT.c2 (show Kd.M k86 _ _ _ (⟨76, 3⟩ : S86) [.int .u8 76, .int .i64 3] from (tK _ _ _ (⟨76, 3⟩ : S86) )) (eT.c2 (show Kd.M k86 _ _ _ (⟨84, 12⟩ : S86) [.int .u8 84, .int .i64 12] from (tK _ _ _ (⟨84, 12⟩ : S86) )) (eT.none _ _))))); intro aoA w1 ho2 hb hg_ hnew_; clear hg_ hnew_; (rw [← afy.out] at ho2); have Fs := aa.mk (Kd.gG (Kd.nG (M := fun k_ => (w.heap.size ≤ k_)) ho2 (ak (by exact HB.out)) (fun k_ h_ => h_)) (ak (by exact HB.out))); replace HB := aa.mk (aM (by exact HB.out) hb); clear hb ho2; obtain ⟨Ao3, co3, eo3⟩ := Kd.fZ Fs.out; subst eo3) | ((with_reducible refine dN (N := 11) rfl ?_); refine Kd.xG k86 _ 86 ?hg (N := 11) ?hd (xs := ([(⟨65, 15⟩ : S86), (⟨76, 3⟩ : S86), (⟨84, 12⟩ : S86)] : List (S86))) (inner := [.int .u8 65, .int .i64 15, .int .u8 76, .int .i64 3, .int .u8 84, .int .i64 12]) (ok := fun _ => True) (okp := fun _ => True) ?hr ?hp (fun _ hk => hk) trivial (Below.refl _ _) (Nat.le_refl _) (by simp) ?_; (case hd => rfl); (case hg => rfl); (case hr => (go_simp; done)); (case hp => exact (eT.c2 (show Kd.M k86 _ _ _ (⟨65, 15⟩ : S86) [.int .u8 65, .int .i64 15] from (tK _ _ _ (⟨65, 15⟩ : S86) )) (eT.c2 (show Kd.M k86 _ _ _ (⟨76, 3⟩ : S86) [.int .u8 76, .int .i64 3] from (tK _ _ _ (⟨76, 3⟩ : S86) )) (eT.c2 (show Kd.M k86 _ _ _ (⟨84, 12⟩ : S86) [.int .u8 84, .int .i64 12] from (tK _ _ _ (⟨84, 12⟩ : S86) )) (eT.none _ _))))); intro aoa w4 ho5 hb hg_ hnew_; clear hg_ hnew_; (rw [← adi.out] at ho5); have Oh := aa.mk (Kd.gG (Kd.uu (Kd.nG (M := fun k_ => (w.heap.size ≤ k_)) ho5 (ak (by exact HB.out)) (fun k_ h_ => h_)) (Kd.sj (rU Fs.out))) (ak (by exact HB.out))); replace Fs := aa.mk (Kd.oM (rU Fs.out) (Kd.dU ho5) hb); replace HB := aa.mk (aM (by exact HB.out) hb); clear hb ho5; obtain ⟨Ao6, co6, eo6⟩ := Kd.fZ Oh.out; subst eo6) | ((with_reducible refine dN (N := 13) rfl ?_); refine Kd.Ov k66 _ 66 ?hg (N' := 13) ?hd (xs := ([(⟨(⟨(-400), (-300)⟩ : S63), Mk⟩ : S66), (⟨(⟨(-320), (-200)⟩ : S63), MS⟩ : S66)] : List (S66))) (inner := [.int .i64 (-400), .int .i64 (-300), .slice Ao3 Mk.length co3, .int .i64 (-320), .int .i64 (-200), .slice Ao6 MS.length co6]) (ok := (fun k_ => (w.heap.size ≤ k_))) (okp := (fun k_ => (w.heap.size ≤ k_))) ?hr ?hp (fun _ hk => hk) ((show ∀ k_, w4.heap.size ≤ k_ → (fun k_ => (w.heap.size ≤ k_)) k_ from fun k_ hk => (Nat.le_trans (ak (by exact HB.out)) hk)) _ (Nat.le_refl _)) (Below.refl _ _) (Nat.le_refl _) (by simp) ?_; (case hd => rfl); (case hg => rfl); (case hr => (go_simp; done)); (case hp => exact (eT.c3 (show Kd.FK k66 _ _ (⟨(⟨(-400), (-300)⟩ : S63), Mk⟩ : S66) [.int .i64 (-400), .int .i64 (-300), .slice Ao3 Mk.length co3] from (wU _ _ (⟨(⟨(-400), (-300)⟩ : S63), Mk⟩ : S66) (Kd.dV (Kd.dC (ok' := (fun k_ => (w.heap.size ≤ k_))) (Fs.out) (fun k_ hk => hk.1.1))).2.1 (Kd.R_F (Kd.dC (ok' := (fun k_ => (w.heap.size ≤ k_))) (Fs.out) (fun k_ hk => hk.1.1))))) (eT.c3 (show Kd.FK k66 _ _ (⟨(⟨(-320), (-200)⟩ : S63), MS⟩ : S66) [.int .i64 (-320), .int .i64 (-200), .slice Ao6 MS.length co6] from (wU _ _ (⟨(⟨(-320), (-200)⟩ : S63), MS⟩ : S66) (Kd.dV (Kd.dC (ok' := (fun k_ => (w.heap.size ≤ k_))) (Oh.out) (fun k_ hk => hk.1.1))).2.1 (Kd.R_F (Kd.dC (ok' := (fun k_ => (w.heap.size ≤ k_))) (Oh.out) (fun k_ hk => hk.1.1))))) (eT.none _ _)))); intro aoO w7 ho8 hb hg_ hnew_; clear hg_ hnew_; (rw [← adS.out] at ho8); have agz := aa.mk (Kd.jh ho8 (ak (by exact HB.out))); replace HB := aa.mk (aM (by exact HB.out) hb); clear Fs Oh hb ho8))
 go_ret
 exact ⟨_, by rfl, by (with_reducible skip); exact agz.out, by exact HB.out⟩
def iG.f  : Option ((List (S66)) × Int × Int × Int × (List (List (S27)))) := (nV.f).bind fun Ab => (some (Ab, 1, 0, 1, (([(([(⟨15, 7⟩ : S27)] : List (S27))), (([(⟨15, 3⟩ : S27)] : List (S27))), (([(⟨3, 0⟩ : S27)] : List (S27)))] : List (List (S27))))))
set_option maxHeartbeats 8000000 in
set_option maxRecDepth 100000 in
theorem iG.calls  (r1 : List (S66)) (r2 : Int) (r3 : Int) (r4 : Int) (r5 : List (List (S27))) (w : World) (h : iG.f  = some (r1, r2, r3, r4, r5)) :
 Calls Try.prog 48 #[] w fun e w' => ∃ v0_ v4_ : Value, e = .returned (.agg #[v0_, .int .i64 r2, .int .i64 r3, .int .i64 r4, v4_]) ∧ Kd.N k66 66 w' w.heap.size (fun k_ => (w.heap.size ≤ k_) ∧ some k_ ≠ (v4_ : Value).ownBlock) v0_ r1 ∧ Kd.N (Kd.slice 27 k27) 39 w' w.heap.size (fun k_ => (w.heap.size ≤ k_) ∧ some k_ ≠ (v0_ : Value).ownBlock) v4_ r5 ∧ Below w.heap.size w w' := by
 have hu25 := Try.underlying25; have hu27 := Try.underlying27; have HB := aa.mk (Below.refl w.heap.size w); have H : ((nV.f).bind fun Ab => (some (Ab, 1, 0, 1, (([(([(⟨15, 7⟩ : S27)] : List (S27))), (([(⟨15, 3⟩ : S27)] : List (S27))), (([(⟨3, 0⟩ : S27)] : List (S27)))] : List (List (S27))))))) = some (r1, r2, r3, r4, r5) := h; clear h; replace H := Option.bind_eq_some_iff.mp H; obtain ⟨Ab, A10, H⟩ := H; have A1 := aa.mk A10; clear A10; obtain ⟨Kr, SL⟩ : ∃ y_ : List (S27), y_ = (([(⟨15, 7⟩ : S27)] : List (S27))) := ⟨_, rfl⟩; (replace H : (some (Ab, 1, 0, 1, (([Kr, (([(⟨15, 3⟩ : S27)] : List (S27))), (([(⟨3, 0⟩ : S27)] : List (S27)))] : List (List (S27)))))) = some (r1, r2, r3, r4, r5) := by (rw [SL]; with_reducible exact H)); have afb := aa.mk SL; clear SL; obtain ⟨M4, UE⟩ : ∃ y_ : List (S27), y_ = (([(⟨15, 3⟩ : S27)] : List (S27))) := ⟨_, rfl⟩; (replace H : (some (Ab, 1, 0, 1, (([Kr, M4, (([(⟨3, 0⟩ : S27)] : List (S27)))] : List (List (S27)))))) = some (r1, r2, r3, r4, r5) := by (rw [UE]; with_reducible exact H)); have ado := aa.mk UE; clear UE; obtain ⟨Qm, VC⟩ : ∃ y_ : List (S27), y_ = (([(⟨3, 0⟩ : S27)] : List (S27))) := ⟨_, rfl⟩; (replace H : (some (Ab, 1, 0, 1, (([Kr, M4, Qm] : List (List (S27)))))) = some (r1, r2, r3, r4, r5) := by (rw [VC]; with_reducible exact H)); have agr := aa.mk VC; clear VC; obtain ⟨Wj, Tq⟩ : ∃ y_ : List (List (S27)), y_ = (([Kr, M4, Qm] : List (List (S27)))) := ⟨_, rfl⟩; (replace H : (some (Ab, 1, 0, 1, Wj)) = some (r1, r2, r3, r4, r5) := by (rw [Tq]; with_reducible exact H)); have agC := aa.mk Tq; clear Tq; simp only [Option.some.injEq, Prod.mk.injEq] at H; obtain ⟨rfl, rfl, rfl, rfl, rfl⟩ := H; go_enter Try.func48, Try.ntmps48; (go_wp2_with (first | ((with_reducible refine dN (N := 0) rfl ?_); refine eB ?hg (N := 0) ?hd (cs := #[.slice none 0 0, .int .i64 0, .int .i64 0, .int .i64 0, .slice none 0 0]) (t := 25) ?hr ?_; (case hd => rfl); (case hg => rfl); (case hr => (go_simp; done)); intro oI hg w2 hbox hb; have rT := aa.mk (hbox); have ang := aa.mk ((by rw [hg]; exact (ak (by exact HB.out)) : w.heap.size ≤ oI)); have aeu := aa.mk ((by rw [hg]; exact (ak (by exact HB.out)) : w.heap.size ≤ oI)); replace HB := aa.mk (aM (by exact HB.out) hb); clear hb hbox hg) | ((with_reducible refine bR (f := 72) rfl ?_); refine fJ (some 1) rfl rfl Try.func72 (by kernel_rfl) rfl #[] rfl (by (simp only [List.map_toArray, List.map_cons, List.map_nil]); done) ?_; (with_reducible refine (nV.calls  Ab _ A1.out).mono ?_); rintro e w3 ⟨Jz, rfl, ho0, hb⟩; refine ⟨_, rfl, ?_⟩; have uF := aa.mk (Kd.jh (Kd.aQ (ok' := fun k_ => (w.heap.size ≤ k_) ∧ k_ ≠ oI) ho0 (fun k_ hk_ => ⟨(Nat.le_trans (ak (by exact HB.out)) hk_), (Kd.gP (g := oI) (o := .cells #[.slice none 0 0, .int .i64 0, .int .i64 0, .int .i64 0, .slice none 0 0] 25 (0, 0)) (bU rT.out) k_ hk_)⟩)) (ak (by exact HB.out))); replace rT := aa.mk (aG (bU rT.out) hb); replace HB := aa.mk (aM (by exact HB.out) hb); clear hb; (clear ho0)) | ((with_reducible refine dN (N := 3) rfl ?_); refine Kd.xG k27 _ 27 ?hg (N := 3) ?hd (xs := ([(⟨15, 7⟩ : S27)] : List (S27))) (inner := [.int .i64 15, .int .i64 7]) (ok := fun _ => True) (okp := fun _ => True) ?hr ?hp (fun _ hk => hk) trivial (Below.refl _ _) (Nat.le_refl _) (by simp) ?_; (case hd => rfl); (case hg => rfl); (case hr => (go_simp; done)); (case hp => exact (eT.c2 (show Kd.M k27 _ _ _ (⟨15, 7⟩ : S27) [.int .i64 15, .int .i64 7] from (BB _ _ _ (⟨15, 7⟩ : S27) )) (eT.none _ _))); intro an9 w4 ho5 hb hg_ hnew_; clear hg_ hnew_; (rw [← afb.out] at ho5); replace uF := aa.mk (Kd.dQ (nU uF.out) (Kd.dU ho5) hb); have Ag := aa.mk (Kd.gG (Kd.nG (M := fun k_ => (w.heap.size ≤ k_)) ho5 (ak (by exact HB.out)) (fun k_ h_ => h_)) (ak (by exact HB.out))); replace rT := aa.mk (aG (bU rT.out) hb); replace HB := aa.mk (aM (by exact HB.out) hb); clear hb ho5) | ((with_reducible refine dN (N := 5) rfl ?_); refine Kd.xG k27 _ 27 ?hg (N := 5) ?hd (xs := ([(⟨15, 3⟩ : S27)] : List (S27))) (inner := [.int .i64 15, .int .i64 3]) (ok := fun _ => True) (okp := fun _ => True) ?hr ?hp (fun _ hk => hk) trivial (Below.refl _ _) (Nat.le_refl _) (by simp) ?_; (case hd => rfl); (case hg => rfl); (case hr => (go_simp; done)); (case hp => exact (eT.c2 (show Kd.M k27 _ _ _ (⟨15, 3⟩ : S27) [.int .i64 15, .int .i64 3] from (BB _ _ _ (⟨15, 3⟩ : S27) )) (eT.none _ _))); intro aoy w6 ho7 hb hg_ hnew_; clear hg_ hnew_; (rw [← ado.out] at ho7); replace uF := aa.mk (Kd.dQ (nU uF.out) (Kd.dU ho7) hb); have F7 := aa.mk (Kd.gG (Kd.uu (Kd.nG (M := fun k_ => (w.heap.size ≤ k_)) ho7 (ak (by exact HB.out)) (fun k_ h_ => h_)) (Kd.sj (rU Ag.out))) (ak (by exact HB.out))); replace Ag := aa.mk (Kd.oM (rU Ag.out) (Kd.dU ho7) hb); replace rT := aa.mk (aG (bU rT.out) hb); replace HB := aa.mk (aM (by exact HB.out) hb); clear hb ho7) | ((with_reducible refine dN (N := 7) rfl ?_); refine Kd.xG k27 _ 27 ?hg (N := 7) ?hd (xs := ([(⟨3, 0⟩ : S27)] : List (S27))) (inner := [.int .i64 3, .int .i64 0]) (ok := fun _ => True) (okp := fun _ => True) ?hr ?hp (fun _ hk => hk) trivial (Below.refl _ _) (Nat.le_refl _) (by simp) ?_; (case hd => rfl); (case hg => rfl); (case hr => (go_simp; done)); (case hp => exact (eT.c2 (show Kd.M k27 _ _ _ (⟨3, 0⟩ : S27) [.int .i64 3, .int .i64 0] from (BB _ _ _ (⟨3, 0⟩ : S27) )) (eT.none _ _))); intro aoh w8 ho9 hb hg_ hnew_; clear hg_ hnew_; (rw [← agr.out] at ho9); replace uF := aa.mk (Kd.dQ (nU uF.out) (Kd.dU ho9) hb); have O8 := aa.mk (Kd.gG (Kd.uu (Kd.uu (Kd.nG (M := fun k_ => (w.heap.size ≤ k_)) ho9 (ak (by exact HB.out)) (fun k_ h_ => h_)) (Kd.sj (rU Ag.out))) (Kd.sj (rU F7.out))) (ak (by exact HB.out))); replace Ag := aa.mk (Kd.oM (rU Ag.out) (Kd.dU ho9) hb); replace F7 := aa.mk (Kd.oM (rU F7.out) (Kd.dU ho9) hb); replace rT := aa.mk (aG (bU rT.out) hb); replace HB := aa.mk (aM (by exact HB.out) hb); clear hb ho9; obtain ⟨rF, qR, Mx⟩ := Kd.fZ Ag.out; subst Mx; obtain ⟨lV, lw, Uq⟩ := Kd.fZ F7.out; subst Uq; obtain ⟨Ya, Xd, acy⟩ := Kd.fZ O8.out; subst acy) | ((with_reducible refine dN (N := 8) rfl ?_); refine Kd.Ov (Kd.slice 27 k27) _ 39 ?hg (N' := 8) ?hd (xs := ([Kr, M4, Qm] : List (List (S27)))) (inner := [.slice rF Kr.length qR, .slice lV M4.length lw, .slice Ya Qm.length Xd]) (ok := (fun k_ => (w.heap.size ≤ k_) ∧ some k_ ≠ (Jz : Value).ownBlock ∧ k_ ≠ oI)) (okp := (fun k_ => (w.heap.size ≤ k_) ∧ some k_ ≠ (Jz : Value).ownBlock ∧ k_ ≠ oI)) ?hr ?hp (fun _ hk => hk) ((show ∀ k_, w8.heap.size ≤ k_ → (fun k_ => (w.heap.size ≤ k_) ∧ some k_ ≠ (Jz : Value).ownBlock ∧ k_ ≠ oI) k_ from fun k_ hk => ⟨(Nat.le_trans (ak (by exact HB.out)) hk), Kd.gY (Kd.sD (nU uF.out)) k_ hk, Kd.gP (g := oI) (o := .cells #[.slice none 0 0, .int .i64 0, .int .i64 0, .int .i64 0, .slice none 0 0] 25 (0, 0)) (bU rT.out) k_ hk⟩) _ (Nat.le_refl _)) (Below.refl _ _) (Nat.le_refl _) (by simp) ?_; (case hd => rfl); (case hg => rfl); (case hr => (go_simp; done)); (case hp => exact (eT.one (show Kd.FK (Kd.slice 27 k27) _ _ Kr [.slice rF Kr.length qR] from (Kd.lq (Kd.dV (Kd.dC (ok' := (fun k_ => (w.heap.size ≤ k_) ∧ some k_ ≠ (Jz : Value).ownBlock ∧ k_ ≠ oI)) (Kd.eH (Kd.bY (Ag.out) (Kd.dY uF.out) (by decide)) rT.out (by decide)) (fun k_ hk => ⟨hk.1.1.1.1.1, ⟨hk.1.2, hk.2⟩⟩))).2.1 (Kd.R_F (Kd.dC (ok' := (fun k_ => (w.heap.size ≤ k_) ∧ some k_ ≠ (Jz : Value).ownBlock ∧ k_ ≠ oI)) (Kd.eH (Kd.bY (Ag.out) (Kd.dY uF.out) (by decide)) rT.out (by decide)) (fun k_ hk => ⟨hk.1.1.1.1.1, ⟨hk.1.2, hk.2⟩⟩))))) (eT.one (show Kd.FK (Kd.slice 27 k27) _ _ M4 [.slice lV M4.length lw] from (Kd.lq (Kd.dV (Kd.dC (ok' := (fun k_ => (w.heap.size ≤ k_) ∧ some k_ ≠ (Jz : Value).ownBlock ∧ k_ ≠ oI)) (Kd.eH (Kd.bY (F7.out) (Kd.dY uF.out) (by decide)) rT.out (by decide)) (fun k_ hk => ⟨hk.1.1.1.1.1, ⟨hk.1.2, hk.2⟩⟩))).2.1 (Kd.R_F (Kd.dC (ok' := (fun k_ => (w.heap.size ≤ k_) ∧ some k_ ≠ (Jz : Value).ownBlock ∧ k_ ≠ oI)) (Kd.eH (Kd.bY (F7.out) (Kd.dY uF.out) (by decide)) rT.out (by decide)) (fun k_ hk => ⟨hk.1.1.1.1.1, ⟨hk.1.2, hk.2⟩⟩))))) (eT.one (show Kd.FK (Kd.slice 27 k27) _ _ Qm [.slice Ya Qm.length Xd] from (Kd.lq (Kd.dV (Kd.dC (ok' := (fun k_ => (w.heap.size ≤ k_) ∧ some k_ ≠ (Jz : Value).ownBlock ∧ k_ ≠ oI)) (Kd.eH (Kd.bY (O8.out) (Kd.dY uF.out) (by decide)) rT.out (by decide)) (fun k_ hk => ⟨hk.1.1.1.1.1, ⟨hk.1.2, hk.2⟩⟩))).2.1 (Kd.R_F (Kd.dC (ok' := (fun k_ => (w.heap.size ≤ k_) ∧ some k_ ≠ (Jz : Value).ownBlock ∧ k_ ≠ oI)) (Kd.eH (Kd.bY (O8.out) (Kd.dY uF.out) (by decide)) rT.out (by decide)) (fun k_ hk => ⟨hk.1.1.1.1.1, ⟨hk.1.2, hk.2⟩⟩))))) (eT.none _ _))))); intro aoK w13 FJ hb hg_ hnew_; clear hg_ hnew_; (rw [← agC.out] at FJ); replace uF := aa.mk (Kd.dQ (nU uF.out) (Kd.fV FJ) hb); have ZK := aa.mk (Kd.jh FJ (ak (by exact HB.out))); replace rT := aa.mk (aG (bU rT.out) hb); replace HB := aa.mk (aM (by exact HB.out) hb); clear Ag F7 O8 hb FJ; obtain ⟨nW, nH, IG⟩ := Kd.ic ZK.out; subst IG; obtain ⟨Co, Bv, Ui⟩ := Kd.ic uF.out; subst Ui; obtain ⟨Ej, DZ, Ea, ahx, ajD, D5, Eh, Ec, ahf, aiw⟩ := cells5 rT.out))); refine bodyPost_ret (results_cell_row rfl _ _ oI 25 #[.slice Co Ab.length Bv, .int .i64 1, .int .i64 0, .int .i64 1, .slice nW Wj.length nH] (0, 0) _ rfl (by (with_reducible skip); refine cu (cs := #[.slice Co Ab.length Bv, .int .i64 1, .int .i64 0, .int .i64 1, .slice none 0 0]) ?_ 4 _ rfl; (with_reducible skip); refine cu (cs := #[.slice Co Ab.length Bv, .int .i64 1, .int .i64 0, .int .i64 0, .slice none 0 0]) ?_ 3 _ rfl; (with_reducible skip); refine cu (cs := #[.slice Co Ab.length Bv, .int .i64 1, .int .i64 0, .int .i64 0, .slice none 0 0]) ?_ 2 _ rfl; (with_reducible skip); refine cu (cs := #[.slice Co Ab.length Bv, .int .i64 0, .int .i64 0, .int .i64 0, .slice none 0 0]) ?_ 1 _ rfl; (with_reducible skip); refine cu (cs := #[.slice none 0 0, .int .i64 0, .int .i64 0, .int .i64 0, .slice none 0 0]) ?_ 0 _ rfl; (with_reducible skip); exact rT.out) Try.underlying25 rfl (by kernel_rfl)) rfl ?_; exact ⟨_, _, by rfl, by (with_reducible skip); exact Kd.aQ (Kd.dA (p := ⟨oI, 4, none⟩) (Kd.dA (p := ⟨oI, 3, none⟩) (Kd.dA (p := ⟨oI, 2, none⟩) (Kd.dA (p := ⟨oI, 1, none⟩) (Kd.dA (p := ⟨oI, 0, none⟩) (Kd.aQ uF.out (fun k_ hk => (⟨hk, hk.1.1.1.1.2⟩ : _ ∧ k_ ≠ oI))) (fun _ hk => hk.2) (.slice Co Ab.length Bv)) (fun _ hk => hk.2) (.int .i64 1)) (fun _ hk => hk.2) (.int .i64 0)) (fun _ hk => hk.2) (.int .i64 1)) (fun _ hk => hk.2) (.slice nW Wj.length nH)) (fun _ hk => ⟨hk.1.1.1.1.1.1, hk.1.2⟩), by (with_reducible skip); exact Kd.aQ (Kd.dA (p := ⟨oI, 4, none⟩) (Kd.dA (p := ⟨oI, 3, none⟩) (Kd.dA (p := ⟨oI, 2, none⟩) (Kd.dA (p := ⟨oI, 1, none⟩) (Kd.dA (p := ⟨oI, 0, none⟩) (Kd.aQ ZK.out (fun k_ hk => (⟨hk, hk.2.2⟩ : _ ∧ k_ ≠ oI))) (fun _ hk => hk.2) (.slice Co Ab.length Bv)) (fun _ hk => hk.2) (.int .i64 1)) (fun _ hk => hk.2) (.int .i64 0)) (fun _ hk => hk.2) (.int .i64 1)) (fun _ hk => hk.2) (.slice nW Wj.length nH)) (fun _ hk => ⟨hk.1.1, hk.1.2.1⟩), by repeat ((with_reducible first | exact HB.out | refine dB ?_ aeu.out))⟩
def mO.f (a0 : Int) (l1 : List (S27)) : Option ((List (S66)) × Int × Int × Int × (List (List (S27)))) := (iG.f).bind fun xy => (if 0 ≤ a0 then (if a0 < (xy.2.2.2.2.length : Int) then (some (xy.1, xy.2.1, xy.2.2.1, xy.2.2.2.1, (xy.2.2.2.2.set (a0 : Int).toNat l1))) else (none)) else (none))
set_option maxHeartbeats 8000000 in
set_option maxRecDepth 100000 in
theorem mO.calls (a0 : Int) (P1_ : Nat → Prop) (A1 : Option Addr) (c1 : Nat) (l1 : List (S27)) (r1 : List (S66)) (r2 : Int) (r3 : Int) (r4 : Int) (r5 : List (List (S27))) (w : World) (hs1 : Kd.V k27 27 w w.heap.size (fun k_ => P1_ k_) (.slice A1 l1.length c1) l1) (h : mO.f a0 l1 = some (r1, r2, r3, r4, r5)) :
 Calls Try.prog 49 #[.int .i64 a0, .slice A1 l1.length c1] w fun e w' => ∃ v0_ v4_ : Value, e = .returned (.agg #[v0_, .int .i64 r2, .int .i64 r3, .int .i64 r4, v4_]) ∧ Kd.N k66 66 w' w.heap.size (fun k_ => (P1_ k_ ∨ w.heap.size ≤ k_) ∧ some k_ ≠ (v4_ : Value).ownBlock) v0_ r1 ∧ Kd.N (Kd.slice 27 k27) 39 w' w.heap.size (fun k_ => (P1_ k_ ∨ w.heap.size ≤ k_) ∧ some k_ ≠ (v0_ : Value).ownBlock) v4_ r5 ∧ Below w.heap.size w w' := by
 have hu25 := Try.underlying25; have HO1 := aa.mk (show Kd.V k27 27 w w.heap.size (fun k_ => (P1_ k_ ∨ w.heap.size ≤ k_)) (.slice A1 l1.length c1) l1 from Kd.bF hs1 (fun k_ hk => .inl hk)); have HB := aa.mk (Below.refl w.heap.size w); have H : ((iG.f).bind fun xy => (if 0 ≤ a0 then (if a0 < (xy.2.2.2.2.length : Int) then (some (xy.1, xy.2.1, xy.2.2.1, xy.2.2.2.1, (xy.2.2.2.2.set (a0 : Int).toNat l1))) else (none)) else (none))) = some (r1, r2, r3, r4, r5) := h; clear h; replace H := Option.bind_eq_some_iff.mp H; obtain ⟨⟨uj, Ad, BQ, DC, uE⟩, A30, H⟩ := H; dsimp only at H; have A3 := aa.mk A30; clear A30; by_cases c4 : 0 ≤ a0
 ·rw [if_pos c4] at H; have AB : decide (0 ≤ a0) = true := decide_eq_true c4; clear c4; by_cases c5 : a0 < (uE.length : Int)
  ·rw [if_pos c5] at H; have yE : decide (a0 < (uE.length : Int)) = true := decide_eq_true c5; clear c5; obtain ⟨agN, TN⟩ : ∃ y_ : List (List (S27)), y_ = (uE.set (a0 : Int).toNat l1) := ⟨_, rfl⟩; (replace H : (some (uj, Ad, BQ, DC, agN)) = some (r1, r2, r3, r4, r5) := by (rw [TN]; with_reducible exact H)); have aek := aa.mk TN; clear TN; simp only [Option.some.injEq, Prod.mk.injEq] at H; obtain ⟨rfl, rfl, rfl, rfl, rfl⟩ := H; go_enter Try.func49, Try.ntmps49; (go_wp2_with (first | ((with_reducible refine dN (N := 4) rfl ?_); refine eB ?hg (N := 4) ?hd (cs := #[.slice none 0 0, .int .i64 0, .int .i64 0, .int .i64 0, .slice none 0 0]) (t := 25) ?hr ?_; (case hd => rfl); (case hg => rfl); (case hr => (go_simp; done)); intro lF hg w7 hbox hb; replace HO1 := aa.mk (Kd.jB (Kd.jV (vU HO1.out) lF (Nat.le_of_eq hg.symm)) hb); have vO := aa.mk (hbox); have amB := aa.mk ((by rw [hg]; exact (ak (by exact HB.out)) : w.heap.size ≤ lF)); have aeR := aa.mk ((by rw [hg]; exact (ak (by exact HB.out)) : w.heap.size ≤ lF)); replace HB := aa.mk (aM (by exact HB.out) hb); clear hb hbox hg) | ((with_reducible refine bR (f := 48) rfl ?_); refine fJ (some 6) rfl rfl Try.func48 (by kernel_rfl) rfl #[] rfl (by (simp only [List.map_toArray, List.map_cons, List.map_nil]); done) ?_; (with_reducible refine (iG.calls  uj Ad BQ DC uE _ A3.out).mono ?_); rintro e w8 ⟨ak5, al1, rfl, ho0, ho1, hb⟩; refine ⟨_, rfl, ?_⟩; replace HO1 := aa.mk (Kd.bF (Kd.Cx (Kd.Cx (Kd.Uu (vU HO1.out) hb) (Kd.fV ho0)) (Kd.fV ho1)) (fun _ h_ => h_.1)); have Dm := aa.mk (Kd.jh (Kd.aQ (ok' := fun k_ => (P1_ k_ ∨ w.heap.size ≤ k_) ∧ some k_ ≠ (al1 : Value).ownBlock ∧ k_ ≠ lF) ho0 (fun k_ hk_ => ⟨(.inr (Nat.le_trans (ak (by exact HB.out)) hk_.1)), hk_.2, (Kd.gP (g := lF) (o := .cells #[.slice none 0 0, .int .i64 0, .int .i64 0, .int .i64 0, .slice none 0 0] 25 (0, 0)) (bU vO.out) k_ hk_.1)⟩)) (ak (by exact HB.out))); have yB := aa.mk (Kd.jh (Kd.aQ (ok' := fun k_ => (P1_ k_ ∨ w.heap.size ≤ k_) ∧ some k_ ≠ (ak5 : Value).ownBlock ∧ k_ ≠ lF) ho1 (fun k_ hk_ => ⟨(.inr (Nat.le_trans (ak (by exact HB.out)) hk_.1)), hk_.2, (Kd.gP (g := lF) (o := .cells #[.slice none 0 0, .int .i64 0, .int .i64 0, .int .i64 0, .slice none 0 0] 25 (0, 0)) (bU vO.out) k_ hk_.1)⟩)) (ak (by exact HB.out))); replace vO := aa.mk (aG (bU vO.out) hb); replace HB := aa.mk (aM (by exact HB.out) hb); clear hb; clear ho0; (clear ho1)) | ((with_reducible refine dN (N := 5) rfl ?_); refine eB ?hg (N := 5) ?hd (cs := #[.slice none 0 0, .int .i64 0, .int .i64 0, .int .i64 0, .slice none 0 0]) (t := 25) ?hr ?_; (case hd => rfl); (case hg => rfl); (case hr => (go_simp; done)); intro kw hg w9 hbox hb; replace HO1 := aa.mk (Kd.jB (Kd.jV (vU HO1.out) kw (Nat.le_of_eq hg.symm)) hb); replace Dm := aa.mk (Kd.gz (Kd.mi (nU Dm.out) kw (Nat.le_of_eq hg.symm)) hb); replace yB := aa.mk (Kd.gz (Kd.mi (nU yB.out) kw (Nat.le_of_eq hg.symm)) hb); have Dy := aa.mk (hbox); have amF := aa.mk ((by rw [hg]; exact (ak (by exact HB.out)) : w.heap.size ≤ kw)); have aen := aa.mk ((by rw [hg]; exact (ak (by exact HB.out)) : w.heap.size ≤ kw)); replace HB := aa.mk (aM (by exact HB.out) hb); have vv := aa.mk ((by rw [hg]; exact Nat.ne_of_lt (bW (g := lF) (o := .cells #[.slice none 0 0, .int .i64 0, .int .i64 0, .int .i64 0, .slice none 0 0] 25 (0, 0)) (bU vO.out)) : lF ≠ kw)); have QE := aa.mk ((by rw [hg]; exact Nat.ne_of_gt (bW (g := lF) (o := .cells #[.slice none 0 0, .int .i64 0, .int .i64 0, .int .i64 0, .slice none 0 0] 25 (0, 0)) (bU vO.out)) : kw ≠ lF)); replace vO := aa.mk (aG (bU vO.out) hb); clear hb hbox hg; obtain ⟨rF, qR, Mx⟩ := Kd.ic Dm.out; subst Mx; have af9 := QE.out; have agT := vv.out; obtain ⟨Je, JY, Pv, aib, aiP, JV, JR, Ou, akb, aju⟩ := cells5 Dy.out; obtain ⟨Ma, zB, amf⟩ := Kd.ic yB.out; subst amf) | ((with_reducible refine vE (t := 25) (p := 5) rfl ?_); refine uG (t := 25) (p := 5) (v := ?vo_w14) (w1 := (((((w9.setCell ⟨kw, 0, none⟩ (.slice rF uj.length qR)).setCell ⟨kw, 1, none⟩ (.int .i64 Ad)).setCell ⟨kw, 2, none⟩ (.int .i64 BQ)).setCell ⟨kw, 3, none⟩ (.int .i64 DC)).setCell ⟨kw, 4, none⟩ (.slice Ma uE.length zB))) ?hg ?ho ?hn ?hr ?_; (case ho => rfl); (case hg => rfl); (case hn => rfl); (case hr => (go_simp; done)); intro w14 hw; replace HO1 : aa (Kd.V k27 27 w14 w.heap.size (fun k_ => (P1_ k_ ∨ w.heap.size ≤ k_) ∧ some k_ ≠ (.slice rF uj.length qR : Value).ownBlock ∧ some k_ ≠ (.slice Ma uE.length zB : Value).ownBlock ∧ k_ ≠ lF ∧ k_ ≠ kw) (.slice A1 l1.length c1) l1) := ⟨(by rw [hw]; exact (vU (Kd.bF (Kd.jD (p := ⟨kw, 4, none⟩) (Kd.jD (p := ⟨kw, 3, none⟩) (Kd.jD (p := ⟨kw, 2, none⟩) (Kd.jD (p := ⟨kw, 1, none⟩) (Kd.jD (p := ⟨kw, 0, none⟩) (Kd.bF HO1.out (fun k_ hk => (⟨hk, hk.2⟩ : _ ∧ k_ ≠ kw))) (fun _ hk => hk.2) (.slice rF uj.length qR)) (fun _ hk => hk.2) (.int .i64 Ad)) (fun _ hk => hk.2) (.int .i64 BQ)) (fun _ hk => hk.2) (.int .i64 DC)) (fun _ hk => hk.2) (.slice Ma uE.length zB)) (fun _ hk => ⟨hk.1.1.1.1.1, ⟨hk.1.1.1.2, ⟨hk.1.1.2, ⟨hk.1.1.1.1.2, hk.1.2⟩⟩⟩⟩))))⟩; replace Dm : aa (Kd.N k66 66 w14 w.heap.size (fun k_ => (P1_ k_ ∨ w.heap.size ≤ k_) ∧ some k_ ≠ (.slice Ma uE.length zB : Value).ownBlock ∧ k_ ≠ lF ∧ k_ ≠ kw) (.slice rF uj.length qR) uj) := ⟨(by rw [hw]; exact (nU (Kd.aQ (Kd.dA (p := ⟨kw, 4, none⟩) (Kd.dA (p := ⟨kw, 3, none⟩) (Kd.dA (p := ⟨kw, 2, none⟩) (Kd.dA (p := ⟨kw, 1, none⟩) (Kd.dA (p := ⟨kw, 0, none⟩) (Kd.aQ Dm.out (fun k_ hk => (⟨hk, hk.2⟩ : _ ∧ k_ ≠ kw))) (fun _ hk => hk.2) (.slice rF uj.length qR)) (fun _ hk => hk.2) (.int .i64 Ad)) (fun _ hk => hk.2) (.int .i64 BQ)) (fun _ hk => hk.2) (.int .i64 DC)) (fun _ hk => hk.2) (.slice Ma uE.length zB)) (fun _ hk => ⟨hk.1.1.1, ⟨hk.1.1.2.1, ⟨hk.1.1.2.2, hk.1.2⟩⟩⟩))))⟩; replace yB : aa (Kd.N (Kd.slice 27 k27) 39 w14 w.heap.size (fun k_ => (P1_ k_ ∨ w.heap.size ≤ k_) ∧ some k_ ≠ (.slice rF uj.length qR : Value).ownBlock ∧ k_ ≠ lF ∧ k_ ≠ kw) (.slice Ma uE.length zB) uE) := ⟨(by rw [hw]; exact (nU (Kd.aQ (Kd.dA (p := ⟨kw, 4, none⟩) (Kd.dA (p := ⟨kw, 3, none⟩) (Kd.dA (p := ⟨kw, 2, none⟩) (Kd.dA (p := ⟨kw, 1, none⟩) (Kd.dA (p := ⟨kw, 0, none⟩) (Kd.aQ yB.out (fun k_ hk => (⟨hk, hk.2⟩ : _ ∧ k_ ≠ kw))) (fun _ hk => hk.2) (.slice rF uj.length qR)) (fun _ hk => hk.2) (.int .i64 Ad)) (fun _ hk => hk.2) (.int .i64 BQ)) (fun _ hk => hk.2) (.int .i64 DC)) (fun _ hk => hk.2) (.slice Ma uE.length zB)) (fun _ hk => ⟨hk.1.1.1, ⟨hk.1.1.2.1, ⟨hk.1.1.2.2, hk.1.2⟩⟩⟩))))⟩; replace vO : aa (w14.heap[lF]? = some (.cells #[.slice none 0 0, .int .i64 0, .int .i64 0, .int .i64 0, .slice none 0 0] 25 (0, 0))) := ⟨(by rw [hw]; exact (by (with_reducible skip); refine bI ?_ vv.out _; (with_reducible skip); refine bI ?_ vv.out _; (with_reducible skip); refine bI ?_ vv.out _; (with_reducible skip); refine bI ?_ vv.out _; (with_reducible skip); refine bI ?_ vv.out _; (with_reducible skip); exact vO.out))⟩; replace Dy : aa (w14.heap[kw]? = some (.cells #[.slice rF uj.length qR, .int .i64 Ad, .int .i64 BQ, .int .i64 DC, .slice Ma uE.length zB] 25 (0, 0))) := ⟨(by rw [hw]; exact (by (with_reducible skip); refine cu (cs := #[.slice rF uj.length qR, .int .i64 Ad, .int .i64 BQ, .int .i64 DC, .slice none 0 0]) ?_ 4 _ rfl; (with_reducible skip); refine cu (cs := #[.slice rF uj.length qR, .int .i64 Ad, .int .i64 BQ, .int .i64 0, .slice none 0 0]) ?_ 3 _ rfl; (with_reducible skip); refine cu (cs := #[.slice rF uj.length qR, .int .i64 Ad, .int .i64 0, .int .i64 0, .slice none 0 0]) ?_ 2 _ rfl; (with_reducible skip); refine cu (cs := #[.slice rF uj.length qR, .int .i64 0, .int .i64 0, .int .i64 0, .slice none 0 0]) ?_ 1 _ rfl; (with_reducible skip); refine cu (cs := #[.slice none 0 0, .int .i64 0, .int .i64 0, .int .i64 0, .slice none 0 0]) ?_ 0 _ rfl; (with_reducible skip); exact Dy.out))⟩; replace HB : aa (Below w.heap.size w w14) := ⟨(by rw [hw]; exact (by repeat ((with_reducible first | exact HB.out | refine dB ?_ aen.out))))⟩; clear hw; obtain ⟨YL, Y8, Xm, ajE, ajB, YR, Yz, XU, ahl, ajU⟩ := cells5 Dy.out; have p6 : 0 ≤ (a0 : Int) := of_decide_eq_true (by with_reducible assumption); have q6 : (a0 : Int) < ((uE.length : Int) : Int) := of_decide_eq_true (by with_reducible assumption); obtain ⟨go6, co6, eo6, gb6, gl6, cl6, HG6⟩ := Kd.abO yB.out (by omega); (cases eo6); have GB6 := aa.mk gb6; have GG6 := aa.mk HG6; clear gb6 gl6 HG6; obtain ⟨ce6, hcl6, hM6, ae9, hfr6⟩ := Kd.MX yB.out [] (a0 : Int) p6 q6; obtain ⟨amY, amG, rfl, anL, an5⟩ := Kd.xk hM6; have aeX := ae9 0 _ rfl; have hf6_0 := hfr6 0; (simp only [show ((Kd.slice 27 k27)).sz = 1 from rfl, Nat.mul_one, Nat.add_zero] at aeX); (simp only [show ((Kd.slice 27 k27)).sz = 1 from rfl, Nat.mul_one, Nat.add_zero] at hf6_0); clear hcl6 ae9 hfr6 hM6; replace p6 := eq_true p6; replace q6 := eq_true q6; have HX16 := aa.mk (show Kd.N (Kd.slice 27 k27) 39 w14 w.heap.size (fun k_ => (P1_ k_ ∨ w.heap.size ≤ k_) ∧ some k_ ≠ (.slice rF uj.length qR : Value).ownBlock ∧ k_ ≠ lF ∧ k_ ≠ kw) (.slice (some ⟨go6, 0, none⟩) uE.length zB) uE from (nU yB.out)); obtain ⟨ce16, hcl16, hM16, U0, hfr16⟩ := Kd.MX HX16.out [] (a0 : Int) (of_decide_eq_true (by with_reducible assumption)) (by have h_ : (a0 : Int) < ((uE.length : Int) : Int) := of_decide_eq_true (by with_reducible assumption); exact h_); obtain ⟨amt, al4, rfl, akz, aku⟩ := Kd.xk hM16; have HP16 := Kd.afh HX16.out (a0 : Int) (of_decide_eq_true (by with_reducible assumption)) (by have h_ : (a0 : Int) < ((uE.length : Int) : Int) := of_decide_eq_true (by with_reducible assumption); exact h_) (seg := [.slice A1 l1.length c1]) (j := 0) hcl16 U0 (show 1 ≤ 1 from by decide) (x' := l1) (Kd.lq (Kd.jM (Kd.bF (ok' := (fun k_ => ((fun k_ => (P1_ k_ ∨ w.heap.size ≤ k_) ∧ some k_ ≠ (.slice rF uj.length qR : Value).ownBlock ∧ k_ ≠ lF ∧ k_ ≠ kw)) k_ ∧ k_ ≠ go6)) (HO1.out) (fun k_ hk => ⟨⟨hk.1, ⟨hk.2.1, ⟨hk.2.2.2.1, hk.2.2.2.2⟩⟩⟩, fun e_ => (hk.2.2.1) (by rw [e_]; rfl)⟩))).2.1 (Kd.V_F (Kd.bF (ok' := (fun k_ => ((fun k_ => (P1_ k_ ∨ w.heap.size ≤ k_) ∧ some k_ ≠ (.slice rF uj.length qR : Value).ownBlock ∧ k_ ≠ lF ∧ k_ ≠ kw)) k_ ∧ k_ ≠ go6)) (HO1.out) (fun k_ hk => ⟨⟨hk.1, ⟨hk.2.1, ⟨hk.2.2.2.1, hk.2.2.2.2⟩⟩⟩, fun e_ => (hk.2.2.1) (by rw [e_]; rfl)⟩)))) (fun _ hk => hk); have aci := U0 0 _ rfl; (simp only [show ((Kd.slice 27 k27)).sz = 1 from rfl, Nat.mul_one, Nat.add_zero] at aci); have hf16_0 := hfr16 0; (simp only [show ((Kd.slice 27 k27)).sz = 1 from rfl, Nat.mul_one, Nat.add_zero] at hf16_0); clear hcl16 U0 hfr16 hM16; (simp only [show ((Kd.slice 27 k27)).sz = 1 from rfl, Nat.mul_one, Nat.add_zero] at HP16)) | ((with_reducible refine vE (t := 39) (p := 11) rfl ?_); refine uG (t := 39) (p := 11) (v := ?vo_w17) (w1 := (w14.setCell ⟨go6, (a0 : Int).toNat, none⟩ (.slice A1 l1.length c1))) ?hg ?ho ?hn ?hr ?_; (case ho => rfl); (case hg => rfl); (case hn => rfl); (case hr => (go_simp; done)); intro w17 hw; have hg : w14.grownBy w17 (some go6) := (by rw [hw]; exact HP16.2); have hp_ : Kd.N (Kd.slice 27 k27) 39 w17 w.heap.size (fun k_ => (P1_ k_ ∨ w.heap.size ≤ k_) ∧ some k_ ≠ (.slice rF uj.length qR : Value).ownBlock ∧ k_ ≠ lF ∧ k_ ≠ kw) (.slice (some ⟨go6, 0, none⟩) uE.length zB) agN := (by rw [hw, aek.out]; exact HP16.1); clear HP16; replace HO1 := aa.mk (Kd.lY (v := (.slice (some ⟨go6, 0, none⟩) uE.length zB)) (v1 := (.slice (some ⟨go6, 0, none⟩) uE.length zB)) (ok := (fun k_ => (P1_ k_ ∨ w.heap.size ≤ k_) ∧ some k_ ≠ (.slice rF uj.length qR : Value).ownBlock ∧ k_ ≠ lF ∧ k_ ≠ kw)) (vU (Kd.bF HO1.out (fun _ hk => ⟨⟨hk.1, ⟨hk.2.1, ⟨hk.2.2.2.1, hk.2.2.2.2⟩⟩⟩, hk.2.2.1⟩))) hg (.inl rfl)); replace vO := aa.mk (dL (bU vO.out) hg (Kd.AC yB.out vO.out (by decide))); replace Dm := aa.mk (Kd.lZ (v := (.slice (some ⟨go6, 0, none⟩) uE.length zB)) (v1 := (.slice (some ⟨go6, 0, none⟩) uE.length zB)) (ok := (fun k_ => (P1_ k_ ∨ w.heap.size ≤ k_) ∧ k_ ≠ lF ∧ k_ ≠ kw)) (nU (Kd.aQ Dm.out (fun _ hk => ⟨⟨hk.1, ⟨hk.2.2.1, hk.2.2.2⟩⟩, hk.2.1⟩))) hg (.inl rfl)); replace Dy := aa.mk (dL (bU Dy.out) hg (Kd.AC yB.out Dy.out (by decide))); replace yB := aa.mk (hp_); replace HB := aa.mk ((by rw [hw]; exact dB (HB.out) GB6.out : Below w.heap.size w w17)); clear hg hw hp_; obtain ⟨JG, JE, IX, I5, I8, IL, Jn, JA, IV, IE⟩ := cells5 Dy.out; obtain ⟨aiT, ah2, air, agY, ajF, ahC, akd, ahU, aip, ai6⟩ := cells5 vO.out))); refine bodyPost_ret (results_cell_row rfl _ _ lF 25 #[.slice rF uj.length qR, .int .i64 Ad, .int .i64 BQ, .int .i64 DC, .slice (some ⟨go6, 0, none⟩) uE.length zB] (0, 0) _ rfl (by (with_reducible skip); refine cu (cs := #[.slice rF uj.length qR, .int .i64 Ad, .int .i64 BQ, .int .i64 DC, .slice none 0 0]) ?_ 4 _ rfl; (with_reducible skip); refine cu (cs := #[.slice rF uj.length qR, .int .i64 Ad, .int .i64 BQ, .int .i64 0, .slice none 0 0]) ?_ 3 _ rfl; (with_reducible skip); refine cu (cs := #[.slice rF uj.length qR, .int .i64 Ad, .int .i64 0, .int .i64 0, .slice none 0 0]) ?_ 2 _ rfl; (with_reducible skip); refine cu (cs := #[.slice rF uj.length qR, .int .i64 0, .int .i64 0, .int .i64 0, .slice none 0 0]) ?_ 1 _ rfl; (with_reducible skip); refine cu (cs := #[.slice none 0 0, .int .i64 0, .int .i64 0, .int .i64 0, .slice none 0 0]) ?_ 0 _ rfl; (with_reducible skip); exact vO.out) Try.underlying25 rfl (by kernel_rfl)) rfl ?_; exact ⟨_, _, by rfl, by (with_reducible skip); exact Kd.aQ (Kd.dA (p := ⟨lF, 4, none⟩) (Kd.dA (p := ⟨lF, 3, none⟩) (Kd.dA (p := ⟨lF, 2, none⟩) (Kd.dA (p := ⟨lF, 1, none⟩) (Kd.dA (p := ⟨lF, 0, none⟩) (Kd.aQ Dm.out (fun k_ hk => (⟨hk, hk.1.2.1⟩ : _ ∧ k_ ≠ lF))) (fun _ hk => hk.2) (.slice rF uj.length qR)) (fun _ hk => hk.2) (.int .i64 Ad)) (fun _ hk => hk.2) (.int .i64 BQ)) (fun _ hk => hk.2) (.int .i64 DC)) (fun _ hk => hk.2) (.slice (some ⟨go6, 0, none⟩) uE.length zB)) (fun _ hk => ⟨hk.1.1.1, hk.1.2⟩), by (with_reducible skip); exact Kd.aQ (Kd.dA (p := ⟨lF, 4, none⟩) (Kd.dA (p := ⟨lF, 3, none⟩) (Kd.dA (p := ⟨lF, 2, none⟩) (Kd.dA (p := ⟨lF, 1, none⟩) (Kd.dA (p := ⟨lF, 0, none⟩) (Kd.aQ yB.out (fun k_ hk => (⟨hk, hk.2.2.1⟩ : _ ∧ k_ ≠ lF))) (fun _ hk => hk.2) (.slice rF uj.length qR)) (fun _ hk => hk.2) (.int .i64 Ad)) (fun _ hk => hk.2) (.int .i64 BQ)) (fun _ hk => hk.2) (.int .i64 DC)) (fun _ hk => hk.2) (.slice (some ⟨go6, 0, none⟩) uE.length zB)) (fun _ hk => ⟨hk.1.1, hk.1.2.1⟩), by repeat ((with_reducible first | exact HB.out | refine dB ?_ aeR.out))⟩
  ·rw [if_neg c5] at H; exact absurd H (by simp)
 ·rw [if_neg c4] at H; exact absurd H (by simp)
end Go.Proofs.Ytihedeofkhapiaa.Pr
end
section
namespace Go.Proofs.Ytihedeofkhapiaa.Pr
open Go.RowKit Go.Proofs.YtihedeofkhapiaaW.PrintWords Go.Proofs.YtihedeofkhapiaaW.PrintLast Go.Proofs.YtihedeofkhapiaaW.PrintMore
def Ho (s0_0 s0_1 : Int) : Int := Go.bits .xor .u64 (Go.bits .xor .u64 (Go.bits .xor .u64 (Go.bits .xor .u64 s0_0 (IntKind.u64.wrap (s0_0 * 8388608))) s0_1) ((Go.bits .xor .u64 s0_0 (IntKind.u64.wrap (s0_0 * 8388608))) / 131072)) (s0_1 / 67108864)
def gF.f (s0_0 : Int) (s0_1 : Int) : Option (Int × Int × Int) := if Go.bits .or .u64 s0_1 (Ho s0_0 s0_1) = 0 then some (IntKind.u64.wrap (1 + s0_1), s0_1, 1) else some (IntKind.u64.wrap (Ho s0_0 s0_1 + s0_1), s0_1, Ho s0_0 s0_1)
def FL (s0_0 s0_1 : Int) : Int × Int := (s0_1, if Go.bits .or .u64 s0_1 (Ho s0_0 s0_1) = 0 then 1 else Ho s0_0 s0_1)
theorem Uh (a b : Int) : ∃ r, gF.f a b = some (r, (FL a b).1, (FL a b).2) := by
 unfold gF.f FL; split
 ·exact ⟨_, rfl⟩
 ·exact ⟨_, rfl⟩
theorem Mv {P : Program} {c : Code} {Q : Exit → Act → World → Prop} {a : Act} {w0 w W : World} {g : Nat} {x y : Int} (hI : bn w0 W g x y) (hB : Below w0.heap.size w0 W) (hK : az w W g none)
 (k : ∀ W', bn w0 W' g x y → Below w0.heap.size w0 W' → az w W' g none → Code.wp P c Q a W') : Code.wp P c Q a W := k W hI hB hK
set_option maxHeartbeats 8000000 in
set_option maxRecDepth 100000 in
theorem gF.calls (g : Nat) (s0_0 : Int) (s0_1 : Int) (r1 : Int) (r2 : Int) (r3 : Int) (w0 w : World) (hI : bn w0 w g s0_0 s0_1) (hB : Below w0.heap.size w0 w) (h : gF.f s0_0 s0_1 = some (r1, r2, r3)) :
 Calls Try.prog 53 #[.pointer (some ⟨g, 0, none⟩)] w fun e w' => e = .returned (.int .u64 r1) ∧ bn w0 w' g r2 r3 ∧ Below w0.heap.size w0 w' ∧ az w w' g none := by
 have HI0 := aa.mk hI; have HK := aa.mk (az.refl w g none); have HB := aa.mk hB; obtain ⟨HGz3, hgz3⟩ := hI; have Uo := CE HGz3; have UQ := Ct HGz3; have Tx := bq HGz3 0; have Ro := bq HGz3 1; clear HGz3 hgz3 hB; simp only [gF.f] at h; have Hh := aa.mk h; clear h; go_enter Try.func53, Try.ntmps53; go_wp2; go_quiet (fail); go_wp2; obtain ⟨X, hX⟩ : ∃ X, X = Ho s0_0 s0_1 := ⟨_, rfl⟩; rw [show (Go.bits .xor .u64 (Go.bits .xor .u64 (Go.bits .xor .u64 (Go.bits .xor .u64 s0_0 (IntKind.u64.wrap (s0_0 * 8388608))) s0_1) ((Go.bits .xor .u64 s0_0 (IntKind.u64.wrap (s0_0 * 8388608))) / 131072)) (s0_1 / 67108864)) = X from hX.symm]; rw [← hX] at Hh; clear hX; refine Mv (x := s0_1) (y := X) (w0 := w0) (w := w) (g := g) ?_ ?_ ?_ ?_
 ·exact bn.TL (bn.aeO (bn.drewN HI0.out _) _) _
 ·exact dB (dB (gH HB.out _) (bn.ge HI0.out)) (bn.ge HI0.out)
 ·exact az.Ym (az.Ym (xV HK.out _) _ _) _ _
 intro W hI2 hB2 hK2; clear Uo UQ Tx Ro HI0 HB HK; have HI := aa.mk hI2; have HB := aa.mk hB2; have HK := aa.mk hK2; obtain ⟨HGz3, hgz3⟩ := hI2; have Uo := CE HGz3; have UQ := Ct HGz3; have Tx := bq HGz3 0; have Ro := bq HGz3 1; clear HGz3 hgz3 hB2 hK2; by_cases c2 : Go.bits .or .u64 s0_1 X = 0
 ·have h := Hh.out; rw [if_pos c2] at h; have Iz : (Go.bits .or .u64 s0_1 X == 0) = true := beq_iff_eq.mpr c2; clear c2 Hh; simp only [Option.some.injEq, Prod.mk.injEq] at h; obtain ⟨rfl, rfl, rfl⟩ := h; go_quiet (fail); go_wp2
  go_ret
  exact ⟨rfl, bn.TL (bn.drewN HI.out _) _, dB (gH HB.out _) (bn.ge HI.out), az.Ym (xV HK.out _) _ _⟩
 ·have h := Hh.out; rw [if_neg c2] at h; have Iz : (Go.bits .or .u64 s0_1 X == 0) = false := beq_eq_false_iff_ne.mpr c2; clear c2 Hh; simp only [Option.some.injEq, Prod.mk.injEq] at h; obtain ⟨rfl, rfl, rfl⟩ := h; go_quiet (fail); go_wp2
  go_ret
  exact ⟨rfl, bn.drewN HI.out _, gH HB.out _, xV HK.out _⟩
end Go.Proofs.Ytihedeofkhapiaa.Pr
end
section
namespace Go.Proofs.Ytihedeofkhapiaa.Pr
open Go.RowKit Go.Proofs.YtihedeofkhapiaaW.PrintWords Go.Proofs.YtihedeofkhapiaaW.PrintLast Go.Proofs.YtihedeofkhapiaaW.PrintMore
attribute [local go_sem] pU pX ru rz nJ nK pR qa
def bP.f (s0_0 : Int) (s0_1 : Int) (a1 : Int) : Option (Int × Int × Int) := if a1 < 2 then (some (0, s0_0, s0_1)) else ((gF.f s0_0 s0_1).bind fun EF => (if (IntKind.u64.wrap (a1)) = 0 then (none) else (some (wrap64 (Int.tmod (EF.1 / 2048) (IntKind.u64.wrap (a1))), EF.2.1, EF.2.2))))
set_option maxHeartbeats 8000000 in
set_option maxRecDepth 100000 in
theorem bP.calls (g : Nat) (s0_0 : Int) (s0_1 : Int) (a1 : Int) (r1 : Int) (r2 : Int) (r3 : Int) (w0 w : World) (hI : bn w0 w g s0_0 s0_1) (hB : Below w0.heap.size w0 w) (h : bP.f s0_0 s0_1 a1 = some (r1, r2, r3)) :
 Calls Try.prog 33 #[.pointer (some ⟨g, 0, none⟩), .int .i64 a1] w fun e w' => e = .returned (.int .i64 r1) ∧ bn w0 w' g r2 r3 ∧ Below w0.heap.size w0 w' ∧ az w w' g none := by
 have HI0 := aa.mk hI; have HK := aa.mk (az.refl w g none); have HL := aa.mk hB.size; clear hI; have HW0 := aa.mk hB.size; have HB := aa.mk hB; clear hB; have H : (if a1 < 2 then (some (0, s0_0, s0_1)) else ((gF.f s0_0 s0_1).bind fun EF => (if (IntKind.u64.wrap (a1)) = 0 then (none) else (some (wrap64 (Int.tmod (EF.1 / 2048) (IntKind.u64.wrap (a1))), EF.2.1, EF.2.2))))) = some (r1, r2, r3) := h; clear h; by_cases c3 : a1 < 2
 ·rw [if_pos c3] at H; have yH : decide (a1 < 2) = true := decide_eq_true c3; clear c3; simp only [Option.some.injEq, Prod.mk.injEq] at H; obtain ⟨rfl, rfl, rfl⟩ := H; go_enter Try.func33, Try.ntmps33; go_wp2
  go_ret
  exact ⟨by rfl, by exact HI0.out, by exact HB.out, by exact HK.out⟩
 ·rw [if_neg c3] at H; have yH : decide (a1 < 2) = false := decide_eq_false c3; clear c3; replace H := Option.bind_eq_some_iff.mp H; obtain ⟨⟨alx, akB, ak7⟩, A40, H⟩ := H; dsimp only at H; have A4 := aa.mk A40; clear A40; by_cases c5 : (IntKind.u64.wrap (a1)) = 0
  ·rw [if_pos c5] at H; exact absurd H (by simp)
  ·rw [if_neg c5] at H; have yE : ((IntKind.u64.wrap (a1)) == 0) = false := beq_eq_false_iff_ne.mpr c5; have SQ : ((IntKind.u64.wrap (a1)) != 0) = true := bne_iff_ne.mpr c5; simp only [Option.some.injEq, Prod.mk.injEq] at H; obtain ⟨rfl, rfl, rfl⟩ := H; go_enter Try.func33, Try.ntmps33; go_wp2_with (((with_reducible refine bR (f := 53) rfl ?_); refine fJ (some 8) rfl rfl Try.func53 (by kernel_rfl) rfl #[.pointer (some ⟨g, 0, none⟩)] rfl (by (simp only [List.map_toArray, List.map_cons, List.map_nil]); rfl) ?_; (with_reducible refine (gF.calls g s0_0 s0_1 alx akB ak7 w0 _ ?side1 ?side2 A4.out).mono ?_); (case side1 => exact HI0.out); (case side2 => exact HB.out); rintro e w6 ⟨rfl, hi, hb, hk⟩; refine ⟨_, rfl, ?_⟩; replace HK := aa.mk (az.trans (by exact HK.out) hk (.inl rfl)); replace HB := aa.mk (hb); replace HI0 := aa.mk (hi); clear hb; clear hk; (clear hi)))
   go_ret
   exact ⟨by rfl, by exact HI0.out, by exact HB.out, by exact HK.out⟩
def eU.f (s0_0 : Int) (s0_1 : Int) (a1 : Int) (a2 : Int) : Option (Bool × Int × Int) := (bP.f s0_0 s0_1 a2).bind fun Es => (some (decide (Es.1 < a1), Es.2.1, Es.2.2))
set_option maxHeartbeats 8000000 in
set_option maxRecDepth 100000 in
theorem eU.calls (g : Nat) (s0_0 : Int) (s0_1 : Int) (a1 : Int) (a2 : Int) (r1 : Bool) (r2 : Int) (r3 : Int) (w0 w : World) (hI : bn w0 w g s0_0 s0_1) (hB : Below w0.heap.size w0 w) (h : eU.f s0_0 s0_1 a1 a2 = some (r1, r2, r3)) :
 Calls Try.prog 32 #[.pointer (some ⟨g, 0, none⟩), .int .i64 a1, .int .i64 a2] w fun e w' => e = .returned (.bool r1) ∧ bn w0 w' g r2 r3 ∧ Below w0.heap.size w0 w' ∧ az w w' g none := by
 have HI0 := aa.mk hI; have HK := aa.mk (az.refl w g none); have HL := aa.mk hB.size; clear hI; have HW0 := aa.mk hB.size; have HB := aa.mk hB; clear hB; have H : ((bP.f s0_0 s0_1 a2).bind fun Es => (some (decide (Es.1 < a1), Es.2.1, Es.2.2))) = some (r1, r2, r3) := h; clear h; replace H := Option.bind_eq_some_iff.mp H; obtain ⟨⟨amw, ak9, als⟩, A40, H⟩ := H; dsimp only at H; have A4 := aa.mk A40; clear A40; simp only [Option.some.injEq, Prod.mk.injEq] at H; obtain ⟨rfl, rfl, rfl⟩ := H; go_enter Try.func32, Try.ntmps32; go_wp2_with (((with_reducible refine bR (f := 33) rfl ?_); refine fJ (some 9) rfl rfl Try.func33 (by kernel_rfl) rfl #[.pointer (some ⟨g, 0, none⟩), .int .i64 a2] rfl (by (simp only [List.map_toArray, List.map_cons, List.map_nil]); rfl) ?_; (with_reducible refine (bP.calls g s0_0 s0_1 a2 amw ak9 als w0 _ ?side1 ?side2 A4.out).mono ?_); (case side1 => exact HI0.out); (case side2 => exact HB.out); rintro e w5 ⟨rfl, hi, hb, hk⟩; refine ⟨_, rfl, ?_⟩; replace HK := aa.mk (az.trans (by exact HK.out) hk (.inl rfl)); replace HB := aa.mk (hb); replace HI0 := aa.mk (hi); clear hb; clear hk; (clear hi)))
 go_ret
 exact ⟨by rfl, by exact HI0.out, by exact HB.out, by exact HK.out⟩
def dM.f (s0_0 : Int) (s0_1 : Int) (a1 : Int) (a2 : Int) : Option (Int × Int × Int) := (bP.f s0_0 s0_1 (wrap64 ((wrap64 (a2 - a1)) + 1))).bind fun Fq => (some (wrap64 (a1 + Fq.1), Fq.2.1, Fq.2.2))
set_option maxHeartbeats 8000000 in
set_option maxRecDepth 100000 in
theorem dM.calls (g : Nat) (s0_0 : Int) (s0_1 : Int) (a1 : Int) (a2 : Int) (r1 : Int) (r2 : Int) (r3 : Int) (w0 w : World) (hI : bn w0 w g s0_0 s0_1) (hB : Below w0.heap.size w0 w) (h : dM.f s0_0 s0_1 a1 a2 = some (r1, r2, r3)) :
 Calls Try.prog 50 #[.pointer (some ⟨g, 0, none⟩), .int .i64 a1, .int .i64 a2] w fun e w' => e = .returned (.int .i64 r1) ∧ bn w0 w' g r2 r3 ∧ Below w0.heap.size w0 w' ∧ az w w' g none := by
 have HI0 := aa.mk hI; have HK := aa.mk (az.refl w g none); have HL := aa.mk hB.size; clear hI; have HW0 := aa.mk hB.size; have HB := aa.mk hB; clear hB; have H : ((bP.f s0_0 s0_1 (wrap64 ((wrap64 (a2 - a1)) + 1))).bind fun Fq => (some (wrap64 (a1 + Fq.1), Fq.2.1, Fq.2.2))) = some (r1, r2, r3) := h; clear h; replace H := Option.bind_eq_some_iff.mp H; obtain ⟨⟨alV, ak1, alI⟩, A40, H⟩ := H; dsimp only at H; have A4 := aa.mk A40; clear A40; simp only [Option.some.injEq, Prod.mk.injEq] at H; obtain ⟨rfl, rfl, rfl⟩ := H; go_enter Try.func50, Try.ntmps50; go_wp2_with (((with_reducible refine bR (f := 33) rfl ?_); refine fJ (some 13) rfl rfl Try.func33 (by kernel_rfl) rfl #[.pointer (some ⟨g, 0, none⟩), .int .i64 (wrap64 ((wrap64 (a2 - a1)) + 1))] rfl (by (simp only [List.map_toArray, List.map_cons, List.map_nil]); rfl) ?_; (with_reducible refine (bP.calls g s0_0 s0_1 (wrap64 ((wrap64 (a2 - a1)) + 1)) alV ak1 alI w0 _ ?side1 ?side2 A4.out).mono ?_); (case side1 => exact HI0.out); (case side2 => exact HB.out); rintro e w5 ⟨rfl, hi, hb, hk⟩; refine ⟨_, rfl, ?_⟩; replace HK := aa.mk (az.trans (by exact HK.out) hk (.inl rfl)); replace HB := aa.mk (hb); replace HI0 := aa.mk (hi); clear hb; clear hk; (clear hi)))
 go_ret
 exact ⟨by rfl, by exact HI0.out, by exact HB.out, by exact HK.out⟩
mutual
def aK.l0 : Nat → Int → Int → Int → Int → Int → Int → List (S86) → Option (Int × Int × (List (S86)) × Int × Int)
 | 0, _, _, _, _, _, _, _ => none
 | k + 1, x7, x8, pq, pu, Bt, AY, zN => if x8 > 0 then (aK.j1 k x7 x8 (decide (x7 < 26)) pq pu Bt AY zN) else (aK.j1 k x7 x8 false pq pu Bt AY zN)
def aK.j1 : Nat → Int → Int → Bool → Int → Int → Int → Int → List (S86) → Option (Int × Int × (List (S86)) × Int × Int)
 | 0, _, _, _, _, _, _, _, _ => none
 | k + 1, x7, x8, x27, pq, pu, Bt, AY, zN => if x27 = true then ((bP.f pq pu (mn 4 (wrap64 (26 - x7)))).bind fun Bd => ((dM.f Bd.2.1 Bd.2.2 1 31).bind fun GG => (if zN.length < 8796093022208 then (aK.l0 k (wrap64 ((wrap64 (x7 + Bd.1)) + 1)) (wrap64 (x8 - 1)) GG.2.1 GG.2.2 Bt AY (zN ++ [(⟨(wrap64 (65 + (wrap64 (x7 + Bd.1)))) % 256, GG.1⟩ : S86)])) else (none)))) else (some (Bt, AY, zN, pq, pu))
end
def aK.f (k : Nat) (s0_0 : Int) (s0_1 : Int) (a1 : Int) : Option (Int × Int × (List (S86)) × Int × Int) := (dM.f s0_0 s0_1 (-600) 300).bind fun Bc => ((bP.f Bc.2.1 Bc.2.2 200).bind fun EL => ((dM.f EL.2.1 EL.2.2 1 a1).bind fun FD => (aK.l0 k 0 FD.1 FD.2.1 FD.2.2 Bc.1 (wrap64 (Bc.1 + EL.1)) ([] : List (S86)))))
theorem aK.ig : ∀ k, (∀ y0 y1 y2 y3 y4 y5 y6, LeO (aK.l0 k y0 y1 y2 y3 y4 y5 y6) (aK.l0 (k + 1) y0 y1 y2 y3 y4 y5 y6)) ∧ (∀ y0 y1 y2 y3 y4 y5 y6 y7, LeO (aK.j1 k y0 y1 y2 y3 y4 y5 y6 y7) (aK.j1 (k + 1) y0 y1 y2 y3 y4 y5 y6 y7))
 | 0 => ⟨fun _ _ _ _ _ _ _ r h => by simp [aK.l0] at h, fun _ _ _ _ _ _ _ _ r h => by simp [aK.j1] at h⟩
 | k + 1 => by
  obtain ⟨ih0, ih1⟩ := aK.ig k; refine ⟨?_, ?_⟩
  ·intro y0 y1 y2 y3 y4 y5 y6; unfold aK.l0
   repeat' first | (with_reducible exact ih1 _ _ _ _ _ _ _ _) | (with_reducible refine LeO.ite ?_ ?_)
  ·intro y0 y1 y2 y3 y4 y5 y6 y7; unfold aK.j1
   repeat' first | (with_reducible exact ih0 _ _ _ _ _ _ _) | (with_reducible exact LeO.refl _) | (with_reducible refine LeO.ite ?_ ?_) | (with_reducible refine LeO.bind ?_ (fun _ => ?_))
theorem aK.mono : ∀ a0 a1 a2 k, LeO (aK.f k a0 a1 a2) (aK.f (k + 1) a0 a1 a2) := by
 intro a0 a1 a2 k; obtain ⟨ih0, ih1⟩ := aK.ig k; unfold aK.f
 repeat' first | (with_reducible exact ih0 _ _ _ _ _ _ _) | (with_reducible exact LeO.refl _) | (with_reducible refine LeO.bind ?_ (fun _ => ?_))
def aK.T8 : Bool × List (List Nat × List Nat) := (true, [([], []), ([0], [0]), ([], []), ([2], [2]), ([3], [3]), ([], []), ([5], [5]), ([4, 6], [4, 6]), ([7], [7]), ([1, 8, 6], [1, 8]), ([0, 1, 2, 3, 4, 5, 6, 7, 8, 9], []), ([10, 9, 9, 0, 1, 2, 3, 4, 5, 6, 7, 8, 9], [9, 10])])
def aK.B8 : List Nat := [0, 1, 0, 4, 12, 0, 32, 124, 252, 511, 1023, 2047]
theorem aK.akI : sw .any (opsOf Try.f51 8) = aK.T8 := by kernel_rfl
theorem aK.agq : rA aK.T8.2 aK.B8 = true := by kernel_rfl
set_option maxHeartbeats 8000000 in
set_option maxRecDepth 100000 in
theorem aK.calls (k : Nat) (g : Nat) (s0_0 : Int) (s0_1 : Int) (a1 : Int) (r1 : Int) (r2 : Int) (r3 : List (S86)) (r4 : Int) (r5 : Int) (w0 w : World) (hI : bn w0 w g s0_0 s0_1) (hB : Below w0.heap.size w0 w) (h : aK.f k s0_0 s0_1 a1 = some (r1, r2, r3, r4, r5)) :
 Calls Try.prog 51 #[.pointer (some ⟨g, 0, none⟩), .int .i64 a1] w fun e w' => ∃ v2_ : Value, e = .returned (.agg #[.int .i64 r1, .int .i64 r2, v2_]) ∧ Kd.R k86 86 w' w.heap.size (fun _ => True) v2_ r3 ∧ bn w0 w' g r4 r5 ∧ Below w0.heap.size w0 w' ∧ az w w' g none := by
 have hu66 := Try.underlying66; have hu63 := Try.underlying63; have hu86 := Try.underlying86; have HI0 := aa.mk hI; have HK := aa.mk (az.refl w g none); have HL := aa.mk hB.size; clear hI; have HW0 := aa.mk hB.size; have HB := aa.mk hB; clear hB; have H : ((dM.f s0_0 s0_1 (-600) 300).bind fun Bc => ((bP.f Bc.2.1 Bc.2.2 200).bind fun EL => ((dM.f EL.2.1 EL.2.2 1 a1).bind fun FD => (aK.l0 k 0 FD.1 FD.2.1 FD.2.2 Bc.1 (wrap64 (Bc.1 + EL.1)) ([] : List (S86)))))) = some (r1, r2, r3, r4, r5) := h; clear h; replace H := Option.bind_eq_some_iff.mp H; obtain ⟨⟨tV, ac9, agJ⟩, A30, H⟩ := H; dsimp only at H; have A3 := aa.mk A30; clear A30; replace H := Option.bind_eq_some_iff.mp H; obtain ⟨⟨Ba, X3, Y6⟩, A40, H⟩ := H; dsimp only at H; have A4 := aa.mk A40; clear A40; replace H := Option.bind_eq_some_iff.mp H; obtain ⟨⟨ac8, afw, adN⟩, A50, H⟩ := H; dsimp only at H; have A5 := aa.mk A50; clear A50; have H' := aa.mk H; clear H; go_enter Try.func51, Try.ntmps51; (go_wp2_with (first | ((with_reducible refine dN (N := 4) rfl ?_); refine eB ?hg (N := 4) ?hd (cs := #[.int .i64 0, .int .i64 0, .slice none 0 0]) (t := 66) ?hr ?_; (case hd => rfl); (case hg => rfl); (case hr => (go_simp; done)); intro uT hg w6 hbox hb; replace HB := aa.mk (aM (by exact HB.out) hb); have nQ := aa.mk (hbox); have afx := aa.mk ((by rw [hg]; exact (dE (w := w) (g := g) (row := none) (by exact HK.out)) : w.heap.size ≤ uT)); have aeH := aa.mk ((Nat.le_trans HW0.out (by rw [hg]; exact (dE (w := w) (g := g) (row := none) (by exact HK.out)) : w.heap.size ≤ uT) : w0.heap.size ≤ uT)); replace HK := aa.mk (az.trans (by exact HK.out) (az.of_below hb g none) (.inl rfl)); have Oo := aa.mk ((by rw [hg]; exact Nat.ne_of_lt (bn.lt (show bn w0 _ g s0_0 s0_1 from by exact HI0.out)) : g ≠ uT)); have zW := aa.mk ((by rw [hg]; exact Nat.ne_of_gt (bn.lt (show bn w0 _ g s0_0 s0_1 from by exact HI0.out)) : uT ≠ g)); replace HI0 := aa.mk (bn.below (by exact HI0.out) hb); clear hb hbox hg) | ((with_reducible refine bR (f := 50) rfl ?_); refine fJ (some 11) rfl rfl Try.func50 (by kernel_rfl) rfl #[.pointer (some ⟨g, 0, none⟩), .int .i64 (-600), .int .i64 300] rfl (by (simp only [List.map_toArray, List.map_cons, List.map_nil]); rfl) ?_; (with_reducible refine (dM.calls g s0_0 s0_1 (-600) 300 tV ac9 agJ w0 _ ?side1 ?side2 A3.out).mono ?_); (case side1 => exact HI0.out); (case side2 => exact HB.out); rintro e w7 ⟨rfl, hi, hb, hk⟩; refine ⟨_, rfl, ?_⟩; replace nQ := aa.mk (az.blk hk (bU nQ.out) zW.out (by simp)); replace HK := aa.mk (az.trans (by exact HK.out) hk (.inl rfl)); replace HB := aa.mk (hb); replace HI0 := aa.mk (hi); clear hb; clear hk; (clear hi)) | ((with_reducible refine bR (f := 33) rfl ?_); refine fJ (some 15) rfl rfl Try.func33 (by kernel_rfl) rfl #[.pointer (some ⟨g, 0, none⟩), .int .i64 200] rfl (by (simp only [List.map_toArray, List.map_cons, List.map_nil]); rfl) ?_; (with_reducible refine (bP.calls g ac9 agJ 200 Ba X3 Y6 w0 _ ?side1 ?side2 A4.out).mono ?_); (case side1 => exact HI0.out); (case side2 => exact HB.out); rintro e w8 ⟨rfl, hi, hb, hk⟩; refine ⟨_, rfl, ?_⟩; replace nQ := aa.mk (az.blk hk (bU nQ.out) zW.out (by simp)); replace HK := aa.mk (az.trans (by exact HK.out) hk (.inl rfl)); replace HB := aa.mk (hb); replace HI0 := aa.mk (hi); clear hb; clear hk; (clear hi)) | ((with_reducible refine dN (N := 6) rfl ?_); refine eB ?hg (N := 6) ?hd (cs := #[.int .i64 0, .int .i64 0, .slice none 0 0]) (t := 66) ?hr ?_; (case hd => rfl); (case hg => rfl); (case hr => (go_simp; done)); intro vJ hg w9 hbox hb; replace HB := aa.mk (aM (by exact HB.out) hb); have lv := aa.mk (hbox); have aaG := aa.mk ((by rw [hg]; exact (dE (w := w) (g := g) (row := none) (by exact HK.out)) : w.heap.size ≤ vJ)); have aag := aa.mk ((Nat.le_trans HW0.out (by rw [hg]; exact (dE (w := w) (g := g) (row := none) (by exact HK.out)) : w.heap.size ≤ vJ) : w0.heap.size ≤ vJ)); replace HK := aa.mk (az.trans (by exact HK.out) (az.of_below hb g none) (.inl rfl)); have ut := aa.mk ((by rw [hg]; exact Nat.ne_of_lt (bW (g := uT) (o := .cells #[.int .i64 0, .int .i64 0, .slice none 0 0] 66 (0, 0)) (bU nQ.out)) : uT ≠ vJ)); have CU := aa.mk ((by rw [hg]; exact Nat.ne_of_gt (bW (g := uT) (o := .cells #[.int .i64 0, .int .i64 0, .slice none 0 0] 66 (0, 0)) (bU nQ.out)) : vJ ≠ uT)); replace nQ := aa.mk (aG (bU nQ.out) hb); have D9 := aa.mk ((by rw [hg]; exact Nat.ne_of_lt (bn.lt (show bn w0 _ g X3 Y6 from by exact HI0.out)) : g ≠ vJ)); have BJ := aa.mk ((by rw [hg]; exact Nat.ne_of_gt (bn.lt (show bn w0 _ g X3 Y6 from by exact HI0.out)) : vJ ≠ g)); replace HI0 := aa.mk (bn.below (by exact HI0.out) hb); clear hb hbox hg; have am7 := CU.out; have anw := ut.out; have af9 := BJ.out; have agT := D9.out; obtain ⟨Je, JY, Pv, JV, JR, Ou⟩ := cells3 lv.out) | ((with_reducible refine bR (f := 50) rfl ?_); refine fJ (some 21) rfl rfl Try.func50 (by kernel_rfl) rfl #[.pointer (some ⟨g, 0, none⟩), .int .i64 1, .int .i64 a1] rfl (by (simp only [List.map_toArray, List.map_cons, List.map_nil]); rfl) ?_; (with_reducible refine (dM.calls g X3 Y6 1 a1 ac8 afw adN w0 _ ?side1 ?side2 A5.out).mono ?_); (case side1 => repeat ((with_reducible first | exact HI0.out | refine bn.far ?_ D9.out _))); (case side2 => repeat ((with_reducible first | exact HB.out | refine dB ?_ aag.out))); rintro e w13 ⟨rfl, hi, hb, hk⟩; refine ⟨_, rfl, ?_⟩; replace nQ := aa.mk (az.blk hk (g' := uT) (o := .cells #[.int .i64 0, .int .i64 0, .slice none 0 0] 66 (0, 0)) (by (with_reducible skip); refine bI ?_ ut.out _; (with_reducible skip); refine bI ?_ ut.out _; (with_reducible skip); refine bI ?_ ut.out _; (with_reducible skip); exact nQ.out) zW.out (by simp)); replace lv := aa.mk (az.blk hk (g' := vJ) (o := .cells #[.int .i64 tV, .int .i64 (wrap64 (tV + Ba)), .slice none 0 0] 66 (0, 0)) (by (with_reducible skip); refine cu (cs := #[.int .i64 tV, .int .i64 (wrap64 (tV + Ba)), .slice none 0 0]) ?_ 2 _ rfl; (with_reducible skip); refine cu (cs := #[.int .i64 tV, .int .i64 0, .slice none 0 0]) ?_ 1 _ rfl; (with_reducible skip); refine cu (cs := #[.int .i64 0, .int .i64 0, .slice none 0 0]) ?_ 0 _ rfl; (with_reducible skip); exact lv.out) BJ.out (by simp)); replace HK := aa.mk (az.trans (by repeat ((with_reducible first | exact HK.out | refine qb ?_ aaG.out _))) hk (.inl rfl)); replace HB := aa.mk (hb); replace HI0 := aa.mk (hi); clear hb; clear hk; (clear hi)))); (go_loopg [7, 8] k (fun kq v7 v8 w' => ∃ (Ac : Int) (ql : Int) (oD : Int) (oq : Int) (nI : List (S86)) (uX : Value), v7 = .int .i64 Ac ∧ v8 = .int .i64 ql ∧ aa (aK.l0 kq Ac ql oD oq tV (wrap64 (tV + Ba)) nI = some (r1, r2, r3, r4, r5)) ∧ aa (kq ≤ k) ∧ aa (Kd.R k86 86 w' w.heap.size (fun _ => True) uX nI) ∧ aa (w'.heap[uT]? = some (.cells #[.int .i64 0, .int .i64 0, (.slice none 0 0)] 66 (0, 0))) ∧ aa (w'.heap[vJ]? = some (.cells #[.int .i64 tV, .int .i64 (wrap64 (tV + Ba)), uX] 66 (0, 0))) ∧ aa (bn w0 w' g oD oq) ∧ aa (az w w' g none) ∧ aa (Below w0.heap.size w0 w'))); case atStart => exact ⟨(0), (ac8), (afw), (adN), (([] : List (S86))), (.slice none 0 0), (by rfl), (by rfl), H', ⟨Nat.le_refl _⟩, ⟨by exact Kd.Ah _ _ _ _ _⟩, ⟨by (with_reducible skip); exact nQ.out⟩, ⟨by (with_reducible skip); exact lv.out⟩, ⟨by exact HI0.out⟩, ⟨by exact HK.out⟩, ⟨by exact HB.out⟩⟩
 case round =>
  clear H' Je JY Pv JV JR Ou; obtain ⟨Ac, ql, oD, oq, nI, uX, rfl, rfl, HA, HK1, jI, nQ, lv, HI0, HK, HB⟩ := hrel
  cases gk with
  | zero => exact absurd HA.out (by simp [aK.l0])
  | succ k1 =>
   have H := HA.out; clear HA; simp only [aK.l0] at H; have aaP := aa.mk H; clear H; (go_upto_region 5 with (fail)); go_cut [27] (fun v27 wc => ∃ (kq : Nat) (IY : Bool), v27 = .bool IY ∧ aa (aK.j1 kq Ac ql IY oD oq tV (wrap64 (tV + Ba)) nI = some (r1, r2, r3, r4, r5)) ∧ aa (kq ≤ k1) ∧ aa (Kd.R k86 86 wc w.heap.size (fun _ => True) uX nI) ∧ aa (wc.heap[uT]? = some (.cells #[.int .i64 0, .int .i64 0, (.slice none 0 0)] 66 (0, 0))) ∧ aa (wc.heap[vJ]? = some (.cells #[.int .i64 tV, .int .i64 (wrap64 (tV + Ba)), uX] 66 (0, 0))) ∧ aa (bn w0 wc g oD oq) ∧ aa (az w wc g none) ∧ aa (Below w0.heap.size w0 wc))
   case first =>
    have H := aaP.out; clear aaP; by_cases c15 : ql > 0
    ·rw [if_pos c15] at H; have OI : decide (0 < ql) = true := decide_eq_true c15; clear c15; (skip); have H' := aa.mk H; clear H; go_wp2; go_meet; case rel => exact ⟨_, (decide (Ac < 26)), (by rfl), H', ⟨by have := HK1.out; omega⟩, ⟨by (with_reducible skip); exact jI.out⟩, ⟨by (with_reducible skip); exact nQ.out⟩, ⟨by (with_reducible skip); exact lv.out⟩, ⟨by exact HI0.out⟩, ⟨by exact HK.out⟩, ⟨by exact HB.out⟩⟩
    ·rw [if_neg c15] at H; have OI : decide (0 < ql) = false := decide_eq_false c15; clear c15; (skip); have H' := aa.mk H; clear H; go_wp2; go_meet; case rel => exact ⟨_, (false), (by rfl), H', ⟨by have := HK1.out; omega⟩, ⟨by (with_reducible skip); exact jI.out⟩, ⟨by (with_reducible skip); exact nQ.out⟩, ⟨by (with_reducible skip); exact lv.out⟩, ⟨by exact HI0.out⟩, ⟨by exact HK.out⟩, ⟨by exact HB.out⟩⟩
   case rest =>
    clear aaP; obtain ⟨kq, IY, rfl, HA, HJ13, jI, nQ, lv, HI0, HK, HB⟩ := hcut
    cases kq with
    | zero => exact absurd HA.out (by simp [aK.j1])
    | succ kj13 =>
     have H := HA.out; clear HA; simp only [aK.j1] at H; by_cases c16 : IY = true
     ·subst c16; rw [if_pos rfl] at H; obtain ⟨V6, aas⟩ : ∃ j_ : Int, (mn 4 (wrap64 (26 - Ac))) = j_ := ⟨_, rfl⟩; (replace H : ((bP.f oD oq (V6)).bind fun Bd => ((dM.f Bd.2.1 Bd.2.2 1 31).bind fun GG => (if nI.length < 8796093022208 then (aK.l0 kj13 (wrap64 ((wrap64 (Ac + Bd.1)) + 1)) (wrap64 (ql - 1)) GG.2.1 GG.2.2 tV (wrap64 (tV + Ba)) (nI ++ [(⟨(wrap64 (65 + (wrap64 (Ac + Bd.1)))) % 256, GG.1⟩ : S86)])) else (none)))) = some (r1, r2, r3, r4, r5) := by (rw [aas] at H; exact H)); have akF : (if (wrap64 (26 - Ac)) < 4 then (wrap64 (26 - Ac)) else 4) = V6 := aas; replace H := Option.bind_eq_some_iff.mp H; obtain ⟨⟨MI, acn, abr⟩, afM, H⟩ := H; dsimp only at H; have A18 := aa.mk afM; clear afM; replace H := Option.bind_eq_some_iff.mp H; obtain ⟨⟨TM, aba, aa8⟩, SI, H⟩ := H; dsimp only at H; have A19 := aa.mk SI; clear SI; by_cases c20 : nI.length < 8796093022208
      ·rw [if_pos c20] at H; have UF := aa.mk c20; clear c20; obtain ⟨Yc, Rv⟩ : ∃ y_ : List (S86), y_ = (nI ++ [(⟨(wrap64 (65 + (wrap64 (Ac + MI)))) % 256, TM⟩ : S86)]) := ⟨_, rfl⟩; (replace H : (aK.l0 kj13 (wrap64 ((wrap64 (Ac + MI)) + 1)) (wrap64 (ql - 1)) aba aa8 tV (wrap64 (tV + Ba)) Yc) = some (r1, r2, r3, r4, r5) := by (rw [Rv]; with_reducible exact H)); have afl := aa.mk Rv; clear Rv; have H' := aa.mk H; clear H; (go_wp2_with (((with_reducible refine bR (f := 33) rfl ?_); refine fJ (some 35) rfl rfl Try.func33 (by kernel_rfl) rfl #[.pointer (some ⟨g, 0, none⟩), .int .i64 V6] rfl (by (simp only [List.map_toArray, List.map_cons, List.map_nil]); rfl) ?_; (with_reducible refine (bP.calls g oD oq V6 MI acn abr w0 _ ?side1 ?side2 A18.out).mono ?_); (case side1 => exact HI0.out); (case side2 => exact HB.out); rintro e w21 ⟨rfl, hi, hb, hk⟩; refine ⟨_, rfl, ?_⟩; replace jI := aa.mk (Kd.dC (Kd.pz (bn.apart (show bn w0 _ g oD oq from by exact HI0.out) (rU jI.out) (by decide)) hk (fun _ h => h.2)) (fun _ h => h.1)); replace nQ := aa.mk (az.blk hk (bU nQ.out) zW.out (by simp)); replace lv := aa.mk (az.blk hk (bU lv.out) BJ.out (by simp)); replace HK := aa.mk (az.trans (by exact HK.out) hk (.inl rfl)); replace HB := aa.mk (hb); replace HI0 := aa.mk (hi); clear hb; clear hk; (clear hi)))); replace jI := aa.mk (Kd.wZ jI.out); replace nQ := aa.mk (gU nQ.out); replace lv := aa.mk (gU lv.out); replace HI0 := aa.mk (bn.drew HI0.out); replace HK := aa.mk (vg HK.out); replace HB := aa.mk (iO HB.out); refine xe (n := 12) (S := fun w' => w'.cell? ⟨vJ, 0, none⟩ = some (.int .i64 tV) ∧ w'.cell? ⟨vJ, 1, none⟩ = some (.int .i64 (wrap64 (tV + Ba))) ∧ w'.cell? ⟨vJ, 2, none⟩ = some (uX)) (ds := [11]) #[false, false, false, false, false, false, false, false, false, false, false, false] (by kernel_rfl) rfl rfl ⟨(ag lv.out 0).trans rfl, (ag lv.out 1).trans rfl, (ag lv.out 2).trans rfl⟩ (fun bH => ?_); refine rR aK.akI aK.agq (fun HT_ HW_ => ?_); generalize w21.drew = w22 at jI nQ lv HI0 HK HB bH ⊢; refine fT (i := 0) (N := some 37) (v := ?_) (a' := ?_) #[true, false, false, false, false, false, false, false, false, false, false, false] rfl rfl (eG HT_.out (by kernel_rfl)) (fun _ _ _ h => h) (Or.inl ⟨by rfl, ?_⟩) ?_ ?_; rotate_left
       ·intro w'; go_simp; with_reducible rfl
       rotate_left
       ·simp only [Act.put, List.setIfInBounds_toArray, List.set_cons_zero, List.set_cons_succ, cZ, dm]; rfl
       refine fT (i := 2) (N := some 39) (v := ?_) (a' := ?_) #[true, false, true, false, false, false, false, false, false, false, false, false] rfl rfl (eG HT_.out (by kernel_rfl)) (fun _ _ _ h => h) (Or.inl ⟨by rfl, ?_⟩) ?_ ?_; rotate_left
       ·intro w'; go_simp; with_reducible rfl
       rotate_left
       ·simp only [Act.put, List.setIfInBounds_toArray, List.set_cons_zero, List.set_cons_succ, cZ, dm]; rfl
       refine fT (i := 3) (N := some 40) (v := ?_) (a' := ?_) #[true, false, true, true, false, false, false, false, false, false, false, false] rfl rfl (eG HT_.out (by kernel_rfl)) (fun _ _ _ h => h) (Or.inl ⟨by rfl, ?_⟩) ?_ ?_; rotate_left
       ·intro w'; go_simp; with_reducible rfl
       rotate_left
       ·simp only [Act.put, List.setIfInBounds_toArray, List.set_cons_zero, List.set_cons_succ, cZ, dm]; rfl
       refine fT (i := 4) (N := some 41) (v := ?_) (a' := ?_) #[true, false, true, true, true, false, false, false, false, false, false, false] rfl rfl (eG HT_.out (by kernel_rfl)) (fun _ _ _ h => h) (Or.inl ⟨by rfl, ?_⟩) ?_ ?_; rotate_left
       ·intro w'; go_simp; with_reducible rfl
       rotate_left
       ·simp only [Act.put, List.setIfInBounds_toArray, List.set_cons_zero, List.set_cons_succ, cZ, dm]; rfl
       refine fT (i := 5) (N := some 42) (v := ?_) (a' := ?_) #[true, false, true, true, true, true, false, false, false, false, false, false] rfl rfl (eG HT_.out (by kernel_rfl)) (fun _ _ _ h => h) (Or.inl ⟨by rfl, ?_⟩) ?_ ?_; rotate_left
       ·intro w'; go_simp; with_reducible rfl
       rotate_left
       ·simp only [Act.put, List.setIfInBounds_toArray, List.set_cons_zero, List.set_cons_succ, cZ, dm]; rfl
       refine oW (i := 1) (N := some 38) (v := ?_) (a' := ?_) #[true, true, true, true, true, true, false, false, false, false, false, false] rfl rfl (ko HT_.out HW_.out (by kernel_rfl)) (fun _ _ _ h => h) (Or.inl ⟨by rfl, ?_⟩) bH ?_ ?_; rotate_left
       ·rintro w' ⟨s0, s1, s2⟩; go_simp; with_reducible rfl
       rotate_left
       ·simp only [Act.put, List.setIfInBounds_toArray, List.set_cons_zero, List.set_cons_succ, cZ, dm]; rfl
       refine tY (i := 6) (N := some 43) #[true, true, true, true, true, true, true, false, false, false, false, false] rfl rfl (jS HT_.out (by kernel_rfl)) (by decide) (fun K hK => ?_); refine L9 Try.func50 (by kernel_rfl) rfl #[.pointer (some ⟨g, 0, none⟩), .int .i64 1, .int .i64 31] (by rfl) rfl rfl (by (simp only [List.map_toArray, List.map_cons, List.map_nil]); rfl) ?_; (with_reducible refine (dM.calls g acn abr 1 31 TM aba aa8 w0 _ ?side1 ?side2 A19.out).mono ?_); (case side1 => exact HI0.out); (case side2 => exact HB.out); rintro e w23 ⟨rfl, hi, hb, hk⟩; refine ⟨_, rfl, ?_⟩; replace jI := aa.mk (Kd.dC (Kd.pz (bn.apart (show bn w0 _ g acn abr from by exact HI0.out) (rU jI.out) (by decide)) hk (fun _ h => h.2)) (fun _ h => h.1)); replace nQ := aa.mk (az.blk hk (bU nQ.out) zW.out (by simp)); replace lv := aa.mk (az.blk hk (bU lv.out) BJ.out (by simp)); replace HK := aa.mk (az.trans (by exact HK.out) hk (.inl rfl)); replace HB := aa.mk (hb); replace HI0 := aa.mk (hi); (clear hb); (skip); (clear hk); (clear hi); refine hK.out _ _ ⟨(ag lv.out 0).trans rfl, (ag lv.out 1).trans rfl, (ag lv.out 2).trans rfl⟩ (fun bH => ?_); clear hK K; refine ek (a' := ?_) ?_ ?_; rotate_left
       ·show Act.put _ (some 43) _ = _; simp only [Act.put, List.setIfInBounds_toArray, List.set_cons_zero, List.set_cons_succ, cZ, dm]; rfl
       refine fT (i := 7) (N := some 44) (v := ?_) (a' := ?_) #[true, true, true, true, true, true, true, true, false, false, false, false] rfl rfl (eG HT_.out (by kernel_rfl)) (fun _ _ _ h => h) (Or.inl ⟨by rfl, ?_⟩) ?_ ?_; rotate_left
       ·intro w'; go_simp; with_reducible rfl
       rotate_left
       ·simp only [Act.put, List.setIfInBounds_toArray, List.set_cons_zero, List.set_cons_succ, cZ, dm]; rfl
       refine tY (i := 8) (N := some 45) #[true, true, true, true, true, true, true, true, true, false, false, false] rfl rfl (jS HT_.out (by kernel_rfl)) (by decide) (fun K hK => ?_); refine Fw (w1 := ?_) (v := ?_) (by rfl) rfl ?_ ?_; rotate_left 2
       ·go_simp; constructor
        ·rfl
        ·rfl
       refine hK.out _ _ ⟨(ag (eD lv.out _) 0).trans rfl, (ag (eD lv.out _) 1).trans rfl, (ag (eD lv.out _) 2).trans rfl⟩ (fun bH => ?_); clear hK K; refine ek (a' := ?_) ?_ ?_; rotate_left
       ·show Act.put _ (some 45) _ = _; simp only [Act.put, List.setIfInBounds_toArray, List.set_cons_zero, List.set_cons_succ, cZ, dm]; rfl
       refine tY (i := 9) (N := some 46) #[true, true, true, true, true, true, true, true, true, true, false, false] rfl rfl (jS HT_.out (by kernel_rfl)) (by decide) (fun K hK => ?_); refine Kd.Aj k86 w.heap.size (by rfl) (.tmp 38) (.tmp 45) 64 86 (.agg #[(.int .u8 0), (.int .i64 0)]) 16 rfl Try.underlying64 Ul rfl (by decide) (by omega) uX nI (⟨(wrap64 (65 + (wrap64 (Ac + MI)))) % 256, TM⟩ : S86) [.int .u8 ((wrap64 (65 + (wrap64 (Ac + MI)))) % 256), .int .i64 TM] (fun _ => True) (fun _ => False) rfl rfl ?aP (fun _ hk => hk.elim) ?aF ?aO (Below.refl _ _) ?aS ?aL ?_; (case aP => exact tK _ _ _ (⟨(wrap64 (65 + (wrap64 (Ac + MI)))) % 256, TM⟩ : S86)); (case aF => exact (fun _ _ => trivial)); (case aO => exact (rU jI.out)); (case aS => exact (dE (w := w) (g := g) (row := none) (by exact HK.out))); (case aL => have := UF.out; omega); intro aox w24 ho hb hg hat; rw [← afl.out] at ho; replace nQ := aa.mk (dL (bU nQ.out) hg (Kd.rD jI.out nQ.out (by decide))); replace lv := aa.mk (dL (bU lv.out) hg (Kd.rD jI.out lv.out (by decide))); replace HI0 := aa.mk (bn.grown (by exact HI0.out) hg (bn.own_ne HI0.out jI.out (by decide))); replace HB := aa.mk (pJ (by exact HB.out) HL.out hb); replace HK := aa.mk (az.trans (by exact HK.out) (az.sZ hg g) (Kd.zS jI.out)); have ZH := aa.mk (ho); clear jI ho hb hg hat; obtain ⟨XW, WK, aca⟩ := Kd.fZ ZH.out; (subst aca); refine hK.out _ _ ⟨(ag lv.out 0).trans rfl, (ag lv.out 1).trans rfl, (ag lv.out 2).trans rfl⟩ (fun bH => ?_); clear hK K; refine ek (a' := ?_) ?_ ?_; rotate_left
       ·show Act.put _ (some 46) _ = _; simp only [Act.put, List.setIfInBounds_toArray, List.set_cons_zero, List.set_cons_succ, cZ, dm]; rfl
       refine fT (i := 10) (N := some 47) (v := ?_) (a' := ?_) #[true, true, true, true, true, true, true, true, true, true, true, false] rfl rfl (eG HT_.out (by kernel_rfl)) (fun _ _ _ h => h) (Or.inl ⟨by rfl, ?_⟩) ?_ ?_; rotate_left
       ·intro w'; go_simp; with_reducible rfl
       rotate_left
       ·simp only [Act.put, List.setIfInBounds_toArray, List.set_cons_zero, List.set_cons_succ, cZ, dm]; rfl
       refine LC (i := 11) (N := none) #[true, true, true, true, true, true, true, true, true, true, true, true] rfl rfl (jS HT_.out (by kernel_rfl)) (by decide) (fun K hK => ?_); have hs26 : w24.cell? ⟨vJ, 2, none⟩ = some (uX) := (ag lv.out 2).trans rfl; have hfs26 := bq lv.out 2; have hns26_0 := ut.out; have hms26_0 := CU.out; refine Bb (w1 := ?_) (by rfl) rfl ?_ ?_; rotate_left
       ·go_simp; rfl
       refine hK.out _ _ ?_; clear hK K; refine Ak (wB HT_.out (by kernel_rfl)) ?_; go_wp2; go_roundg kj13; (case measure => have := HK1.out; have := HJ13.out; omega); case rel => exact ⟨(wrap64 ((wrap64 (Ac + MI)) + 1)), (wrap64 (ql - 1)), (aba), (aa8), (Yc), (.slice XW Yc.length WK), (by rfl), (by rfl), H', ⟨by have := HK1.out; have := HJ13.out; omega⟩, ⟨by (with_reducible skip); exact Kd.dC (Kd.lJ (p := ⟨vJ, 2, none⟩) (Kd.eH ZH.out lv.out (by decide)) (fun _ hk => hk.2) (.slice XW Yc.length WK)) (fun _ hk => trivial)⟩, ⟨by (with_reducible skip); refine bI ?_ ut.out _; (with_reducible skip); exact nQ.out⟩, ⟨by (with_reducible skip); refine cu (cs := #[.int .i64 tV, .int .i64 (wrap64 (tV + Ba)), uX]) ?_ 2 _ rfl; (with_reducible skip); exact lv.out⟩, ⟨by repeat ((with_reducible first | exact HI0.out | refine bn.far ?_ D9.out _))⟩, ⟨by repeat ((with_reducible first | exact HK.out | refine qb ?_ aaG.out _))⟩, ⟨by repeat ((with_reducible first | exact HB.out | refine dB ?_ aag.out))⟩⟩
      ·rw [if_neg c20] at H; exact absurd H (by simp)
     ·replace c16 := Bool.eq_false_iff.mpr c16; subst c16; rw [if_neg (show ¬ (false = true) by decide)] at H; simp only [Option.some.injEq, Prod.mk.injEq] at H; obtain ⟨rfl, rfl, rfl, rfl, rfl⟩ := H; have ad4 := CU.out; have adM := ut.out; have acV := BJ.out; have ae3 := D9.out; obtain ⟨Pm, Oa, Ol, Ow, Pq, O5⟩ := cells3 lv.out; have afv := zW.out; have ae6 := Oo.out; obtain ⟨Oc, O4, O6, O3, N7, Oe⟩ := cells3 nQ.out; obtain ⟨agR, ads, akx⟩ := Kd.fZ jI.out; subst akx; go_wp2; refine bodyPost_ret (results_cell_row rfl _ _ uT 66 #[.int .i64 tV, .int .i64 (wrap64 (tV + Ba)), .slice agR nI.length ads] (0, 0) _ rfl (by (with_reducible skip); refine cu (cs := #[.int .i64 tV, .int .i64 (wrap64 (tV + Ba)), .slice none 0 0]) ?_ 2 _ rfl; (with_reducible skip); refine cu (cs := #[.int .i64 tV, .int .i64 0, .slice none 0 0]) ?_ 1 _ rfl; (with_reducible skip); refine cu (cs := #[.int .i64 0, .int .i64 0, .slice none 0 0]) ?_ 0 _ rfl; (with_reducible skip); exact nQ.out) Try.underlying66 rfl (by kernel_rfl)) rfl ?_; exact ⟨_, by rfl, by (with_reducible skip); exact Kd.dC (Kd.lJ (p := ⟨uT, 2, none⟩) (Kd.lJ (p := ⟨uT, 1, none⟩) (Kd.lJ (p := ⟨uT, 0, none⟩) (Kd.eH jI.out nQ.out (by decide)) (fun _ hk => hk.2) (.int .i64 tV)) (fun _ hk => hk.2) (.int .i64 (wrap64 (tV + Ba)))) (fun _ hk => hk.2) (.slice agR nI.length ads)) (fun _ hk => trivial), by repeat ((with_reducible first | exact HI0.out | refine bn.far ?_ Oo.out _)), by repeat ((with_reducible first | exact HB.out | refine dB ?_ aeH.out)), by repeat ((with_reducible first | exact HK.out | refine qb ?_ afx.out _))⟩
def fU.f (s0_0 : Int) (s0_1 : Int) (l1 : List Int) : Option (Int × Int × Int) := if (l1.length : Int) = 0 then (some (0, s0_0, s0_1)) else ((bP.f s0_0 s0_1 (l1.length : Int)).bind fun zf => (if 0 ≤ zf.1 then (if zf.1 < (l1.length : Int) then (some (rd l1 zf.1, zf.2.1, zf.2.2)) else (none)) else (none)))
set_option maxHeartbeats 8000000 in
set_option maxRecDepth 100000 in
theorem fU.calls (g : Nat) (s0_0 : Int) (s0_1 : Int) (A1 : Option Addr) (c1 : Nat) (l1 : List Int) (r1 : Int) (r2 : Int) (r3 : Int) (w0 w : World) (hI : bn w0 w g s0_0 s0_1) (hB : Below w0.heap.size w0 w) (hr1 : Kd.C (Kd.int .i64) w A1 l1.length l1) (hc1 : l1.length ≤ c1) (hf1 : ∀ ad, A1 = some ad → 0 < l1.length → ad.block ≠ g) (h : fU.f s0_0 s0_1 l1 = some (r1, r2, r3)) :
 Calls Try.prog 52 #[.pointer (some ⟨g, 0, none⟩), .slice A1 l1.length c1] w fun e w' => e = .returned (.int .i64 r1) ∧ bn w0 w' g r2 r3 ∧ Below w0.heap.size w0 w' ∧ az w w' g none := by
 have HR1 := aa.mk hr1; have HC1 := aa.mk hc1; clear hr1 hc1; have HI0 := aa.mk hI; have HK := aa.mk (az.refl w g none); have HL := aa.mk hB.size; clear hI; have HW0 := aa.mk hB.size; have HB := aa.mk hB; clear hB; have H : (if (l1.length : Int) = 0 then (some (0, s0_0, s0_1)) else ((bP.f s0_0 s0_1 (l1.length : Int)).bind fun zf => (if 0 ≤ zf.1 then (if zf.1 < (l1.length : Int) then (some (rd l1 zf.1, zf.2.1, zf.2.2)) else (none)) else (none)))) = some (r1, r2, r3) := h; clear h; by_cases c3 : (l1.length : Int) = 0
 ·rw [if_pos c3] at H; have yH : ((l1.length : Int) == 0) = true := beq_iff_eq.mpr c3; have GQ : ((l1.length : Int) != 0) = false := bne_eq_false_iff_eq.mpr c3; clear c3; simp only [Option.some.injEq, Prod.mk.injEq] at H; obtain ⟨rfl, rfl, rfl⟩ := H; go_enter Try.func52, Try.ntmps52; go_wp2
  go_ret
  exact ⟨by rfl, by exact HI0.out, by exact HB.out, by exact HK.out⟩
 ·rw [if_neg c3] at H; have yH : ((l1.length : Int) == 0) = false := beq_eq_false_iff_ne.mpr c3; have GQ : ((l1.length : Int) != 0) = true := bne_iff_ne.mpr c3; (have aoz : ¬ (l1 = []) := fun h_ => c3 (by rw [h_]; rfl)); replace H := Option.bind_eq_some_iff.mp H; obtain ⟨⟨Me, ak2, akJ⟩, A40, H⟩ := H; dsimp only at H; have A4 := aa.mk A40; clear A40; by_cases c5 : 0 ≤ Me
  ·rw [if_pos c5] at H; have yE : decide (0 ≤ Me) = true := decide_eq_true c5; clear c5; by_cases c6 : Me < (l1.length : Int)
   ·rw [if_pos c6] at H; have akw : decide (Me < (l1.length : Int)) = true := decide_eq_true c6; clear c6; simp only [Option.some.injEq, Prod.mk.injEq] at H; obtain ⟨rfl, rfl, rfl⟩ := H; go_enter Try.func52, Try.ntmps52; go_wp2_with (((with_reducible refine bR (f := 33) rfl ?_); refine fJ (some 12) rfl rfl Try.func33 (by kernel_rfl) rfl #[.pointer (some ⟨g, 0, none⟩), .int .i64 (l1.length : Int)] rfl (by (simp only [List.map_toArray, List.map_cons, List.map_nil]); rfl) ?_; (with_reducible refine (bP.calls g s0_0 s0_1 (l1.length : Int) Me ak2 akJ w0 _ ?side1 ?side2 A4.out).mono ?_); (case side1 => exact HI0.out); (case side2 => exact HB.out); rintro e w7 ⟨rfl, hi, hb, hk⟩; refine ⟨_, rfl, ?_⟩; replace HK := aa.mk (az.trans (by exact HK.out) hk (.inl rfl)); replace HB := aa.mk (hb); replace HI0 := aa.mk (hi); clear hb; clear hk; clear hi; have abz : 0 ≤ (Me : Int) := of_decide_eq_true (by with_reducible assumption); have abJ : Me < (l1.length : Int) := of_decide_eq_true (by with_reducible assumption); obtain ⟨ani, e377, P7⟩ := Kd.CW HR1.out Me abz abJ; cases e377; replace P7 := Qs HK.out P7 (by (rw [add_block]; exact hf1 _ rfl (by omega))); replace abz := eq_true abz; replace abJ := eq_true abJ))
    go_ret
    exact ⟨by rfl, by exact HI0.out, by exact HB.out, by exact HK.out⟩
   ·rw [if_neg c6] at H; exact absurd H (by simp)
  ·rw [if_neg c5] at H; exact absurd H (by simp)
mutual
def af.l0 : Nat → Int → Int → Int → Int → Int → List (S66) → Int → Int → Int → Option ((List (S66)) × Int × Int × Int × (List (List (S27))) × Int × ByteArray × List Int × Int × Int)
 | 0, _, _, _, _, _, _, _, _, _ => none
 | k + 1, x2, x3, x11, pq, pu, jG, kH, kC, lc => if x11 > 0 then ((aK.f k pq pu x2).bind fun Mc => ((some (([(⟨(⟨Mc.1, Mc.2.1⟩ : S63), Mc.2.2.1⟩ : S66)] : List (S66)) : List (S66))).bind fun Fh => (if jG.length + Fh.length < 3518437208883 then (af.l0 k x2 x3 (wrap64 (x11 - 1)) Mc.2.2.2.1 Mc.2.2.2.2 (jG ++ Fh) kH kC lc) else (none)))) else ((bP.f pq pu (jG.length : Int)).bind fun HZ => (if 0 ≤ HZ.1 then (if HZ.1 < (jG.length : Int) then ((dM.f HZ.2.1 HZ.2.2 1 x3).bind fun Gh => (af.l1 k ((ah jG HZ.1).f1) 0 Gh.1 Gh.2.1 Gh.2.2 jG kH kC lc ([] : List (List (S27))) HZ.1 (⟨#[]⟩ : ByteArray) ([] : List Int))) else (none)) else (none)))
def af.l1 : Nat → List (S86) → Int → Int → Int → Int → List (S66) → Int → Int → Int → List (List (S27)) → Int → ByteArray → List Int → Option ((List (S66)) × Int × Int × Int × (List (List (S27))) × Int × ByteArray × List Int × Int × Int)
 | 0, _, _, _, _, _, _, _, _, _, _, _, _, _ => none
 | k + 1, x13, x14, x15, pq, pu, jG, kH, kC, lc, lC, mG, lL, lG => if x15 > 0 then ((bP.f pq pu (x13.length : Int)).bind fun Gj => (if 0 ≤ Gj.1 then (if Gj.1 < (x13.length : Int) then ((bP.f Gj.2.1 Gj.2.2 (wrap64 (kH + 1))).bind fun EW => ((bP.f EW.2.1 EW.2.2 (wrap64 (kC + 1))).bind fun zy => (af.l2 k x13 x14 x15 ((av x13 Gj.1).f1) EW.1 zy.1 0 zy.2.1 zy.2.2 jG kH kC lc lC mG lL lG ((av x13 Gj.1).f0) ((av x13 Gj.1).f1)))) else (none)) else (none))) else ((fU.f pq pu (([0, 0, 1, 2] : List Int))).bind fun E8 => (some (jG, kH, kC, mn 40 (wrap64 (x14 + E8.1)), lC, mG, lL, lG, E8.2.1, E8.2.2)))
def af.l2 : Nat → List (S86) → Int → Int → Int → Int → Int → Int → Int → Int → List (S66) → Int → Int → Int → List (List (S27)) → Int → ByteArray → List Int → Int → Int → Option ((List (S66)) × Int × Int × Int × (List (List (S27))) × Int × ByteArray × List Int × Int × Int)
 | 0, _, _, _, _, _, _, _, _, _, _, _, _, _, _, _, _, _, _, _ => none
 | k + 1, x13, x14, x15, x17, x18, x19, x20, pq, pu, jG, kH, kC, lc, lC, mG, lL, lG, oC, mH => if x20 < 5 then (if 0 ≤ x20 then (if (Go.bits .and .i64 (shr .i64 mH x20) 1) = 1 then (if x18 > 0 then ((eU.f pq pu 1 3).bind fun GJ => (af.j3 k x13 x14 x15 x17 x18 x19 x20 ((Go.bits .and .i64 (shr .i64 mH x20) 1) == 1) GJ.1 GJ.2.1 GJ.2.2 jG kH kC lc lC mG lL lG oC mH)) else (af.j3 k x13 x14 x15 x17 x18 x19 x20 ((Go.bits .and .i64 (shr .i64 mH x20) 1) == 1) false pq pu jG kH kC lc lC mG lL lG oC mH)) else (af.j3 k x13 x14 x15 x17 x18 x19 x20 ((Go.bits .and .i64 (shr .i64 mH x20) 1) == 1) false pq pu jG kH kC lc lC mG lL lG oC mH)) else (none)) else ((fU.f pq pu (([0, 1, 1, 2, 3] : List Int))).bind fun Gm => (af.l3 k x13 x14 x15 x17 ([] : List (S27)) Gm.1 Gm.2.1 Gm.2.2 jG kH kC lc lC mG lL lG oC mH))
def af.j3 : Nat → List (S86) → Int → Int → Int → Int → Int → Int → Bool → Bool → Int → Int → List (S66) → Int → Int → Int → List (List (S27)) → Int → ByteArray → List Int → Int → Int → Option ((List (S66)) × Int × Int × Int × (List (List (S27))) × Int × ByteArray × List Int × Int × Int)
 | 0, _, _, _, _, _, _, _, _, _, _, _, _, _, _, _, _, _, _, _, _, _ => none
 | k + 1, x13, x14, x15, x17, x18, x19, x20, x21, amo, pq, pu, jG, kH, kC, lc, lC, mG, lL, lG, oC, mH => if amo = true then (if 0 ≤ x20 then (if x21 = true then (af.l2 k x13 (wrap64 (x14 + 1)) x15 (wrap64 (x17 - (shl .i64 1 x20))) (wrap64 (x18 - 1)) x19 (wrap64 (x20 + 1)) pq pu jG kH kC lc lC mG lL lG oC mH) else (if x19 > 0 then ((eU.f pq pu 1 3).bind fun uD => (if uD.1 = true then (af.l2 k x13 (wrap64 ((wrap64 (x14 + 1)) + 1)) x15 (wrap64 ((wrap64 (x17 - (shl .i64 1 x20))) + (shl .i64 1 x20))) (wrap64 (x18 - 1)) (wrap64 (x19 - 1)) (wrap64 (x20 + 1)) uD.2.1 uD.2.2 jG kH kC lc lC mG lL lG oC mH) else (af.l2 k x13 (wrap64 (x14 + 1)) x15 (wrap64 (x17 - (shl .i64 1 x20))) (wrap64 (x18 - 1)) x19 (wrap64 (x20 + 1)) uD.2.1 uD.2.2 jG kH kC lc lC mG lL lG oC mH))) else (af.l2 k x13 (wrap64 (x14 + 1)) x15 (wrap64 (x17 - (shl .i64 1 x20))) (wrap64 (x18 - 1)) x19 (wrap64 (x20 + 1)) pq pu jG kH kC lc lC mG lL lG oC mH))) else (none)) else (if x21 = true then (af.l2 k x13 x14 x15 x17 x18 x19 (wrap64 (x20 + 1)) pq pu jG kH kC lc lC mG lL lG oC mH) else (if x19 > 0 then ((eU.f pq pu 1 3).bind fun yN => (if yN.1 = true then (if 0 ≤ x20 then (af.l2 k x13 (wrap64 (x14 + 1)) x15 (wrap64 (x17 + (shl .i64 1 x20))) x18 (wrap64 (x19 - 1)) (wrap64 (x20 + 1)) yN.2.1 yN.2.2 jG kH kC lc lC mG lL lG oC mH) else (none)) else (af.l2 k x13 x14 x15 x17 x18 x19 (wrap64 (x20 + 1)) yN.2.1 yN.2.2 jG kH kC lc lC mG lL lG oC mH))) else (af.l2 k x13 x14 x15 x17 x18 x19 (wrap64 (x20 + 1)) pq pu jG kH kC lc lC mG lL lG oC mH)))
def af.l3 : Nat → List (S86) → Int → Int → Int → List (S27) → Int → Int → Int → List (S66) → Int → Int → Int → List (List (S27)) → Int → ByteArray → List Int → Int → Int → Option ((List (S66)) × Int × Int × Int × (List (List (S27))) × Int × ByteArray × List Int × Int × Int)
 | 0, _, _, _, _, _, _, _, _, _, _, _, _, _, _, _, _, _, _ => none
 | k + 1, x13, x14, x15, x17, x22, x23, pq, pu, jG, kH, kC, lc, lC, mG, lL, lG, oC, mH => if x23 > 0 then ((bP.f pq pu 32).bind fun RH => ((fU.f RH.2.1 RH.2.2 (([31, 15, RH.1] : List Int))).bind fun wy => ((some (([(⟨wy.1, Go.bits .and .i64 x17 wy.1⟩ : S27)] : List (S27)) : List (S27))).bind fun wX => (if x22.length + wX.length < 8796093022208 then (af.l3 k x13 x14 x15 x17 (x22 ++ wX) (wrap64 (x23 - 1)) wy.2.1 wy.2.2 jG kH kC lc lC mG lL lG oC mH) else (none))))) else ((some (([oC] : List Int) : List Int)).bind fun ku => (if lL.size + (strOfNums ku).size ≤ 9223372036854775807 then ((some (([x17] : List Int) : List Int)).bind fun nZ => (if lG.length + nZ.length < 17592186044416 then ((some (([x22] : List (List (S27))) : List (List (S27)))).bind fun xf => (if lC.length + xf.length < 5864062014805 then (af.l1 k x13 x14 (wrap64 (x15 - 1)) pq pu jG kH kC lc (lC ++ xf) mG (lL ++ (strOfNums ku)) (lG ++ nZ)) else (none))) else (none))) else (none)))
end
def af.f (k : Nat) (s0_0 : Int) (s0_1 : Int) (a1 : Int) (a2 : Int) (a3 : Int) : Option ((List (S66)) × Int × Int × Int × (List (List (S27))) × Int × ByteArray × List Int × Int × Int) := (bP.f s0_0 s0_1 3).bind fun FO => ((bP.f FO.2.1 FO.2.2 3).bind fun zz => ((dM.f zz.2.1 zz.2.2 1 a1).bind fun vX => (af.l0 k a2 a3 vX.1 vX.2.1 vX.2.2 ([] : List (S66)) FO.1 zz.1 0)))
theorem af.ig : ∀ k, (∀ y0 y1 y2 y3 y4 y5 y6 y7 y8, LeO (af.l0 k y0 y1 y2 y3 y4 y5 y6 y7 y8) (af.l0 (k + 1) y0 y1 y2 y3 y4 y5 y6 y7 y8)) ∧ (∀ y0 y1 y2 y3 y4 y5 y6 y7 y8 y9 y10 y11 y12, LeO (af.l1 k y0 y1 y2 y3 y4 y5 y6 y7 y8 y9 y10 y11 y12) (af.l1 (k + 1) y0 y1 y2 y3 y4 y5 y6 y7 y8 y9 y10 y11 y12)) ∧ (∀ y0 y1 y2 y3 y4 y5 y6 y7 y8 y9 y10 y11 y12 y13 y14 y15 y16 y17 y18, LeO (af.l2 k y0 y1 y2 y3 y4 y5 y6 y7 y8 y9 y10 y11 y12 y13 y14 y15 y16 y17 y18) (af.l2 (k + 1) y0 y1 y2 y3 y4 y5 y6 y7 y8 y9 y10 y11 y12 y13 y14 y15 y16 y17 y18)) ∧ (∀ y0 y1 y2 y3 y4 y5 y6 y7 y8 y9 y10 y11 y12 y13 y14 y15 y16 y17 y18 y19 y20, LeO (af.j3 k y0 y1 y2 y3 y4 y5 y6 y7 y8 y9 y10 y11 y12 y13 y14 y15 y16 y17 y18 y19 y20) (af.j3 (k + 1) y0 y1 y2 y3 y4 y5 y6 y7 y8 y9 y10 y11 y12 y13 y14 y15 y16 y17 y18 y19 y20)) ∧ (∀ y0 y1 y2 y3 y4 y5 y6 y7 y8 y9 y10 y11 y12 y13 y14 y15 y16 y17, LeO (af.l3 k y0 y1 y2 y3 y4 y5 y6 y7 y8 y9 y10 y11 y12 y13 y14 y15 y16 y17) (af.l3 (k + 1) y0 y1 y2 y3 y4 y5 y6 y7 y8 y9 y10 y11 y12 y13 y14 y15 y16 y17))
 | 0 => ⟨fun _ _ _ _ _ _ _ _ _ r h => by simp [af.l0] at h, fun _ _ _ _ _ _ _ _ _ _ _ _ _ r h => by simp [af.l1] at h, fun _ _ _ _ _ _ _ _ _ _ _ _ _ _ _ _ _ _ _ r h => by simp [af.l2] at h, fun _ _ _ _ _ _ _ _ _ _ _ _ _ _ _ _ _ _ _ _ _ r h => by simp [af.j3] at h, fun _ _ _ _ _ _ _ _ _ _ _ _ _ _ _ _ _ _ r h => by simp [af.l3] at h⟩
 | k + 1 => by
  obtain ⟨ih0, ih1, ih2, ih3, ih4⟩ := af.ig k; refine ⟨?_, ?_, ?_, ?_, ?_⟩
  ·intro y0 y1 y2 y3 y4 y5 y6 y7 y8; unfold af.l0
   repeat' first
   | (with_reducible exact ih0 _ _ _ _ _ _ _ _ _)
   | (with_reducible exact ih1 _ _ _ _ _ _ _ _ _ _ _ _ _)
   | (with_reducible exact ih2 _ _ _ _ _ _ _ _ _ _ _ _ _ _ _ _ _ _ _)
   | (with_reducible exact ih3 _ _ _ _ _ _ _ _ _ _ _ _ _ _ _ _ _ _ _ _ _)
   | (with_reducible exact ih4 _ _ _ _ _ _ _ _ _ _ _ _ _ _ _ _ _ _)
   | (with_reducible exact aK.mono _ _ _ _)
   | (with_reducible exact LeO.refl _)
   | (with_reducible exact LeO.none _)
   | (with_reducible refine LeO.ite ?_ ?_)
   | (with_reducible refine LeO.bind ?_ (fun _ => ?_))
   | exact ih0 _ _ _ _ _ _ _ _ _
   | exact ih1 _ _ _ _ _ _ _ _ _ _ _ _ _
   | exact ih2 _ _ _ _ _ _ _ _ _ _ _ _ _ _ _ _ _ _ _
   | exact ih3 _ _ _ _ _ _ _ _ _ _ _ _ _ _ _ _ _ _ _ _ _
   | exact ih4 _ _ _ _ _ _ _ _ _ _ _ _ _ _ _ _ _ _
   | exact aK.mono _ _ _ _
   | exact LeO.none _
   | refine LeO.ite ?_ ?_
   | refine LeO.bind ?_ (fun _ => ?_)
  ·intro y0 y1 y2 y3 y4 y5 y6 y7 y8 y9 y10 y11 y12; unfold af.l1
   repeat' first
   | (with_reducible exact ih0 _ _ _ _ _ _ _ _ _)
   | (with_reducible exact ih1 _ _ _ _ _ _ _ _ _ _ _ _ _)
   | (with_reducible exact ih2 _ _ _ _ _ _ _ _ _ _ _ _ _ _ _ _ _ _ _)
   | (with_reducible exact ih3 _ _ _ _ _ _ _ _ _ _ _ _ _ _ _ _ _ _ _ _ _)
   | (with_reducible exact ih4 _ _ _ _ _ _ _ _ _ _ _ _ _ _ _ _ _ _)
   | (with_reducible exact aK.mono _ _ _ _)
   | (with_reducible exact LeO.refl _)
   | (with_reducible exact LeO.none _)
   | (with_reducible refine LeO.ite ?_ ?_)
   | (with_reducible refine LeO.bind ?_ (fun _ => ?_))
   | exact ih0 _ _ _ _ _ _ _ _ _
   | exact ih1 _ _ _ _ _ _ _ _ _ _ _ _ _
   | exact ih2 _ _ _ _ _ _ _ _ _ _ _ _ _ _ _ _ _ _ _
   | exact ih3 _ _ _ _ _ _ _ _ _ _ _ _ _ _ _ _ _ _ _ _ _
   | exact ih4 _ _ _ _ _ _ _ _ _ _ _ _ _ _ _ _ _ _
   | exact aK.mono _ _ _ _
   | exact LeO.none _
   | refine LeO.ite ?_ ?_
   | refine LeO.bind ?_ (fun _ => ?_)
  ·intro y0 y1 y2 y3 y4 y5 y6 y7 y8 y9 y10 y11 y12 y13 y14 y15 y16 y17 y18; unfold af.l2
   repeat' first
   | (with_reducible exact ih0 _ _ _ _ _ _ _ _ _)
   | (with_reducible exact ih1 _ _ _ _ _ _ _ _ _ _ _ _ _)
   | (with_reducible exact ih2 _ _ _ _ _ _ _ _ _ _ _ _ _ _ _ _ _ _ _)
   | (with_reducible exact ih3 _ _ _ _ _ _ _ _ _ _ _ _ _ _ _ _ _ _ _ _ _)
   | (with_reducible exact ih4 _ _ _ _ _ _ _ _ _ _ _ _ _ _ _ _ _ _)
   | (with_reducible exact aK.mono _ _ _ _)
   | (with_reducible exact LeO.refl _)
   | (with_reducible exact LeO.none _)
   | (with_reducible refine LeO.ite ?_ ?_)
   | (with_reducible refine LeO.bind ?_ (fun _ => ?_))
   | exact ih0 _ _ _ _ _ _ _ _ _
   | exact ih1 _ _ _ _ _ _ _ _ _ _ _ _ _
   | exact ih2 _ _ _ _ _ _ _ _ _ _ _ _ _ _ _ _ _ _ _
   | exact ih3 _ _ _ _ _ _ _ _ _ _ _ _ _ _ _ _ _ _ _ _ _
   | exact ih4 _ _ _ _ _ _ _ _ _ _ _ _ _ _ _ _ _ _
   | exact aK.mono _ _ _ _
   | exact LeO.none _
   | refine LeO.ite ?_ ?_
   | refine LeO.bind ?_ (fun _ => ?_)
  ·intro y0 y1 y2 y3 y4 y5 y6 y7 y8 y9 y10 y11 y12 y13 y14 y15 y16 y17 y18 y19 y20; unfold af.j3
   repeat' first
   | (with_reducible exact ih0 _ _ _ _ _ _ _ _ _)
   | (with_reducible exact ih1 _ _ _ _ _ _ _ _ _ _ _ _ _)
   | (with_reducible exact ih2 _ _ _ _ _ _ _ _ _ _ _ _ _ _ _ _ _ _ _)
   | (with_reducible exact ih3 _ _ _ _ _ _ _ _ _ _ _ _ _ _ _ _ _ _ _ _ _)
   | (with_reducible exact ih4 _ _ _ _ _ _ _ _ _ _ _ _ _ _ _ _ _ _)
   | (with_reducible exact aK.mono _ _ _ _)
   | (with_reducible exact LeO.refl _)
   | (with_reducible exact LeO.none _)
   | (with_reducible refine LeO.ite ?_ ?_)
   | (with_reducible refine LeO.bind ?_ (fun _ => ?_))
   | exact ih0 _ _ _ _ _ _ _ _ _
   | exact ih1 _ _ _ _ _ _ _ _ _ _ _ _ _
   | exact ih2 _ _ _ _ _ _ _ _ _ _ _ _ _ _ _ _ _ _ _
   | exact ih3 _ _ _ _ _ _ _ _ _ _ _ _ _ _ _ _ _ _ _ _ _
   | exact ih4 _ _ _ _ _ _ _ _ _ _ _ _ _ _ _ _ _ _
   | exact aK.mono _ _ _ _
   | exact LeO.none _
   | refine LeO.ite ?_ ?_
   | refine LeO.bind ?_ (fun _ => ?_)
  ·intro y0 y1 y2 y3 y4 y5 y6 y7 y8 y9 y10 y11 y12 y13 y14 y15 y16 y17; unfold af.l3
   repeat' first
   | (with_reducible exact ih0 _ _ _ _ _ _ _ _ _)
   | (with_reducible exact ih1 _ _ _ _ _ _ _ _ _ _ _ _ _)
   | (with_reducible exact ih2 _ _ _ _ _ _ _ _ _ _ _ _ _ _ _ _ _ _ _)
   | (with_reducible exact ih3 _ _ _ _ _ _ _ _ _ _ _ _ _ _ _ _ _ _ _ _ _)
   | (with_reducible exact ih4 _ _ _ _ _ _ _ _ _ _ _ _ _ _ _ _ _ _)
   | (with_reducible exact aK.mono _ _ _ _)
   | (with_reducible exact LeO.refl _)
   | (with_reducible exact LeO.none _)
   | (with_reducible refine LeO.ite ?_ ?_)
   | (with_reducible refine LeO.bind ?_ (fun _ => ?_))
   | exact ih0 _ _ _ _ _ _ _ _ _
   | exact ih1 _ _ _ _ _ _ _ _ _ _ _ _ _
   | exact ih2 _ _ _ _ _ _ _ _ _ _ _ _ _ _ _ _ _ _ _
   | exact ih3 _ _ _ _ _ _ _ _ _ _ _ _ _ _ _ _ _ _ _ _ _
   | exact ih4 _ _ _ _ _ _ _ _ _ _ _ _ _ _ _ _ _ _
   | exact aK.mono _ _ _ _
   | exact LeO.none _
   | refine LeO.ite ?_ ?_
   | refine LeO.bind ?_ (fun _ => ?_)
theorem af.mono : ∀ a0 a1 a2 a3 a4 k, LeO (af.f k a0 a1 a2 a3 a4) (af.f (k + 1) a0 a1 a2 a3 a4) := by
 intro a0 a1 a2 a3 a4 k; obtain ⟨ih0, ih1, ih2, ih3, ih4⟩ := af.ig k; unfold af.f
 repeat' first
  | (with_reducible exact ih0 _ _ _ _ _ _ _ _ _)
  | (with_reducible exact ih1 _ _ _ _ _ _ _ _ _ _ _ _ _)
  | (with_reducible exact ih2 _ _ _ _ _ _ _ _ _ _ _ _ _ _ _ _ _ _ _)
  | (with_reducible exact ih3 _ _ _ _ _ _ _ _ _ _ _ _ _ _ _ _ _ _ _ _ _)
  | (with_reducible exact ih4 _ _ _ _ _ _ _ _ _ _ _ _ _ _ _ _ _ _)
  | (with_reducible exact aK.mono _ _ _ _)
  | (with_reducible exact LeO.refl _)
  | (with_reducible exact LeO.none _)
  | (with_reducible refine LeO.ite ?_ ?_)
  | (with_reducible refine LeO.bind ?_ (fun _ => ?_))
  | exact ih0 _ _ _ _ _ _ _ _ _
  | exact ih1 _ _ _ _ _ _ _ _ _ _ _ _ _
  | exact ih2 _ _ _ _ _ _ _ _ _ _ _ _ _ _ _ _ _ _ _
  | exact ih3 _ _ _ _ _ _ _ _ _ _ _ _ _ _ _ _ _ _ _ _ _
  | exact ih4 _ _ _ _ _ _ _ _ _ _ _ _ _ _ _ _ _ _
  | exact aK.mono _ _ _ _
  | exact LeO.none _
  | refine LeO.ite ?_ ?_
  | refine LeO.bind ?_ (fun _ => ?_)
end Go.Proofs.Ytihedeofkhapiaa.Pr
end
