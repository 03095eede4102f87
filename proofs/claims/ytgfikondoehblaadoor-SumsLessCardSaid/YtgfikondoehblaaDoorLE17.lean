/- Part 17 of 21 of the proof of: SumsLess: for every slice of numbers, the law returns true: without the entries that Struck names an account made of them adds up, and without fewer ones, or as many that come before, it does not; no condition beyond the statement's own. -/
import Derived.Maps.OwnIn
import Derived.Maps.RangeWalk
import Derived.Sort.OwnSortedInts
import Derived.Test.YtgfikondoehblaaDoorLE16
set_option linter.unusedVariables false
set_option linter.unusedSimpArgs false
set_option linter.unusedSectionVars false
section
namespace Go.Proofs.YtgfikondoehblaaDoor.Pr
open Go.RowKit Go.Shelf Go.Proofs.YtgfikondoehblaaDoorW.PrintWords Go.Proofs.YtgfikondoehblaaDoorW.PrintLast Go.Proofs.YtgfikondoehblaaDoorW.PrintMore Go.Proofs.SumKeep
open SumPlain (valuesP nextP May Ent readingsP columnP)
def colS (X : List (List Int)) (i : Nat) (x : Int) : Bool := X.any fun r => r.getD i (-1) == x
theorem colS_snoc (X : List (List Int)) (r : List Int) (i : Nat) (x : Int) : colS (X ++ [r]) i x = (colS X i x || x == r.getD i (-1)) := by
  unfold colS
  rw [List.any_append]
  simp only [List.any_cons, List.any_nil, Bool.or_false]
  rw [BEq.comm (a := x)]
def MapI (W : World) (b : Nat) (S : Int → Bool) (N : Nat) : Prop := ∃ (D : DataW Unit) (nn : Nat), W.ownsMap Tryd.prog 3 (plainElem Tryd.prog 4) b nn D ∧ nn ≤ N ∧ ∀ c, Maps.has D (.int .i64 c) = S c
theorem MapI.move {W W' : World} {b : Nat} {S : Int → Bool} {N : Nat} (h : MapI W b S N) (hb : W'.heap[b]? = W.heap[b]?) : MapI W' b S N := by
  obtain ⟨D, nn, ⟨es, cl, h1, h2⟩, h3⟩ := h
  exact ⟨D, nn, ⟨es, cl, hb.trans h1, h2⟩, h3⟩
theorem MapI.lt {W : World} {b : Nat} {S : Int → Bool} {N : Nat} (h : MapI W b S N) : b < W.heap.size := by
  obtain ⟨D, nn, h1, h2⟩ := h
  exact h1.lt
theorem MapI.more {W : World} {b : Nat} {S : Int → Bool} {N N' : Nat} (h : MapI W b S N) (hn : N ≤ N') : MapI W b S N' := by
  obtain ⟨D, nn, h1, h2, h3⟩ := h
  exact ⟨D, nn, h1, Nat.le_trans h2 hn, h3⟩
theorem MapI.put {D : DataW Unit} {W : World} {b nn N : Nat} {S : Int → Bool} {c : Int} {D0 : DataW Unit} (h : W.ownsMap Tryd.prog 3 (plainElem Tryd.prog 4) b nn (D0.put (.int .i64 c) D)) (hD : Maps.IsMap D0) (hn : nn ≤ N) (hs : ∀ c, Maps.has D0 (.int .i64 c) = S c) : MapI W b (fun x => S x || x == c) N := by
  refine ⟨_, nn, h, hn, fun x => ?_⟩
  by_cases hx : x = c
  · subst hx
    rw [Maps.has_put_same (k := .int .i64 x) hD trivial]
    simp
  · rw [Maps.has_put_other (by simpa using hx), hs x]
    simp [hx]
theorem MapI.congr {W : World} {b N : Nat} {S S' : Int → Bool} (h : MapI W b S N) (he : ∀ c, S c = S' c) : MapI W b S' N := by
  obtain ⟨D, nn, h1, h2, h3⟩ := h
  exact ⟨D, nn, h1, h2, fun c => (h3 c).trans (he c)⟩
theorem MapI.made (w : World) : MapI (w.alloc (.map #[] 0)) w.heap.size (fun _ => false) 0 := ⟨_, _, World.ownsMap_made w _ _ _, Nat.le_refl _, fun c => rfl⟩

structure ChoAt (g n : Nat) (s : Bool) (S : Nat → Int → Bool) (N : Nat → Nat) (W : World) : Prop where
  rows : ∃ vs : Array Value, vs.size = n ∧ W.heap[g]? = some (.cells vs 83 (0, 0)) ∧ ∀ i, i < n → vs[i]? = some (.map (some (g + 2 + i)))
  box : W.heap[g + 1]? = some (.cells #[.slice (some ⟨g, 0, none⟩) n n] 82 (0, 0))
  sm : W.heap[g + 2 + n]? = some (.cells #[.bool s] 4 (0, 0))
  maps : ∀ i, i < n → MapI W (g + 2 + i) (S i) (N i)
abbrev ChoB (g n : Nat) : Nat → Prop := fun k => g ≤ k ∧ k ≤ g + 2 + n
theorem ChoAt.keep {g n : Nat} {s : Bool} {S : Nat → Int → Bool} {N : Nat → Nat} {W W' : World} (h : ChoAt g n s S N W) (hk : ∀ k, ChoB g n k → W'.heap[k]? = W.heap[k]?) : ChoAt g n s S N W' := by
  obtain ⟨vs, h1, h2, h3⟩ := h.rows
  exact ⟨⟨vs, h1, (hk g ⟨by omega, by omega⟩).trans h2, h3⟩, (hk _ ⟨by omega, by omega⟩).trans h.box, (hk _ ⟨by omega, by omega⟩).trans h.sm, fun i hi => (h.maps i hi).move (hk _ ⟨by omega, by omega⟩)⟩
theorem ChoAt.lt {g n : Nat} {s : Bool} {S : Nat → Int → Bool} {N : Nat → Nat} {W : World} (h : ChoAt g n s S N W) {k : Nat} (hk : ChoB g n k) : k < W.heap.size := by
  have := blk_lt h.sm
  have := hk.2
  omega
theorem ChoAt.congr {g n : Nat} {s : Bool} {S S' : Nat → Int → Bool} {N N' : Nat → Nat} {W : World} (h : ChoAt g n s S N W) (hS : ∀ i, i < n → ∀ c, S i c = S' i c) (hN : ∀ i, i < n → N i ≤ N' i) : ChoAt g n s S' N' W :=
  ⟨h.rows, h.box, h.sm, fun i hi => ((h.maps i hi).congr (hS i hi)).more (hN i hi)⟩
theorem ChoAt.turn {g n : Nat} {s : Bool} {S : Nat → Int → Bool} {N : Nat → Nat} {W W' : World} (h : ChoAt g n s S N W) {i : Nat} (hi : i < n) (hg : W.grownBy W' (some (g + 2 + i))) {S' : Int → Bool} {N' : Nat} (hm : MapI W' (g + 2 + i) S' N') :
    ChoAt g n s (fun k => if k = i then S' else S k) (fun k => if k = i then N' else N k) W' := by
  have hk : ∀ k, ChoB g n k → k ≠ g + 2 + i → W'.heap[k]? = W.heap[k]? := fun k hk hne => hg.block k (h.lt hk) (fun e => hne (by injection e))
  obtain ⟨vs, h1, h2, h3⟩ := h.rows
  refine ⟨⟨vs, h1, (hk g ⟨by omega, by omega⟩ (by omega)).trans h2, h3⟩, (hk _ ⟨by omega, by omega⟩ (by omega)).trans h.box, (hk _ ⟨by omega, by omega⟩ (by omega)).trans h.sm, fun j hj => ?_⟩
  by_cases hji : j = i
  · subst hji
    rw [if_pos rfl, if_pos rfl]
    exact hm
  · rw [if_neg hji, if_neg hji]
    exact (h.maps j hj).move (hk _ ⟨by omega, by omega⟩ (by omega))
theorem ChoAt.set {g n : Nat} {s : Bool} {S : Nat → Int → Bool} {N : Nat → Nat} {W : World} (h : ChoAt g n s S N W) (b : Bool) : ChoAt g n b S N (W.setCell ⟨g + 2 + n, 0, none⟩ (.bool b)) := by
  obtain ⟨vs, h1, h2, h3⟩ := h.rows
  refine ⟨⟨vs, h1, blk_far h2 (by simp; omega) _, h3⟩, blk_far h.box (by simp; omega) _, blk_set h.sm 0 _, fun j hj => (h.maps j hj).move ?_⟩
  exact Below.heap_setCell _ _ _ _ (by simp; omega)
theorem ChoAt.row_cell {g n : Nat} {s : Bool} {S : Nat → Int → Bool} {N : Nat → Nat} {W : World} (h : ChoAt g n s S N W) {i : Nat} (hi : i < n) : W.cell? ⟨g, i, none⟩ = some (.map (some (g + 2 + i))) := by
  obtain ⟨vs, h1, h2, h3⟩ := h.rows
  exact (blk_cell h2 i).trans (h3 i hi)

def ChoInv (g n : Nat) (O : Nat → Prop) (X : List (List Int)) (W : World) : Prop := (∀ k, O k ↔ ChoB g n k) ∧ ChoAt g n (!X.isEmpty) (colS X) (fun _ => X.length) W
theorem choInv_ok (g n : Nat) : InvOk (ChoInv g n) where
  keep := fun O X w w' h ht => ⟨h.1, h.2.keep fun k hk => ht.block k (h.2.lt hk) (fun hn => hn ((h.1 k).2 hk))⟩
  lt := fun O X w h k hk => h.2.lt ((h.1 k).1 hk)

theorem key_i64 {x : Int} (hx : 0 ≤ x ∧ x ≤ 9223372036854775807) : keyOf Tryd.prog 3 (.int .i64 x) = some (.int .i64 x) := by
  have hwf : (Lit.int .i64 x).wf = true := by
    have e1 : IntKind.i64.min = -9223372036854775808 := rfl
    have e2 : IntKind.i64.max = 9223372036854775807 := rfl
    simp only [Lit.wf, e1, e2]
    simp
    omega
  exact Maps.keyOf_int_mk Tryd.underlying3 hwf
set_option maxRecDepth 100000 in
set_option maxHeartbeats 4000000 in
theorem choices1_calls (g n : Nat) (X : List (List Int)) (r : List Int) (hn : 1 ≤ n ∧ n ≤ 8) (hr : r.length = n) (hX : X.length ≤ 9223372036854775805) (s : Bool) (w : World) (v : Value) (m0 : Nat) (hv : OwnInts w m0 v r) (hvO : ∀ k, v.ownBlock = some k → ¬ ChoB g n k)
    (hC : ChoAt g n s (colS X) (fun _ => X.length) w) (h64 : ∀ i, i < n → 0 ≤ r.getD i (-1) ∧ r.getD i (-1) ≤ 9223372036854775807) :
    Calls Tryd.prog 55 #[v, .pointer (some ⟨g + 2 + n, 0, none⟩), .pointer (some ⟨g + 1, 0, none⟩)] w fun e w' => e = .returned (.tuple #[]) ∧ ChoAt g n true (colS (X ++ [r])) (fun _ => X.length + 1) w' ∧ Turns (ChoB g n) w w' := by
  rcases own_shape hv with ⟨h1, h2⟩ | ⟨gr, cap, rfl, hg1, hg2, hcap1, hcap2, hcells⟩
  · rw [h2] at hr
    simp at hr
    omega
  have HN := Aside0.mk hn
  have HX := Aside0.mk hX
  have HGR := Aside0.mk (hvO gr rfl)
  have H64 := Aside0.mk h64
  have HC0 := Aside0.mk hC
  have HCL := Aside0.mk (show ∀ W : World, Turns (ChoB g n) w W → ∀ j, j < n → W.cell? ⟨gr, j, none⟩ = some (.int .i64 (r.getD j (-1))) from fun W ht j hj => by
    have e : r.getD j (-1) = r.getD j 0 := by rw [List.getD_eq_getElem?_getD, List.getD_eq_getElem?_getD, List.getElem?_eq_getElem (by omega)]; rfl
    rw [e]
    exact ht.cell (hcells j (by omega)) (hvO gr rfl))
  have hcs : w.cell? ⟨g + 2 + n, 0, none⟩ = some (.bool s) := (blk_cell hC.sm 0).trans rfl
  have hfs := blk_frozen hC.sm 0
  have hls : g + 2 + n < w.heap.size := blk_lt hC.sm
  rw [hr]
  clear hn hX hvO hC h64 hv hg1 hg2 hcap1 hcap2 hcells hr
  go_enter Tryd.func55, Tryd.ntmps55
  go_upto_region 1 with (fail)
  obtain ⟨W1, hW1⟩ : ∃ W1, W1 = w.setCell ⟨g + 2 + n, 0, none⟩ (.bool true) := ⟨_, rfl⟩
  have HC1 := Aside0.mk (show ChoAt g n true (colS X) (fun _ => X.length) W1 by rw [hW1]; exact HC0.out.set true)
  have HT1 := Aside0.mk (show Turns (ChoB g n) w W1 by rw [hW1]; exact (Turns.refl _ _).setCell _ _ (fun _ => ⟨by simp; omega, by simp⟩))
  rw [← hW1]
  clear hW1 hcs hfs hls HC0
  go_wp2_with (fail)
  go_loopw [4, 5, 8, 9, 10, 11, 12, 13, 14, 15, 16, 17, 18] (fun _ _ jv _ _ _ _ _ _ _ _ _ _ wr => ∃ j : Nat, j ≤ n ∧ jv = .int .i64 (j : Int) ∧ Aside0 (ChoAt g n true (fun k => if k < j then colS (X ++ [r]) k else colS X k) (fun k => if k < j then X.length + 1 else X.length) wr) ∧ Aside0 (Turns (ChoB g n) w wr))
    (fun _ _ jv _ _ _ _ _ _ _ _ _ _ _ => n - (intOf jv).toNat)
  case atStart => exact ⟨0, Nat.zero_le _, rfl, ⟨HC1.out.congr (fun i _ c => by simp) (fun i _ => by simp)⟩, HT1⟩
  case round =>
    clear HC1 HT1
    obtain ⟨j, hj, rfl, HC, HT⟩ := hrel
    by_cases hlt : j < n
    · have hd : decide ((j : Int) < (n : Int)) = true := by simp; omega
      have hdn : decide (j < n) = true := by simp; omega
      have hj0 : (0 : Int) ≤ (j : Int) := by omega
      have hj1 : (j : Int) < (n : Int) := by omega
      have HLT := Aside0.mk hlt
      obtain ⟨x, hx⟩ : ∃ x, x = r.getD j (-1) := ⟨_, rfl⟩
      have h1 := HCL.out wr HT.out j hlt
      rw [← hx] at h1
      have h2 : wr.cell? ⟨g + 1, 0, none⟩ = some (.slice (some ⟨g, 0, none⟩) n n) := (blk_cell HC.out.box 0).trans rfl
      have h3 := HC.out.row_cell hlt
      obtain ⟨D, nn, hown, hnn, hhas⟩ := HC.out.maps j hlt
      rw [if_neg (Nat.lt_irrefl _)] at hhas hnn
      have HOWN := Aside0.mk hown
      have HNN := Aside0.mk hnn
      have HHAS := Aside0.mk hhas
      have HXE := Aside0.mk hx
      have HKEY := Aside0.mk (key_i64 (x := x) (by rw [hx]; exact H64.out j hlt))
      clear hown hnn hhas hx hj hlt
      go_wp2_with (at_mapUpdate; refine wpList_mapUpdate_own _ rfl _ _ _ 83 rfl 3 4 (Maps.int_keyed Tryd.underlying3) Tryd.underlying83 (plainElem Tryd.prog 4) (g + 2 + j) nn D rfl HOWN.out (by have := HNN.out; have := HX.out; unfold maxLen; omega) (.int .i64 x) (.bool true) (.int .i64 x) rfl rfl HKEY.out (.lit (.bool true)) [] (plainElem_bool Tryd.underlying4 true) ?_; intro w6 r1 r2; have R1 := Aside0.mk r1; have R2 := Aside0.mk r2; clear r1 r2)
      go_roundw
      case rel =>
        refine ⟨j + 1, HLT.out, by rw [w_up HLT.out (by have := HN.out; omega)], ⟨(HC.out.turn HLT.out R2.out (MapI.put R1.out HOWN.out.isMap (show nn + 1 ≤ X.length + 1 by have := HNN.out; omega) HHAS.out)).congr (fun i _ c => ?_) (fun i _ => ?_)⟩, ⟨HT.out.trans (Turns.of_grown R2.out (fun k hk => by injection hk with hk; have := HLT.out; exact ⟨by omega, by omega⟩))⟩⟩
        · by_cases hij : i = j
          · subst hij
            rw [if_pos rfl, if_pos (Nat.lt_succ_self _), colS_snoc, ← HXE.out]
          · rw [if_neg hij]
            by_cases hlt : i < j
            · rw [if_pos hlt, if_pos (by omega)]
            · rw [if_neg hlt, if_neg (by omega)]
        · by_cases hij : i = j
          · subst hij
            rw [if_pos rfl, if_pos (Nat.lt_succ_self _)]
            exact Nat.le_refl _
          · rw [if_neg hij]
            by_cases hlt : i < j
            · rw [if_pos hlt, if_pos (by omega)]
              exact Nat.le_refl _
            · rw [if_neg hlt, if_neg (by omega)]
              exact Nat.le_refl _
      case measure => exact meas_up HLT.out (by have := HN.out; omega)
    · obtain rfl : j = n := by omega
      have hd : decide ((j : Int) < (j : Int)) = false := by simp
      have hdn : decide (j < j) = false := by simp
      clear hj hlt
      go_wp2_with (fail)
      go_end0
      exact ⟨rfl, HC.out.congr (fun i hi c => by rw [if_pos hi]) (fun i hi => by rw [if_pos hi]; exact Nat.le_refl _), HT.out⟩
end Go.Proofs.YtgfikondoehblaaDoor.Pr
end
