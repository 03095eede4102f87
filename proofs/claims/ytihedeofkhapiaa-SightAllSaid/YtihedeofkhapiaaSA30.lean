/- Part 30 of 34 of the proof of: SightAll: for every slice of numbers, the law returns true: of a slim line made of them, the letters and hands that the program tells are just those of the truths found by going through all choices, and its marks are the fewest of any truth; no condition beyond the statement's own. -/
import Derived.Test.YtihedeofkhapiaaSA21
import Derived.Test.YtihedeofkhapiaaSA24
set_option linter.unusedVariables false
set_option linter.unusedSimpArgs false
section
namespace Go.Proofs.Ytihedeofkhapiaa.Pr
open Go.RowKit Go.Proofs.YtihedeofkhapiaaW.PrintWords Go.Proofs.YtihedeofkhapiaaW.PrintLast Go.Proofs.YtihedeofkhapiaaW.PrintMore
theorem wU {W : World} {base g cap : Nat} {ok : Nat → Prop} {xs : List Int} (h : Kd.R (Kd.int .u8) 5 W base ok (.slice (some ⟨g, 0, none⟩) xs.length cap) xs) : Go.Sort.Holds (Value.int .u8) W g 0 xs.toArray := fun j hj => by
 (have hj' : j < xs.length := by simpa using hj); have e := Kd.OB (enc := Value.int .u8) (h1 := fun _ => rfl) (0 : Int) h (j : Int) (by omega) (by omega); (have e1 : ((j : Int)).toNat = j := by omega); rw [e1] at e; (have e2 : fM (0 : Int) xs (j : Int) = xs.toArray[j]! := by simp [fM, hj', List.getD_eq_getElem?_getD]); rw [e2] at e; rw [Nat.zero_add]; exact e
theorem KM (w0 w : World) (g cap : Nat) (P0_ : Nat → Prop) (l0 t : List Int) (hB : Below w0.heap.size w0 w) (ho : Kd.R (Kd.int .u8) 5 w w0.heap.size P0_ (.slice (some ⟨g, 0, none⟩) l0.length cap) l0) (hl : t.length = l0.length) (hP : P0_ g) (hg : w0.heap.size ≤ g) :
 ∀ i, i ≤ l0.length → Kd.R (Kd.int .u8) 5 (Go.Sort.putRow (Value.int .u8) w g 0 (t.take i ++ l0.drop i).toArray) w0.heap.size P0_ (.slice (some ⟨g, 0, none⟩) l0.length cap) (t.take i ++ l0.drop i) ∧
  Below w0.heap.size w0 (Go.Sort.putRow (Value.int .u8) w g 0 (t.take i ++ l0.drop i).toArray) ∧ Kept w (Go.Sort.putRow (Value.int .u8) w g 0 (t.take i ++ l0.drop i).toArray) P0_ := by
 intro i
 induction i with
 | zero =>
  intro _; simp only [List.take_zero, List.drop_zero, List.nil_append]; rw [Go.Sort.putRow_self _ _ _ _ _ (wU ho)]; exact ⟨ho, hB, Kept.refl _ _⟩
 | succ i ih =>
  intro hi; obtain ⟨h1, h2, h3⟩ := ih (by omega); have hlen : i < (t.take i ++ l0.drop i).length := by simp; omega
  have es : (t.take i ++ l0.drop i).set i (t[i]'(by omega)) = t.take (i + 1) ++ l0.drop (i + 1) := by
   rw [List.set_append_right _ _ (by simp; omega), List.length_take, Nat.min_eq_left (by omega), Nat.sub_self, List.drop_eq_getElem_cons (by omega), List.set_cons_zero, ← List.take_append_getElem (by omega), List.append_assoc]; rfl
  have ea : (Go.Sort.putRow (Value.int .u8) w g 0 (t.take i ++ l0.drop i).toArray).setCell ⟨g, i, none⟩ (.int .u8 (t[i]'(by omega))) = Go.Sort.putRow (Value.int .u8) w g 0 (t.take (i + 1) ++ l0.drop (i + 1)).toArray := by
   have := Go.Sort.putRow_set (Value.int .u8) w g 0 (t.take i ++ l0.drop i).toArray i (t[i]'(by omega)) (by simpa using hlen); rw [Nat.zero_add] at this; rw [this, List.setIfInBounds_toArray, es]
  (have e1 : ((i : Int)).toNat = i := by omega); have hR := Kd.Px (enc := Value.int .u8) (h1 := fun _ => rfl) h1 (i : Int) (t[i]'(by omega)); rw [e1, es, ea] at hR; refine ⟨hR, ?_, ?_⟩
  ·rw [← ea]; exact bK h2 hg
  ·rw [← ea]; exact h3.setCell (.inl hP) _
theorem below_grow (X : World) (n : Nat) (os : Array Obj) : Below X.heap.size X (Go.Sort.grow (Go.Sort.ahead X n) os) :=
 ⟨rfl, rfl, rfl, by simp [Go.Sort.grow], fun k hk => Go.Sort.heap_grow_old _ _ hk⟩
theorem Ja (P0_ : Nat → Prop) (u9000_ : Value) (l0 t : List Int) (w0 w : World) (hB : Below w0.heap.size w0 w) (ho0 : Kd.R (Kd.int .u8) 5 w w0.heap.size P0_ u9000_ l0) (hl : l0.length ≤ 1000) (ht : t.Pairwise (· ≤ ·)) (hp : t.Perm l0) :
 Calls Try.prog 79 #[u9000_] w fun e w' => e = .returned (.tuple #[]) ∧ Kd.R (Kd.int .u8) 5 w' w0.heap.size (fun k_ => (P0_ k_ ∨ w.heap.size ≤ k_)) u9000_ t ∧ Below w0.heap.size w0 w' ∧ Kept w w' (fun k_ => P0_ k_) := by
 by_cases h0 : 0 < l0.length
 ·obtain ⟨g, cap, rfl, hg, hlt, cells, hcells⟩ := Kd.wN ho0 h0; have hP : P0_ g := ho0.1 g (by simp [Value.ownBlock])
  have hm : l0.mergeSort (fun x y => decide (x ≤ y)) = t := by
   refine List.Perm.eq_of_pairwise (le := (· ≤ ·)) (fun a b _ _ h1 h2 => Int.le_antisymm h1 h2) ?_ ht ((List.mergeSort_perm _ _).trans hp.symm); have := List.pairwise_mergeSort (le := fun x y : Int => decide (x ≤ y)) (fun a b c h1 h2 => by simp only [decide_eq_true_eq] at *; omega) (fun a b => by simp only [Bool.or_eq_true, decide_eq_true_eq]; omega) l0; exact this.imp (fun h => of_decide_eq_true h)
  refine (Srt.Ce g 0 cap l0 w (wU ho0) hlt (by omega)).mono ?_; rintro e w' ⟨rfl, n, os, rfl⟩; rw [hm, Go.Sort.putRow_ahead]; obtain ⟨h1, h2, h3⟩ := KM w0 w g cap P0_ l0 t hB ho0 hp.length_eq hP hg l0.length (Nat.le_refl _); (have e1 : t.take l0.length ++ l0.drop l0.length = t := by rw [List.drop_length, List.append_nil, List.take_of_length_le (by rw [hp.length_eq]; exact Nat.le_refl _)]); rw [e1] at h1 h2 h3; have hb := below_grow (Go.Sort.putRow (Value.int .u8) w g 0 t.toArray) n os; refine ⟨rfl, Kd.dV (Kd.bZ h1 hb) (fun k hk => .inl hk), az h2 hb, h3.below hb⟩
 ·obtain ⟨A, c, rfl⟩ := Kd.dB ho0; have hz : l0 = [] := List.eq_nil_of_length_eq_zero (by omega); subst hz; have htz : t = [] := hp.eq_nil; subst htz; refine (Srt.So.Sort_int_nil A c w).mono ?_; rintro e w' ⟨rfl, rfl⟩; exact ⟨rfl, Kd.dV ho0 (fun k hk => .inl hk), hB, Kept.refl _ _⟩
end Go.Proofs.Ytihedeofkhapiaa.Pr
end
