/- Part 16 of 21 of the proof of: SightLooked: for every slice of numbers, the law returns true: of a line that one hand alone may have cut, made of them, if the letter of the square of Look is known, whichever it is, at most as many letters as said fit the other squares, and just as many for one of them, and no square before it does as well, and none does better; no condition beyond the statement's own. -/
import Derived.Sort.AssemblyPlain
import Derived.Test.YtihedeofkhapiaaSL5
import Derived.Test.YtihedeofkhapiaaSL9
set_option linter.unusedVariables false
set_option linter.unusedSimpArgs false
section
namespace Go.Proofs.Ytihedeofkhapiaa.Pr
open Go.RowKit Go.Proofs.YtihedeofkhapiaaW.PrintWords Go.Proofs.YtihedeofkhapiaaW.PrintLast Go.Proofs.YtihedeofkhapiaaW.PrintMore
theorem E9 {W : World} {base g cap : Nat} {ok : Nat → Prop} {xs : List Int} (h : Kd.R (Kd.int .u8) 5 W base ok (.slice (some ⟨g, 0, none⟩) xs.length cap) xs) : Go.Sort.Holds (Value.int .u8) W g 0 xs.toArray := fun j hj => by
 (have hj' : j < xs.length := by simpa using hj); have e := Kd.aa6 (enc := Value.int .u8) (h1 := fun _ => rfl) (0 : Int) h (j : Int) (by omega) (by omega); (have e1 : ((j : Int)).toNat = j := by omega); rw [e1] at e; (have e2 : jF (0 : Int) xs (j : Int) = xs.toArray[j]! := by simp [jF, hj', List.getD_eq_getElem?_getD]); rw [e2] at e; rw [Nat.zero_add]; exact e
theorem WQ (w0 w : World) (g cap : Nat) (P0_ : Nat → Prop) (l0 t : List Int) (hB : Below w0.heap.size w0 w) (ho : Kd.R (Kd.int .u8) 5 w w0.heap.size P0_ (.slice (some ⟨g, 0, none⟩) l0.length cap) l0) (hl : t.length = l0.length) (hP : P0_ g) (hg : w0.heap.size ≤ g) :
 ∀ i, i ≤ l0.length → Kd.R (Kd.int .u8) 5 (Go.Sort.putRow (Value.int .u8) w g 0 (t.take i ++ l0.drop i).toArray) w0.heap.size P0_ (.slice (some ⟨g, 0, none⟩) l0.length cap) (t.take i ++ l0.drop i) ∧
  Below w0.heap.size w0 (Go.Sort.putRow (Value.int .u8) w g 0 (t.take i ++ l0.drop i).toArray) ∧ Kept w (Go.Sort.putRow (Value.int .u8) w g 0 (t.take i ++ l0.drop i).toArray) P0_ := by
 intro i
 induction i with
 | zero =>
  intro _; simp only [List.take_zero, List.drop_zero, List.nil_append]; rw [Go.Sort.putRow_self _ _ _ _ _ (E9 ho)]; exact ⟨ho, hB, Kept.refl _ _⟩
 | succ i ih =>
  intro hi; obtain ⟨h1, h2, h3⟩ := ih (by omega); have hlen : i < (t.take i ++ l0.drop i).length := by simp; omega
  have es : (t.take i ++ l0.drop i).set i (t[i]'(by omega)) = t.take (i + 1) ++ l0.drop (i + 1) := by
   rw [List.set_append_right _ _ (by simp; omega), List.length_take, Nat.min_eq_left (by omega), Nat.sub_self, List.drop_eq_getElem_cons (by omega), List.set_cons_zero, ← List.take_append_getElem (by omega), List.append_assoc]; rfl
  have ea : (Go.Sort.putRow (Value.int .u8) w g 0 (t.take i ++ l0.drop i).toArray).setCell ⟨g, i, none⟩ (.int .u8 (t[i]'(by omega))) = Go.Sort.putRow (Value.int .u8) w g 0 (t.take (i + 1) ++ l0.drop (i + 1)).toArray := by
   have := Go.Sort.putRow_set (Value.int .u8) w g 0 (t.take i ++ l0.drop i).toArray i (t[i]'(by omega)) (by simpa using hlen); rw [Nat.zero_add] at this; rw [this, List.setIfInBounds_toArray, es]
  (have e1 : ((i : Int)).toNat = i := by omega); have hR := Kd.acx (enc := Value.int .u8) (h1 := fun _ => rfl) h1 (i : Int) (t[i]'(by omega)); rw [e1, es, ea] at hR; refine ⟨hR, ?_, ?_⟩
  ·rw [← ea]; exact dB h2 hg
  ·rw [← ea]; exact h3.setCell (.inl hP) _
theorem Ll (X : World) (n : Nat) : Below X.heap.size X (Go.Sort.ahead X n) := ⟨rfl, rfl, rfl, Nat.le_refl _, fun k hk => rfl⟩
set_option maxRecDepth 100000 in
set_option maxHeartbeats 4000000 in
theorem De (x : Int) (w : World) (h0 : 0 ≤ x) (h1 : x < 256) :
 Calls Try.prog 98 #[.int .u64 x] w fun e w' => ∃ t, e = .returned (.int .i64 t) ∧ w' = w := by
 have c1 : decide (4294967296 ≤ x) = false := decide_eq_false (by omega); have c2 : decide (65536 ≤ x) = false := decide_eq_false (by omega); have c3 : decide (256 ≤ x) = false := decide_eq_false (by omega); go_enter Try.func98, Try.ntmps98; go_wp2; all_goals first | omega | skip
 go_ret
 exact ⟨_, rfl, rfl⟩
theorem aaR (zs : List Int) (hl : zs.length ≤ 12) : Go.Sort.insertionSort Go.Sort.ltInt zs.toArray 0 zs.length = (zs.mergeSort fun x y => decide (x ≤ y)).toArray := by
 (have h : Go.Sort.sort Go.Sort.ltInt zs.toArray = (zs.mergeSort fun x y => decide (x ≤ y)).toArray := by rw [← Go.Sort.sortInt zs]); rw [← h, Go.Sort.sort, Go.Sort.pdq, if_pos (by simpa using hl)]; simp
set_option maxRecDepth 100000 in
set_option maxHeartbeats 4000000 in
theorem Qi (g cap : Nat) (d : Array Int) (a3 : Int) (w : World) (hH : Go.Sort.Holds (Value.int .u8) w g 0 d) (hl : d.size ≤ 12) :
 Calls Try.prog 85 #[.slice (some ⟨g, 0, none⟩) d.size cap, .int .i64 0, .int .i64 d.size, .int .i64 a3] w fun e w' => e = .returned (.tuple #[]) ∧ ∃ n, w' = Go.Sort.putRow (Value.int .u8) (Go.Sort.ahead w n) g 0 (Go.Sort.insertionSort Go.Sort.ltInt d 0 d.size) := by
 have HH := aa.mk hH; (have hz : wrap64 ((d.size : Int) - 0) = (d.size : Int) := by rw [Int.sub_zero]; unfold wrap64; omega); have hd : decide ((d.size : Int) ≤ 12) = true := decide_eq_true (by omega); have hd2 : decide (d.size ≤ 12) = true := decide_eq_true hl; have H88 := aa.mk (Srt.So.insertionSort_int g 0 cap 0 d.size d w hH (Nat.zero_le _) (Nat.le_refl _) (by omega)); clear hH; go_enter Try.func85, Try.ntmps85; go_wp2; (go_loopg [1, 2] (0 : Nat) (fun kq v1 v2 w' => v1 = .int .i64 0 ∧ v2 = .int .i64 d.size ∧ w' = w)); case atStart => exact ⟨rfl, rfl, rfl⟩
 case round =>
  obtain ⟨rfl, rfl, rfl⟩ := hrel; (go_wp2_with (go_at_call 88; refine H88.out.mono ?_; rintro e w' ⟨rfl, q⟩)); (first | go_end0 | ((try simp only [Exit.inBlock, Exit.then]); refine bodyPost_ret (results_none rfl _ _ _) rfl ?_)); exact ⟨rfl, q⟩
set_option maxRecDepth 100000 in
set_option maxHeartbeats 4000000 in
theorem MJ (g cap : Nat) (d : Array Int) (w : World) (hH : Go.Sort.Holds (Value.int .u8) w g 0 d) (hl : d.size ≤ 12) :
 Calls Try.prog 79 #[.slice (some ⟨g, 0, none⟩) d.size cap] w fun e w' => e = .returned (.tuple #[]) ∧ ∃ n, w' = Go.Sort.putRow (Value.int .u8) (Go.Sort.ahead w n) g 0 (Go.Sort.insertionSort Go.Sort.ltInt d 0 d.size) := by
 have HH := aa.mk hH; clear hH; go_enter Try.func79, Try.ntmps79; (go_wp2_with (first | (go_at_call 98; refine (De _ _ (by omega) (by omega)).mono ?_; rintro e w' ⟨t, rfl, rfl⟩) | (go_at_call 85; refine (Qi g cap d _ _ HH.out hl).mono ?_; rintro e w' ⟨rfl, q⟩) | go_in)); (first | go_end0 | ((try simp only [Exit.inBlock, Exit.then]); refine bodyPost_ret (results_none rfl _ _ _) rfl ?_)); exact ⟨rfl, q⟩
theorem VR (p : Option Addr) (cap : Nat) (w : World) :
 Calls Try.prog 88 #[.slice p 0 cap, .int .i64 0, .int .i64 0] w fun e w' => e = .returned (.tuple #[]) ∧ w' = w := by
 go_enter Try.func88, Try.ntmps88; go_wp2; refine wp_loop_rounds 1 ?_; rw [rounds_succ]; go_wp2
 go_end0
 exact ⟨rfl, rfl⟩
set_option maxRecDepth 100000 in
set_option maxHeartbeats 4000000 in
theorem VU (p : Option Addr) (cap : Nat) (a3 : Int) (w : World) :
 Calls Try.prog 85 #[.slice p 0 cap, .int .i64 0, .int .i64 0, .int .i64 a3] w fun e w' => e = .returned (.tuple #[]) ∧ w' = w := by
 go_enter Try.func85, Try.ntmps85; go_wp2; (go_loopg [1, 2] (0 : Nat) (fun kq v1 v2 w' => v1 = .int .i64 0 ∧ v2 = .int .i64 0 ∧ w' = w)); case atStart => exact ⟨rfl, rfl, rfl⟩
 case round =>
  obtain ⟨rfl, rfl, rfl⟩ := hrel; (go_wp2_with (go_at_call 88; refine (VR _ _ _).mono ?_; rintro e w' ⟨rfl, rfl⟩)); (first | go_end0 | ((try simp only [Exit.inBlock, Exit.then]); refine bodyPost_ret (results_none rfl _ _ _) rfl ?_)); exact ⟨rfl, rfl⟩
set_option maxRecDepth 100000 in
set_option maxHeartbeats 4000000 in
theorem Sc (p : Option Addr) (cap : Nat) (w : World) :
 Calls Try.prog 79 #[.slice p 0 cap] w fun e w' => e = .returned (.tuple #[]) ∧ w' = w := by
 go_enter Try.func79, Try.ntmps79; (go_wp2_with (first | (go_at_call 98; refine (De _ _ (by omega) (by omega)).mono ?_; rintro e w' ⟨t, rfl, rfl⟩) | (go_at_call 85; refine (VU _ _ _ _).mono ?_; rintro e w' ⟨rfl, rfl⟩) | go_in)); (first | go_end0 | ((try simp only [Exit.inBlock, Exit.then]); refine bodyPost_ret (results_none rfl _ _ _) rfl ?_)); exact ⟨rfl, rfl⟩
theorem MF (P0_ : Nat → Prop) (u9000_ : Value) (l0 t : List Int) (w0 w : World) (hB : Below w0.heap.size w0 w) (ho0 : Kd.R (Kd.int .u8) 5 w w0.heap.size P0_ u9000_ l0) (hl : l0.length ≤ 12) (ht : t.Pairwise (· ≤ ·)) (hp : t.Perm l0) :
 Calls Try.prog 79 #[u9000_] w fun e w' => e = .returned (.tuple #[]) ∧ Kd.R (Kd.int .u8) 5 w' w0.heap.size (fun k_ => (P0_ k_ ∨ w.heap.size ≤ k_)) u9000_ t ∧ Below w0.heap.size w0 w' ∧ Kept w w' (fun k_ => P0_ k_) := by
 by_cases h0 : 0 < l0.length
 ·obtain ⟨g, cap, rfl, hg, hlt, cells, hcells⟩ := Kd.SV ho0 h0; have hP : P0_ g := ho0.1 g (by simp [Value.ownBlock])
  have hm : l0.mergeSort (fun x y => decide (x ≤ y)) = t := by
   refine List.Perm.eq_of_pairwise (le := (· ≤ ·)) (fun a b _ _ h1 h2 => Int.le_antisymm h1 h2) ?_ ht ((List.mergeSort_perm _ _).trans hp.symm); have := List.pairwise_mergeSort (le := fun x y : Int => decide (x ≤ y)) (fun a b c h1 h2 => by simp only [decide_eq_true_eq] at *; omega) (fun a b => by simp only [Bool.or_eq_true, decide_eq_true_eq]; omega) l0; exact this.imp (fun h => of_decide_eq_true h)
  have hc := MJ g cap l0.toArray w (E9 ho0) (by simpa using hl); rw [List.size_toArray] at hc; refine hc.mono ?_; rintro e w' ⟨rfl, n, rfl⟩; rw [aaR l0 hl, hm, Go.Sort.putRow_ahead]; obtain ⟨h1, h2, h3⟩ := WQ w0 w g cap P0_ l0 t hB ho0 hp.length_eq hP hg l0.length (Nat.le_refl _); (have e1 : t.take l0.length ++ l0.drop l0.length = t := by rw [List.drop_length, List.append_nil, List.take_of_length_le (by rw [hp.length_eq]; exact Nat.le_refl _)]); rw [e1] at h1 h2 h3; have hb := Ll (Go.Sort.putRow (Value.int .u8) w g 0 t.toArray) n; refine ⟨rfl, Kd.dC (Kd.fE h1 hb) (fun k hk => .inl hk), aM h2 hb, h3.below hb⟩
 ·obtain ⟨A, c, rfl⟩ := Kd.fZ ho0; have hz : l0 = [] := List.eq_nil_of_length_eq_zero (by omega); subst hz; have htz : t = [] := hp.eq_nil; subst htz; refine (Sc A c w).mono ?_; rintro e w' ⟨rfl, rfl⟩; exact ⟨rfl, Kd.dC ho0 (fun k hk => .inl hk), hB, Kept.refl _ _⟩
end Go.Proofs.Ytihedeofkhapiaa.Pr
end
