/- Part 18 of 21 of the proof of: SumsLess: for every slice of numbers, the law returns true: without the entries that Struck names an account made of them adds up, and without fewer ones, or as many that come before, it does not; no condition beyond the statement's own. -/
import Derived.Tactics2
import Derived.Defers
import Derived.Recover
import Derived.Laws.Pointers
import Derived.Test.YtgfikondoehblaaDoorLE1
import Derived.Test.YtgfikondoehblaaDoorLE16
set_option linter.unusedVariables false
set_option linter.unusedSimpArgs false
set_option linter.unusedSectionVars false
section
namespace Go.Proofs.YtgfikondoehblaaDoor.Pr
open Go.RowKit Go.Shelf Go.Proofs.YtgfikondoehblaaDoorW.PrintWords Go.Proofs.YtgfikondoehblaaDoorW.PrintLast Go.Proofs.YtgfikondoehblaaDoorW.PrintMore Go.Proofs.SumKeep
open SumPlain (valuesP nextP May Ent readingsP)
def fullV : Value := .iface 114 (.agg #[])
set_option maxRecDepth 100000 in
set_option maxHeartbeats 4000000 in
theorem catch_full (older : List PanicEntry) (w : World) :
    CallsD Tryd.prog 84 #[] (.panicking ({ v := fullV, recovered := false } :: older)) w fun e u' w' =>
      e = .returned (.tuple #[]) ∧ u' = .panicking ({ v := fullV, recovered := true } :: older) ∧ Below w.heap.size w w' := by
  unfold fullV
  have hg : ∀ w : World, (eqGuard BinOp.neq 20 (Operand.tmp 4) (Operand.const Value.nilIface) (.iface 114 (.agg #[])) Value.nilIface).run Tryd.prog w = .ok () w := fun _ => by kernel_rfl
  have hq : ∀ w : World, (binOp BinOp.neq 20 (.iface 114 (.agg #[])) Value.nilIface).run Tryd.prog w = .ok (.bool true) w := fun _ => by kernel_rfl
  have hty : ∀ w : World, (Instr.typeAssert (.iface 114 (.agg #[])) 20 114 true).run Tryd.prog w = .ok (.tuple #[.agg #[], .bool true]) w := fun _ => by kernel_rfl
  refine callsD_of_wpS Tryd.func84 rfl fun c₀ cs hu => ?_
  apply wpS_seq
  apply wpS_region
  simp [wpOpsS, go_sem, recoverD, hu, Tryd.ntmps84, Exit.thenS]
  refine wpS_of_wp ?_
  simp only [Array.replicate_succ, Array.replicate_zero, List.push_toArray, List.nil_append, List.cons_append, List.setIfInBounds_toArray, List.set_cons_zero, List.set_cons_succ]
  go_wp2
  exact ⟨rfl, _, rfl, _, results_none rfl _ _ _, rfl, rfl, below_alloc (Below.refl _ _) _⟩
set_option maxRecDepth 100000 in
set_option maxHeartbeats 4000000 in
theorem catch_idle (w : World) :
    CallsD Tryd.prog 84 #[] .returning w fun e u' w' => e = .returned (.tuple #[]) ∧ u' = .returning ∧ w' = w := by
  have hg : ∀ w : World, (eqGuard BinOp.neq 20 (Operand.tmp 4) (Operand.const Value.nilIface) Value.nilIface Value.nilIface).run Tryd.prog w = .ok () w := fun _ => by kernel_rfl
  have hq : ∀ w : World, (binOp BinOp.neq 20 Value.nilIface Value.nilIface).run Tryd.prog w = .ok (.bool false) w := fun _ => by kernel_rfl
  refine callsD_of_wpS Tryd.func84 rfl fun c₀ cs hu => ?_
  apply wpS_seq
  apply wpS_region
  simp [wpOpsS, go_sem, recoverD, hu, Tryd.ntmps84, Exit.thenS]
  refine wpS_of_wp ?_
  simp only [Array.replicate_succ, Array.replicate_zero, List.push_toArray, List.nil_append, List.cons_append, List.setIfInBounds_toArray, List.set_cons_zero, List.set_cons_succ]
  go_wp2
  cases c₀
  exact ⟨rfl, _, rfl, _, results_none rfl _ _ _, rfl, by simp_all, rfl⟩
structure FirstMem (nb bo bm : Nat) (most : Int) (O : Nat → Prop) (X : List (List Int)) (w : World) : Prop where
  bo_ : O bo
  bm_ : O bm
  ne : bo ≠ bm
  box : ∃ vo, w.heap[bo]? = some (.cells #[vo] 32 (0, 0)) ∧ Kd.S (Kd.slice 3 (Kd.int .i64)) 22 w nb (fun k => O k ∧ k ≠ bo ∧ k ≠ bm) vo X
  most_ : w.heap[bm]? = some (.cells #[.int .i64 most] 3 (0, 0))
  lt : ∀ k, O k → k < w.heap.size
theorem FirstMem.keep {nb bo bm : Nat} {most : Int} {O : Nat → Prop} {X : List (List Int)} {w w' : World} (h : FirstMem nb bo bm most O X w) (ht : Turns (fun k => ¬ O k) w w') : FirstMem nb bo bm most O X w' := by
  have hk : ∀ k, O k → w'.heap[k]? = w.heap[k]? := fun k ho => ht.block k (h.lt k ho) (fun hn => hn ho)
  obtain ⟨vo, h1, h2⟩ := h.box
  exact ⟨h.bo_, h.bm_, h.ne, ⟨vo, (hk _ h.bo_).trans h1, Kd.S_move h2 (fun k ho => hk k ho.1)⟩, (hk _ h.bm_).trans h.most_, fun k ho => Nat.lt_of_lt_of_le (h.lt k ho) ht.size⟩
def FirstInv (nb bo bm : Nat) (most : Int) (O : Nat → Prop) (X : List (List Int)) (w : World) : Prop := FirstMem nb bo bm most O X w ∧ (X.length : Int) < most
def FirstStop (nb bo bm : Nat) (most : Int) (ch : List PanicEntry) (O : Nat → Prop) (X : List (List Int)) (w : World) : Prop := FirstMem nb bo bm most O X w ∧ (X.length : Int) = most ∧ ch = [{ v := fullV, recovered := false }]
theorem firstInv_ok (nb bo bm : Nat) (most : Int) : InvOk (FirstInv nb bo bm most) where
  keep := fun O X w w' h ht => ⟨h.1.keep ht, h.2⟩
  lt := fun O X w h => h.1.lt
theorem infoRow : (Tryd.prog.info? 22).map (fun i => (i.zero, i.size, i.bytes)) = some (some (.slice none 0 0), 1, 24) := by kernel_rfl
set_option maxRecDepth 100000 in
set_option maxHeartbeats 4000000 in
theorem first_found (wc : World) (nb bo bm nr m0 : Nat) (most : Int) (hm : most ≤ 1000) (R : List (List Int)) (hn : nb ≤ m0) : FoundOk wc nr m0 85 #[.pointer (some ⟨bo, 0, none⟩), .pointer (some ⟨bm, 0, none⟩)] R (FirstInv nb bo bm most) (FirstStop nb bo bm most) := by
  intro O X w v r hI hO hX hm0 hv hvO
  obtain ⟨hM, hlt⟩ := hI
  obtain ⟨vo, hbo, hS⟩ := hM.box
  obtain ⟨ao, co, rfl⟩ := Kd.S_slice hS
  have HM := Aside0.mk hM
  have HS := Aside0.mk hS
  have HV := Aside0.mk hv
  have HVO := Aside0.mk hvO
  have HBO := Aside0.mk hbo
  have HLT := Aside0.mk hlt
  have HN := Aside0.mk hn
  have HM0 := Aside0.mk hm0
  have HMO := Aside0.mk hm
  obtain ⟨av, cv, rfl⟩ : ∃ av cv, v = .slice av r.length cv := by
    rcases own_shape hv with ⟨h1, h2⟩ | ⟨g, cap, h1, _⟩
    · exact ⟨none, 0, by rw [h1, h2]; rfl⟩
    · exact ⟨_, _, h1⟩
  have hc : w.cell? ⟨bo, 0, none⟩ = some (.slice ao X.length co) := (blk_cell hbo 0).trans rfl
  have hlt1 : bo < w.heap.size := blk_lt hbo
  have hown : ∀ k, (Value.slice ao X.length co).ownBlock = some k → O k ∧ k ≠ bo ∧ k ≠ bm := (Kd.S_R hS).1
  have HOK := Aside0.mk (show ∀ k, (Value.slice av r.length cv).ownBlock = some k → ((O k ∨ (Value.slice av r.length cv).ownBlock = some k ∨ w.heap.size ≤ k) ∧ k ≠ bo ∧ k ≠ bm) ∧ some k ≠ (Value.slice ao X.length co).ownBlock from fun k hk => ⟨⟨.inr (.inl hk), fun e => by subst e; exact hvO k hk hM.bo_, fun e => by subst e; exact hvO k hk hM.bm_⟩, fun e => hvO k hk (hown k e.symm).1⟩)
  have HFR := Aside0.mk (show ∀ k, w.heap.size ≤ k → ((O k ∨ (Value.slice av r.length cv).ownBlock = some k ∨ w.heap.size ≤ k) ∧ k ≠ bo ∧ k ≠ bm) from fun k hk => ⟨.inr (.inr hk), fun e => by have := hM.lt bo hM.bo_; omega, fun e => by have := hM.lt bm hM.bm_; omega⟩)
  have HSA := Aside0.mk (show Kd.S (Kd.slice 3 (Kd.int .i64)) 22 w nb (fun k => ((O k ∨ (Value.slice av r.length cv).ownBlock = some k ∨ w.heap.size ≤ k) ∧ k ≠ bo ∧ k ≠ bm) ∧ ¬ (Value.slice av r.length cv).ownBlock = some k) (.slice ao X.length co) X from Kd.S_mono hS fun k hk => ⟨⟨.inl hk.1, hk.2⟩, fun h => hvO k h hk.1⟩)
  have HP := Aside0.mk (show Kd.M (Kd.slice 3 (Kd.int .i64)) w nb (fun k => (Value.slice av r.length cv).ownBlock = some k) r [.slice av r.length cv] from ⟨_, rfl, Kd.R_of_own (own_base hv (Nat.le_trans hn (Nat.le_refl _))) (fun _ hk => hk)⟩)
  have HOWN := Aside0.mk hown
  clear hM hlt hbo hS hv hvO hn hm0 hm hX hown
  go_enter Tryd.func85, Tryd.ntmps85
  go_upto_region 1 with (at_builtin; refine Kd.S_append (Kd.slice 3 (Kd.int .i64)) (w0 := w) (W := w) nb rfl (.tmp 4) (.tmp 6) 32 22 (.slice none 0 0) 24 rfl Tryd.underlying32 infoRow rfl (by decide) (by decide) (.slice ao X.length co) X r [.slice av r.length cv] (fun k => (O k ∨ (Value.slice av r.length cv).ownBlock = some k ∨ w.heap.size ≤ k) ∧ k ≠ bo ∧ k ≠ bm) (fun k => (Value.slice av r.length cv).ownBlock = some k) rfl rfl HP.out HOK.out HFR.out HSA.out (Below.refl _ _) (Nat.le_trans HN.out HM0.out) (by have := HLT.out; have := HMO.out; omega) ?_; intro v1 w1 hs1 hb1 hg1 hat1; obtain ⟨A1, c1, hv1⟩ := Kd.S_slice hs1; rw [List.length_append, List.length_singleton] at hv1; subst hv1; have hbo1 := blk_grown HBO.out hg1 (fun e => (HOWN.out _ e.symm).2.1 rfl); have hc1 : w1.cell? ⟨bo, 0, none⟩ = some (.slice ao X.length co) := (blk_cell hbo1 0).trans rfl; have hf1 := blk_frozen hbo1 0; have hlt2 : bo < w1.heap.size := blk_lt hbo1)
  have hbm1 := blk_grown HM.out.most_ hg1 (fun e => (HOWN.out _ e.symm).2.2 rfl)
  obtain ⟨w2, hw2⟩ : ∃ y_, y_ = w1.setCell ⟨bo, 0, none⟩ (.slice A1 (X.length + 1) c1) := ⟨_, rfl⟩
  rw [← hw2]
  have HT2 := Aside0.mk (show Turns O w w2 from by
    rw [hw2]
    exact (Turns.of_grown hg1 (fun k hk => (HOWN.out k hk).1)).setCell ⟨bo, 0, none⟩ _ (fun _ => HM.out.bo_))
  have HS2 := Aside0.mk (show Kd.S (Kd.slice 3 (Kd.int .i64)) 22 w2 nb (fun k => (O k ∨ (Value.slice av r.length cv).ownBlock = some k ∨ (w.heap.size ≤ k ∧ k < w2.heap.size)) ∧ k ≠ bo ∧ k ≠ bm) (.slice A1 (X.length + 1) c1) (X ++ [r]) from by
    have h1 := Kd.S_bound hs1
    have hsz : w2.heap.size = w1.heap.size := by rw [hw2]; simp [World.setCell]
    refine Kd.S_move (Kd.S_mono h1 (fun k hk => ⟨?_, hk.1.2⟩)) (fun k hk => ?_)
    · rcases hk.1.1 with h | h | h
      · exact .inl h
      · exact .inr (.inl h)
      · exact .inr (.inr ⟨h, by rw [hsz]; exact hk.2.2.1⟩)
    · rw [hw2]
      exact Below.heap_setCell _ _ _ _ hk.2.1)
  have hX2 := blk_set hbo1 0 (.slice A1 (X.length + 1) c1)
  have hM2 := blk_far hbm1 (p := ⟨bo, 0, none⟩) (fun e => HM.out.ne e.symm) (.slice A1 (X.length + 1) c1)
  rw [← hw2] at hX2 hM2
  have HMEM := Aside0.mk (show FirstMem nb bo bm most (fun k => O k ∨ (Value.slice av r.length cv).ownBlock = some k ∨ (w.heap.size ≤ k ∧ k < w2.heap.size)) (X ++ [r]) w2 from
    ⟨.inl HM.out.bo_, .inl HM.out.bm_, HM.out.ne, ⟨_, hX2, HS2.out⟩, hM2, fun k hk => by
      rcases hk with h | h | h
      · exact Nat.lt_of_lt_of_le (HM.out.lt k h) HT2.out.size
      · exact Nat.lt_of_lt_of_le (HV.out.lt k h).2 HT2.out.size
      · exact h.2⟩)
  have hc : w2.cell? ⟨bo, 0, none⟩ = some (.slice A1 (X.length + 1) c1) := (blk_cell hX2 0).trans rfl
  have hcm : w2.cell? ⟨bm, 0, none⟩ = some (.int .i64 most) := (blk_cell hM2 0).trans rfl
  clear hw2 hbm1 hX2 hM2 hs1 hb1 hg1 hat1 hbo1 hc1 hf1 hlt2 hlt1
  have fin : ∀ k, (O k ∨ (Value.slice av r.length cv).ownBlock = some k ∨ (w.heap.size ≤ k ∧ k < w2.heap.size)) → O k ∨ (Value.slice av r.length cv).ownBlock = some k ∨ w.heap.size ≤ k := fun k hk => by
    rcases hk with h | h | h
    · exact .inl h
    · exact .inr (.inl h)
    · exact .inr (.inr h.1)
  have FIN := Aside0.mk fin
  have HT3 := Aside0.mk (HT2.out.mono (O' := fun k => O k ∨ (Value.slice av r.length cv).ownBlock = some k) (fun i _ h => .inl h))
  clear fin
  by_cases he : (X.length : Int) + 1 = most
  · have hq : (((X.length : Int) + 1) == most) = true := by rw [he]; exact beq_self_eq_true _
    have HE := Aside0.mk he
    clear he
    have hpan : ∀ w : World, (Instr.panic (.iface 114 (.agg #[]))).run Tryd.prog w = .halt (.panic (.iface 114 (.agg #[]))) w := fun _ => by kernel_rfl
    go_wp2
    exact ⟨rfl, _, FIN.out, HT3.out, .inr ⟨_, rfl, HMEM.out, by rw [List.length_append, List.length_singleton]; exact HE.out, rfl⟩⟩
  · have hq : (((X.length : Int) + 1) == most) = false := by rw [beq_eq_false_iff_ne]; exact he
    have HE := Aside0.mk he
    clear he
    go_wp2
    go_end0
    exact ⟨_, FIN.out, HT3.out, .inl ⟨rfl, HMEM.out, by have := HE.out; have := HLT.out; rw [List.length_append, List.length_singleton]; omega⟩⟩
theorem firstFn_enters : ∀ args w, (callFunc 85 args).run Tryd.prog w = .ok (.enter 85 args) w := enters_ Tryd.func85 (by kernel_rfl) rfl
abbrev readsL2 (l : List S38) : List (List Int) := readingsP (l.map toEnt)
def firstL (l : List S38) (most : Int) : List (List Int) := (readsL2 l).take most.toNat
set_option maxRecDepth 100000 in
set_option maxHeartbeats 4000000 in
theorem first_calls (A : Option Addr) (c : Nat) (l : List S38) (most : Int) (hm : 1 ≤ most ∧ most ≤ 1000) (w : World) (hr : Kd.C k38 w A l.length l) (hs : ∀ i : Nat, i < l.length → (rd_T38 l (i : Int)).f1.size ≤ 9223372036854775807) (hS : SignsAt w) (hl8 : 1 ≤ l.length ∧ l.length ≤ 8) :
    Calls Tryd.prog 59 #[.slice A l.length c, .int .i64 most] w fun e w' => ∃ v, e = .returned v ∧ Kd.S (Kd.slice 3 (Kd.int .i64)) 22 w' w.heap.size (fun _ => True) v (firstL l most) ∧ Below w.heap.size w w' := by
  have HR := Aside0.mk hr
  have HS := Aside0.mk hS
  have HSZ := Aside0.mk hs
  have H8 := Aside0.mk hl8
  have HM := Aside0.mk hm
  have hmf : ∀ (fn : Fn) (first cap : Array Value) (w : World), (Instr.makeFunc fn first cap).run Tryd.prog w = .ok (.func fn first cap) w := fun _ _ _ _ => rfl
  clear hr hs hS hl8 hm
  go_enter_defers Tryd.func59, Tryd.ntmps59
  go_upto_region 2 with (fail)
  obtain ⟨bm, hbm⟩ : ∃ bm, bm = w.heap.size := ⟨_, rfl⟩
  obtain ⟨bo, hbo⟩ : ∃ bo, bo = w.heap.size + 1 := ⟨_, rfl⟩
  obtain ⟨W1, hW1⟩ : ∃ W1, W1 = (w.alloc (.cells #[.int .i64 most] 3)).alloc (.cells #[.slice none 0 0] 32) := ⟨_, rfl⟩
  have hX1 := blk_alloc (heap_alloc_new w (.cells #[.int .i64 most] 3)) (.cells #[.slice none 0 0] 32)
  have hX2 := heap_alloc_new (w.alloc (.cells #[.int .i64 most] 3)) (.cells #[.slice none 0 0] 32)
  rw [World.size_alloc] at hX2
  have HB1 := Aside0.mk (show Below w.heap.size w W1 by rw [hW1]; exact below_alloc (below_alloc (Below.refl _ _) _) _)
  have HZ := Aside0.mk (show W1.heap.size = w.heap.size + 2 by rw [hW1]; simp)
  have HBM := Aside0.mk hbm
  have HBO := Aside0.mk hbo
  rw [← hW1, ← hbm] at hX1
  rw [← hW1, ← hbo] at hX2
  rw [← hW1, ← hbo]
  rw [show (Value.pointer (some ⟨w.heap.size, 0, none⟩)) = .pointer (some ⟨bm, 0, none⟩) by rw [hbm]]
  have HI0 := Aside0.mk (show FirstInv w.heap.size bo bm most (fun k => k = bo ∨ k = bm) [] W1 from
    ⟨⟨.inl rfl, .inr rfl, by omega, ⟨_, hX2, Kd.S_nil _ _ _ _ _⟩, hX1, fun k hk => by rcases hk with rfl | rfl <;> (have := HZ.out; omega)⟩, by have := HM.out; simp; omega⟩)
  clear hW1 hbm hbo hX1 hX2
  go_wp2_with (go_at_call 54; refine (readings_calls l A c w 85 #[.pointer (some ⟨bo, 0, none⟩), .pointer (some ⟨bm, 0, none⟩)] (FirstInv w.heap.size bo bm most) (FirstStop w.heap.size bo bm most) firstFn_enters HR.out HSZ.out HS.out H8.out (firstInv_ok _ _ _ _) W1 HB1.out (fun m0 h => first_found w w.heap.size bo bm _ m0 most HM.out.2 _ (by have := HZ.out; omega)) _ HI0.out (fun k hk => by have := HZ.out; have := HBM.out; have := HBO.out; rcases hk with rfl | rfl <;> omega)).mono ?_)
  rintro e w3 ⟨O', h1, h2, h3⟩
  have HB3 := Aside0.mk (show Below w.heap.size w w3 from HB1.out.trans (h2.below (fun k hk => by have := HBM.out; have := HBO.out; rcases hk with rfl | rfl <;> omega) HB1.out.size))
  rcases h3 with ⟨rfl, h4, h5⟩ | ⟨ch, pre, rfl, hpre, h4, h5, h6⟩
  · obtain ⟨vo, hvo, hS⟩ := h4.box
    have HL := Aside0.mk (show firstL l most = readsL2 l from List.take_of_length_le (by unfold readsL2; omega))
    obtain ⟨ao, co, rfl⟩ := Kd.S_slice hS
    have hc : w3.cell? ⟨bo, 0, none⟩ = some (.slice ao (readsL2 l).length co) := (blk_cell hvo 0).trans rfl
    have hf := blk_frozen hvo 0
    have hlt := blk_lt hvo
    have hX4 := blk_set hvo 0 (.slice ao (readsL2 l).length co)
    have hS4 := Kd.S_far hS (p := ⟨bo, 0, none⟩) (fun k hk => hk.2.1) (.slice ao (readsL2 l).length co)
    have hB4 := HB3.out.setCell (p := ⟨bo, 0, none⟩) (by have := HBO.out; simp; omega) (.slice ao (readsL2 l).length co)
    have HX4 := Aside0.mk hX4
    have HS4 := Aside0.mk hS4
    have HB4 := Aside0.mk hB4
    clear h1 h2 h4 h5 hvo hS hmf hX4 hS4 hB4
    go_wp2
    refine leaves_cons (f := 84) (args := #[]) (by simp) (by simp [go_sem]) ?_
    refine (catch_idle _).mono ?_
    rintro e u' w4 ⟨rfl, rfl, hw4⟩
    rw [hw4]
    have hc4 := blk_cell HX4.out 0
    simp [Leaves, settle, results, Tryd.results59, go_sem]
    refine ⟨.slice ao (readsL2 l).length co, ?_, ?_, HB4.out⟩
    · rw [hc4]
      rfl
    · rw [HL.out]
      exact Kd.S_mono HS4.out (fun _ _ => trivial)
  · obtain ⟨vo, hvo, hS⟩ := h4.box
    have HL := Aside0.mk (show firstL l most = pre from by
      unfold firstL
      have h7 := List.prefix_iff_eq_take.1 hpre
      rw [show most.toNat = pre.length by omega]
      exact h7.symm)
    obtain ⟨ao, co, rfl⟩ := Kd.S_slice hS
    have hc : w3.cell? ⟨bo, 0, none⟩ = some (.slice ao pre.length co) := (blk_cell hvo 0).trans rfl
    have HSS := Aside0.mk hS
    subst h6
    refine leaves_cons (f := 84) (args := #[]) (by simp) (by simp [go_sem]) ?_
    refine (catch_full [] w3).mono ?_
    rintro e u' w4 ⟨rfl, rfl, hb4⟩
    have hc4 := (hb4.cell (World.block_lt_of_cell? w3 _ hc)).trans hc
    simp [Leaves, settle, results, Tryd.results59, go_sem]
    refine ⟨.slice ao pre.length co, ?_, ?_, below_then HB3.out HB3.out.size hb4⟩
    · rw [hc4]
    · rw [HL.out]
      exact Kd.S_mono (Kd.S_below HSS.out hb4) (fun _ _ => trivial)
end Go.Proofs.YtgfikondoehblaaDoor.Pr
end
