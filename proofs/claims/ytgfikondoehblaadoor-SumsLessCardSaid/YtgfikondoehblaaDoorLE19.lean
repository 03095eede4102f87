/- Part 19 of 21 of the proof of: SumsLess: for every slice of numbers, the law returns true: without the entries that Struck names an account made of them adds up, and without fewer ones, or as many that come before, it does not; no condition beyond the statement's own. -/
import Derived.Test.YtgfikondoehblaaDoorLE15
import Derived.Test.YtgfikondoehblaaDoorLE17
import Derived.Test.YtgfikondoehblaaDoorLE18
set_option linter.unusedVariables false
set_option linter.unusedSimpArgs false
set_option linter.unusedSectionVars false
section
namespace Go.Proofs.YtgfikondoehblaaDoor.Pr
open Go.RowKit Go.Shelf Go.Proofs.YtgfikondoehblaaDoorW.PrintWords Go.Proofs.YtgfikondoehblaaDoorW.PrintLast Go.Proofs.YtgfikondoehblaaDoorW.PrintMore Go.Proofs.SumKeep Go.Sort
open SumPlain (valuesP nextP May Ent readingsP columnP)
theorem reading_shape {es : List Ent} {r : List Int} (h : r ∈ readingsP es) : r.length = es.length ∧ ∀ i, i < es.length → 1 ≤ r.getD i (-1) ∧ r.getD i (-1) ≤ 4999 := by
  have hr := (SumPlain.mem_readings es r).1 h
  have hl := hr.length
  rw [List.length_map] at hl
  refine ⟨hl, fun i hi => ?_⟩
  have hm := hr.mem i (by omega) (by rw [List.length_map]; exact hi)
  have e : r.getD i (-1) = r[i]'(by omega) := by rw [List.getD_eq_getElem?_getD, List.getElem?_eq_getElem (by omega)]; rfl
  rw [e]
  simp only [List.getElem_map] at hm
  obtain ⟨k, h1, h2, h3, _⟩ := (SumPlain.mem_valuesTo _ _ _).1 hm
  omega
theorem col_mem {l : List S38} {i : Nat} (hi : i < l.length) (x : Int) : x ∈ columnP (readsL l) i ↔ colS (readsL l) i x = true := by
  constructor
  · intro h
    obtain ⟨h1, h2⟩ := List.mem_filter.1 h
    exact h2
  · intro h
    refine List.mem_filter.2 ⟨?_, h⟩
    obtain ⟨r, hr, he⟩ := List.any_eq_true.1 h
    have := (reading_shape hr).2 i (by rw [List.length_map]; exact hi)
    have he' : r.getD i (-1) = x := by simpa using he
    exact List.mem_map.2 ⟨x.toNat, List.mem_range.2 (by omega), by simp; omega⟩
theorem col_len (X : List (List Int)) (i : Nat) : (columnP X i).length ≤ 5000 := by
  refine Nat.le_trans (List.length_filter_le _ _) ?_
  simp
theorem nodup_le : ∀ (ss T : List Int), ss.Nodup → (∀ x ∈ ss, x ∈ T) → ss.length ≤ T.length
  | [], _, _, _ => Nat.zero_le _
  | a :: ss, T, hn, h => by
    have h1 := List.nodup_cons.1 hn
    have ha := h a List.mem_cons_self
    have := nodup_le ss (T.erase a) h1.2 (fun x hx => (List.mem_erase_of_ne (fun e => by subst e; exact h1.1 hx)).2 (h x (List.mem_cons_of_mem _ hx)))
    rw [List.length_erase_of_mem ha] at this
    have := List.length_pos_of_mem ha
    simp only [List.length_cons]
    omega
def CollI (S : Int → Bool) (left : Lit → Bool) (ss : List Int) : Prop := ss.Nodup ∧ ∀ x, x ∈ ss ↔ (S x = true ∧ left (.int .i64 x) = false)
theorem CollI.start {D : DataW Unit} {S : Int → Bool} (h : ∀ c, Maps.has D (.int .i64 c) = S c) : CollI S (Maps.has D) [] := ⟨List.nodup_nil, fun x => by rw [h x]; cases S x <;> simp⟩
theorem CollI.step {S : Int → Bool} {left : Lit → Bool} {ss : List Int} (h : CollI S left ss) {x : Int} (hl : left (.int .i64 x) = true) (hs : S x = true) : CollI S (fun z => left z && !z.sameKey (.int .i64 x)) (ss ++ [x]) := by
  have hnew : x ∉ ss := fun hx => by have := ((h.2 x).1 hx).2; rw [hl] at this; cases this
  refine ⟨List.nodup_append.2 ⟨h.1, by simp, fun a ha b hb => by simp at hb; subst hb; exact fun e => hnew (e ▸ ha)⟩, fun y => ?_⟩
  by_cases hy : y = x
  · subst hy; simp [hs, Lit.sameKey]
  · simp [h.2 y, hy, Lit.sameKey]
theorem CollI.sorted {S : Int → Bool} {left : Lit → Bool} {ss T : List Int} (h : CollI S left ss) (hl : ∀ kl, left kl = false) (hT : T.Pairwise (· < ·)) (hm : ∀ x, x ∈ T ↔ S x = true) : ss.mergeSort (fun x y => decide (x ≤ y)) = T := by
  have hp : ss.Perm T := (List.perm_ext_iff_of_nodup h.1 (hT.imp (fun h => by omega))).2 fun x => by rw [h.2 x, hm x, hl]; simp
  refine List.Perm.eq_of_pairwise (le := (· ≤ ·)) (fun a b _ _ h1 h2 => Int.le_antisymm h1 h2) ?_ (hT.imp (fun h => by omega)) ((List.mergeSort_perm _ _).trans hp)
  have := List.pairwise_mergeSort (le := fun x y : Int => decide (x ≤ y)) (fun a b c h1 h2 => by simp only [decide_eq_true_eq] at *; omega) (fun a b => by simp only [Bool.or_eq_true, decide_eq_true_eq]; omega) ss
  simpa using this
theorem CollI.len {S : Int → Bool} {left : Lit → Bool} {ss T : List Int} (h : CollI S left ss) (hm : ∀ x, x ∈ T ↔ S x = true) : ss.length ≤ T.length := nodup_le ss T h.1 fun x hx => (hm x).2 ((h.2 x).1 hx).1
theorem one_CI {W : World} {g : Nat} {v : Int} (h : W.cell? ⟨g, 0, none⟩ = some (.int .i64 v)) : Kd.C (Kd.int .i64) W (some ⟨g, 0, none⟩) 1 [v] := by
  refine ⟨rfl, by simp, fun _ => ⟨_, rfl, fun j p hp => ?_⟩⟩
  cases j with
  | zero =>
    simp at hp
    subst hp
    refine ⟨[.int .i64 v], rfl, rfl, fun i u hu => ?_⟩
    cases i with
    | zero =>
      simp at hu
      subst hu
      exact h
    | succ i => simp at hu
  | succ j => simp at hp
def choL (l : List S38) : List (List Int) × Int :=
  if checkL l = 0 then (if readsL l = [] then ([], 9) else ((List.range l.length).map (columnP (readsL l)), 0)) else ([], checkL l)

theorem choices_found {l : List S38} (h0 : checkL l = 0) (wc : World) (g nr m0 : Nat) (hm0 : g + 2 + l.length < m0) : FoundOk wc nr m0 55 #[.pointer (some ⟨g + 2 + l.length, 0, none⟩), .pointer (some ⟨g + 1, 0, none⟩)] (readsL l) (ChoInv g l.length) (fun _ _ _ _ => False) := by
  intro O X w v r hI hO hX hm hv hvO
  have hr : r ∈ readsL l := hX.subset (by simp)
  have hsh := reading_shape hr
  rw [List.length_map] at hsh
  have hlen := hX.length_le
  have hmany := readsL_many h0
  rw [List.length_append, List.length_singleton] at hlen
  refine (choices1_calls g l.length X r (checkL_len h0) hsh.1 (by omega) _ w v m0 hv (fun k hk hb => hvO k hk ((hI.1 k).2 hb)) hI.2 (fun i hi => by have := hsh.2 i hi; omega)).mono ?_
  rintro e w' ⟨rfl, hc, ht⟩
  refine ⟨O, fun k h => .inl h, ht.mono (fun k _ hk => .inl ((hI.1 k).2 hk)), .inl ⟨rfl, hI.1, ?_⟩⟩
  have : (!(X ++ [r]).isEmpty) = true := by simp
  rw [this]
  exact hc.congr (fun _ _ _ => rfl) (fun _ _ => by simp)
theorem choFn_enters : ∀ args w, (callFunc 55 args).run Tryd.prog w = .ok (.enter 55 args) w := enters_ Tryd.func55 (by kernel_rfl) rfl
theorem makeSets (W : World) (n : Nat) (hn : n ≤ 8) : (Instr.makeSlice 82 (.int .i64 (n : Int)) (.int .i64 (n : Int))).run Tryd.prog W = .ok (.slice (some ⟨W.heap.size, 0, none⟩) n n) (W.alloc (.cells (madeCells #[.map none] n) 83)) := by
  obtain ⟨i, h1, h2, h3, h4⟩ := info_parts (P := Tryd.prog) (e := 83) (z := .map none) (size := 1) (bytes := 8) (by kernel_rfl)
  have h := run_makeSlice (P := Tryd.prog) W 82 83 i (.map none) Tryd.underlying82 h1 h2 .i64 .i64 n n (by omega) (by omega) (by rw [h3]; omega) (by rw [h4]; omega) (by omega)
  rw [h3] at h
  rw [show (Value.map none).cells = #[Value.map none] from rfl] at h
  simpa using h
structure ChoLay (g n j : Nat) (W : World) : Prop where
  rows : ∃ vs : Array Value, vs.size = n ∧ W.heap[g]? = some (.cells vs 83 (0, 0)) ∧ ∀ i, i < j → vs[i]? = some (.map (some (g + 2 + i)))
  box : W.heap[g + 1]? = some (.cells #[.slice (some ⟨g, 0, none⟩) n n] 82 (0, 0))
  maps : ∀ i, i < j → MapI W (g + 2 + i) (fun _ => false) 0
  size : W.heap.size = g + 2 + j
theorem ChoLay.next {g n j : Nat} {W : World} (h : ChoLay g n j W) (hj : j < n) : ChoLay g n (j + 1) ((W.setCell ⟨g, j, none⟩ (.map (some W.heap.size))).alloc (.map #[] 0)) := by
  obtain ⟨vs, h1, h2, h3⟩ := h.rows
  have hs := h.size
  have hz : (W.setCell ⟨g, j, none⟩ (.map (some W.heap.size))).heap.size = W.heap.size := by simp [World.setCell]
  refine ⟨⟨vs.setIfInBounds j (.map (some W.heap.size)), by simp [h1], blk_alloc (blk_set h2 j _) _, fun i hi => ?_⟩, blk_alloc (blk_far h.box (by simp) _) _, fun i hi => ?_, by rw [World.size_alloc, hz]; omega⟩
  · rcases Nat.lt_or_eq_of_le (Nat.lt_succ_iff.1 hi) with hi | rfl
    · rw [Array.getElem?_setIfInBounds_ne (by omega)]
      exact h3 i hi
    · rw [Array.getElem?_setIfInBounds_self_of_lt (by omega), hs]
  · rcases Nat.lt_or_eq_of_le (Nat.lt_succ_iff.1 hi) with hi | rfl
    · exact (h.maps i hi).move ((Below.heap_alloc _ _ _ (by rw [hz]; omega)).trans (Below.heap_setCell _ _ _ _ (by simp; omega)))
    · have := MapI.made (W.setCell ⟨g, i, none⟩ (.map (some W.heap.size)))
      rw [hz, hs] at this
      rw [hs]
      exact this
theorem ChoLay.at {g n : Nat} {W : World} (h : ChoLay g n n W) : ChoAt g n false (fun _ _ => false) (fun _ => 0) (W.alloc (.cells #[.bool false] 4)) := by
  obtain ⟨vs, h1, h2, h3⟩ := h.rows
  refine ⟨⟨vs, h1, blk_alloc h2 _, h3⟩, blk_alloc h.box _, ?_, fun i hi => (h.maps i hi).move (Below.heap_alloc _ _ _ (by have := h.size; omega))⟩
  rw [← h.size]
  exact heap_alloc_new W _
set_option maxRecDepth 100000 in
set_option maxHeartbeats 4000000 in
theorem choices_calls (A : Option Addr) (c : Nat) (l : List S38) (w : World) (hr : Kd.C k38 w A l.length l) (hs : ∀ i : Nat, i < l.length → (rd_T38 l (i : Int)).f1.size ≤ 9223372036854775807) (hS : SignsAt w) :
    Calls Tryd.prog 15 #[.slice A l.length c] w fun e w' => ∃ v, e = .returned (.tuple #[v, .int .i64 (choL l).2]) ∧ Kd.S (Kd.slice 3 (Kd.int .i64)) 22 w' w.heap.size (fun _ => True) v (choL l).1 ∧ Below w.heap.size w w' := by
  have HC := check_calls A c l w hr hs hS
  have HR := Aside0.mk hr
  have HS := Aside0.mk hS
  have HSZ := Aside0.mk hs
  have hmf : ∀ (fn : Fn) (first cap : Array Value) (w : World), (Instr.makeFunc fn first cap).run Tryd.prog w = .ok (.func fn first cap) w := fun _ _ _ _ => rfl
  have hmm : ∀ (w : World), (Instr.makeMap 83 none).run Tryd.prog w = .ok (.map (some w.heap.size)) (w.alloc (.map #[] 0)) := fun w => run_makeMap _ w
  clear hr hs hS
  obtain ⟨ck, hck⟩ : ∃ ck, ck = checkL l := ⟨_, rfl⟩
  rw [← hck] at HC
  have HCK := Aside0.mk hck
  go_enter Tryd.func15, Tryd.ntmps15
  go_wp2_with (go_at_call 38; refine HC.mono ?_)
  clear HC
  rintro e w1 ⟨rfl, hb1⟩
  by_cases h0 : ck = 0
  · have hne : (ck != 0) = false := by simp [h0]
    have H0 := Aside0.mk (show checkL l = 0 by rw [← hck]; exact h0)
    have HB1 := Aside0.mk hb1
    have H8 := Aside0.mk (checkL_len H0.out)
    have hmk : ∀ W : World, (Instr.makeSlice 82 (.int .i64 (l.length : Int)) (.int .i64 (l.length : Int))).run Tryd.prog W = _ := fun W => makeSets W l.length H8.out.2
    clear hck h0 hb1
    go_upto_region 5 with (fail)
    obtain ⟨g, hg⟩ : ∃ g, g = w1.heap.size := ⟨_, rfl⟩
    obtain ⟨W2, hW2⟩ : ∃ W2, W2 = (w1.alloc (.cells (madeCells #[.map none] l.length) 83)).alloc (.cells #[.slice (some ⟨w1.heap.size, 0, none⟩) l.length l.length] 82) := ⟨_, rfl⟩
    have HL2 := Aside0.mk (show ChoLay g l.length 0 W2 by
      rw [hW2, hg]
      refine ⟨⟨_, size_madeCells _ _, blk_alloc (heap_alloc_new w1 _) _, fun i hi => absurd hi (by omega)⟩, ?_, fun i hi => absurd hi (by omega), by simp⟩
      have := heap_alloc_new (w1.alloc (.cells (madeCells #[.map none] l.length) 83)) (.cells #[.slice (some ⟨w1.heap.size, 0, none⟩) l.length l.length] 82)
      rwa [World.size_alloc] at this)
    have HB2 := Aside0.mk (show Below w.heap.size w W2 by rw [hW2]; exact below_alloc (below_alloc HB1.out _) _)
    have HG := Aside0.mk (show w.heap.size ≤ g by rw [hg]; exact HB1.out.size)
    rw [← hW2, ← hg]
    have hc2 : W2.cell? ⟨g + 1, 0, none⟩ = some (.slice (some ⟨g, 0, none⟩) l.length l.length) := (blk_cell HL2.out.box 0).trans rfl
    clear hW2 hg hmk HB1 hne
    go_wp2_with (fail)
    clear hc2
    go_loopw [6, 23, 24, 25, 26, 27, 28, 29, 30] (fun _ jv _ _ _ _ _ _ _ wr => ∃ j : Nat, j ≤ l.length ∧ jv = .int .i64 (j : Int) ∧ Aside0 (ChoLay g l.length j wr) ∧ Aside0 (Below w.heap.size w wr))
      (fun _ jv _ _ _ _ _ _ _ _ => l.length - (intOf jv).toNat)
    case atStart => exact ⟨0, Nat.zero_le _, rfl, HL2, HB2⟩
    case round =>
      clear HL2 HB2
      obtain ⟨j, hj, rfl, HL, HB⟩ := hrel
      by_cases hlt : j < l.length
      · have hd : decide ((j : Int) < (l.length : Int)) = true := by simp; omega
        have hdn : decide (j < l.length) = true := by simp; omega
        have hj0 : (0 : Int) ≤ (j : Int) := by omega
        have hj1 : (j : Int) < (l.length : Int) := by omega
        have HLT := Aside0.mk hlt
        have hc2 : wr.cell? ⟨g + 1, 0, none⟩ = some (.slice (some ⟨g, 0, none⟩) l.length l.length) := (blk_cell HL.out.box 0).trans rfl
        clear hlt hj
        have hf := blk_frozen (blk_alloc HL.out.rows.choose_spec.2.1 (.map #[] 0)) j
        have hls : g < wr.heap.size := by have := HL.out.size; omega
        obtain ⟨u, hu⟩ : ∃ u, (wr.alloc (.map #[] 0)).cell? ⟨g, j, none⟩ = some u := by
          obtain ⟨vs, h1, h2, h3⟩ := HL.out.rows
          exact ⟨_, (blk_cell (blk_alloc h2 _) j).trans (Array.getElem?_eq_getElem (by have := HLT.out; omega))⟩
        go_wp2_with (fail)
        go_roundw
        case rel => exact ⟨j + 1, HLT.out, by rw [w_up HLT.out (by have := H8.out; omega)], ⟨HL.out.next HLT.out⟩, ⟨below_alloc (HB.out.setCell (p := ⟨g, j, none⟩) HG.out _) _⟩⟩
        case measure => exact meas_up HLT.out (by have := H8.out; omega)
      · obtain rfl : j = l.length := by omega
        have hd : decide ((l.length : Int) < (l.length : Int)) = false := by simp
        have hdn : decide (l.length < l.length) = false := by simp
        clear hj hlt
        go_upto_region 11 with (fail)
        clear hd hdn
        obtain ⟨W3, hW3⟩ : ∃ W3, W3 = wr.alloc (.cells #[.bool false] 4) := ⟨_, rfl⟩
        rw [HL.out.size, ← hW3]
        have HI3 := Aside0.mk (show ChoInv g l.length (ChoB g l.length) [] W3 from ⟨fun k => Iff.rfl, by rw [hW3]; exact (HL.out.at).congr (fun _ _ _ => rfl) (fun _ _ => Nat.le_refl _)⟩)
        have HB3 := Aside0.mk (show Below w.heap.size w W3 by rw [hW3]; exact below_alloc HB.out _)
        have HZ3 := Aside0.mk (show W3.heap.size = g + 2 + l.length + 1 by rw [hW3, World.size_alloc, HL.out.size])
        clear hW3 HL HB hmm
        go_wp2_with (go_at_call 54; refine (readings_calls l A c w 55 #[.pointer (some ⟨g + 2 + l.length, 0, none⟩), .pointer (some ⟨g + 1, 0, none⟩)] (ChoInv g l.length) (fun _ _ _ _ => False) choFn_enters HR.out HSZ.out HS.out H8.out (choInv_ok g l.length) W3 HB3.out (fun m0 h => choices_found H0.out w g _ m0 (by have := HZ3.out; omega)) (ChoB g l.length) HI3.out (fun k hk => by have := HZ3.out; have := HG.out; have := hk.1; have := hk.2; omega)).mono ?_)
        rintro e w4 ⟨O', h1, h2, h3⟩
        rcases h3 with ⟨rfl, h4, h5⟩ | ⟨ch, pre, rfl, _, h5⟩
        case inr => exact h5.elim
        have HB4 := Aside0.mk (show Below w.heap.size w w4 from HB3.out.trans (h2.below (fun k hk => Nat.le_trans HG.out hk.1) HB3.out.size))
        have HC4 := Aside0.mk (show ChoAt g l.length (!(readsL l).isEmpty) (colS (readsL l)) (fun _ => (readsL l).length) w4 from h5)
        clear h1 h2 h4 h5 hmf
        by_cases hR0 : readsL l = []
        · have hcs : w4.cell? ⟨g + 2 + l.length, 0, none⟩ = some (.bool false) := by
            have := (blk_cell HC4.out.sm 0).trans rfl
            rw [hR0] at this
            exact this
          have HR0 := Aside0.mk hR0
          clear hR0
          go_wp2_with (fail)
          rw [choL, if_pos H0.out, if_pos HR0.out]
          refine bodyPost_ret (results_tmp2 rfl _ _ _) rfl ?_
          exact ⟨_, rfl, Kd.S_nil _ _ _ _ _, HB4.out⟩
        · have hcs : w4.cell? ⟨g + 2 + l.length, 0, none⟩ = some (.bool true) := by
            have h := (blk_cell HC4.out.sm 0).trans rfl
            rw [show (!(readsL l).isEmpty) = true by simpa using hR0] at h
            exact h
          have HR0 := Aside0.mk hR0
          have hcb : w4.cell? ⟨g + 1, 0, none⟩ = some (.slice (some ⟨g, 0, none⟩) l.length l.length) := (blk_cell HC4.out.box 0).trans rfl
          clear hR0
          go_upto_region 15 with (fail)
          clear hcs
          go_wp2_with (fail)
          clear hcb
          go_loopw [8, 10, 11, 12, 38, 39, 40, 41, 42, 43, 44, 45, 46, 47, 48, 49, 50, 51, 52, 53, 54, 55, 56, 57, 58] (fun v8 _ _ _ jv _ _ _ _ _ _ _ _ _ _ _ _ _ _ _ _ _ _ _ _ wr => ∃ j : Nat, j ≤ l.length ∧ jv = .int .i64 (j : Int) ∧ Aside0 (ChoAt g l.length true (colS (readsL l)) (fun _ => (readsL l).length) wr) ∧ Aside0 (Kd.S (Kd.slice 3 (Kd.int .i64)) 22 wr w.heap.size (fun k => ¬ ChoB g l.length k) v8 ((List.range j).map (columnP (readsL l)))) ∧ Aside0 (Below w.heap.size w wr))
            (fun _ _ _ _ jv _ _ _ _ _ _ _ _ _ _ _ _ _ _ _ _ _ _ _ _ _ => l.length - (intOf jv).toNat)
          case atStart => exact ⟨0, Nat.zero_le _, rfl, ⟨by have := HC4.out; rwa [show (!(readsL l).isEmpty) = true by simpa using HR0.out] at this⟩, ⟨Kd.S_nil _ _ _ _ _⟩, HB4⟩
          case round =>
            clear HC4 HB4 HB3 HZ3
            obtain ⟨j, hj, rfl, HC, HO, HB⟩ := hrel
            by_cases hlt : j < l.length
            · have hd : decide ((j : Int) < (l.length : Int)) = true := by simp; omega
              have hdn : decide (j < l.length) = true := by simp; omega
              have hj0 : (0 : Int) ≤ (j : Int) := by omega
              have hj1 : (j : Int) < (l.length : Int) := by omega
              have HLT := Aside0.mk hlt
              have hcm := HC.out.row_cell hlt
              obtain ⟨D, nn, hown, hnn, hhas⟩ := HC.out.maps j hlt
              have HOWN := Aside0.mk hown
              have HNN := Aside0.mk hnn
              have HHAS := Aside0.mk hhas
              clear hown hnn hhas hj hlt
              obtain ⟨WJ, rfl⟩ : ∃ WJ, WJ = wr := ⟨_, rfl⟩
              go_wp2_with (at_range; refine wpList_range_own _ rfl _ 83 rfl 3 4 (Maps.int_keyed Tryd.underlying3) Tryd.underlying83 _ (g + 2 + j) nn D rfl HOWN.out ?_; intro w3 hrg hg3 hs3)
              go_frame
              go_loopg [11, 12, 44, 45, 46, 47, 48, 49, 50, 51] (Maps.size D) (fun gk v11 _ _ _ _ _ _ _ _ _ W => ∃ (left : Lit → Bool) (ss : List Int), Aside0 (W.ranges Tryd.prog 3 (plainElem (H := Unit) Tryd.prog 4) (g + 2 + j) WJ.heap.size nn D left gk) ∧ Aside0 (Kd.R (Kd.int .i64) 3 W WJ.heap.size (fun k => k ≠ WJ.heap.size) v11 ss) ∧ Aside0 (CollI (colS (readsL l) j) left ss) ∧ Aside0 (Below WJ.heap.size WJ W) ∧ Aside0 (WJ.heap.size < W.heap.size))
              case atStart => exact ⟨_, [], ⟨hrg⟩, ⟨Kd.R_nil _ _ _ _ _⟩, ⟨CollI.start HHAS.out⟩, ⟨(Below.refl _ _).grown hg3 (Nat.le_refl _) (fun j hj => by cases hj)⟩, ⟨by omega⟩⟩
              case round =>
                clear hrg hg3 hs3 hd hdn hcm hj0 hj1
                obtain ⟨left, ss, hrg, hrow, hC, hB, hlt⟩ := hrel
                have HSS := Aside0.mk (show ss.length ≤ 5000 from Nat.le_trans (hC.out.len (col_mem HLT.out)) (col_len _ _))
                go_wp2_with (at_next; refine wpList_next_ranges _ rfl (.tmp 43) rfl 3 (Maps.int_keyed Tryd.underlying3) (plainElem Tryd.prog 4) (Value.int .i64) (fun v : Value => v) (fun key kl hk => by obtain ⟨x, e, _⟩ := Maps.keyOf_int_inv Tryd.underlying3 hk; exact ⟨x, e⟩) (fun v y hv => ⟨v, rfl⟩) (g + 2 + j) WJ.heap.size nn D left gk rfl hrg.out ?_ ?_)
                · intro hc0 hl0
                  obtain ⟨T, hT⟩ : ∃ T, T = columnP (readsL l) j := ⟨_, rfl⟩
                  have hsort : ss.mergeSort (fun x y => decide (x ≤ y)) = T := by rw [hT]; exact hC.out.sorted hl0 (SumPlain.asc_column _ _) (col_mem HLT.out)
                  have hlen : ss.length = T.length := by rw [← hsort, List.length_mergeSort]
                  have hne : ss ≠ [] := by
                    obtain ⟨r, hr⟩ := List.exists_mem_of_ne_nil _ HR0.out
                    have h1 := SumPlain.reading_in_column hr j (by rw [List.length_map]; exact HLT.out)
                    intro e
                    rw [e] at hlen
                    have h2 : columnP (readingsP (l.map toEnt)) j = [] := by rw [← hT]; exact List.eq_nil_of_length_eq_zero hlen.symm
                    rw [h2] at h1
                    cases h1
                  rcases (Kd.own_of_R hrow.out).2 with ⟨hnil, h0⟩ | ⟨gb, cap, cur, rfl, hbase, hb, k1, k2, k3, k4⟩
                  · exact absurd (List.eq_nil_of_length_eq_zero h0) hne
                  have hH : Holds (Value.int .i64) wr gb 0 ss.toArray := holds_of_blockI hb (by rw [Nat.mul_one] at k4; exact k4)
                  have HSORT := Aside0.mk (Tryd.slices_Sort_int gb 0 cap ss wr hH (Array.getElem?_eq_some_iff.1 hb).1 (by have := HSS.out; omega))
                  have HB6 := Aside0.mk (show ∀ (nn : Nat) (os : Array Obj), Below WJ.heap.size WJ (grow (putRow (Value.int .i64) (Sort.ahead wr nn) gb 0 T.toArray) os) from fun nn os => hB.out.grown (grownBy_sortedI _) hB.out.size (fun j hj => by cases hj; exact hbase))
                  have HO6 := Aside0.mk (show ∀ (nn : Nat) (os : Array Obj), (grow (putRow (Value.int .i64) (Sort.ahead wr nn) gb 0 T.toArray) os).ownsRow WJ.heap.size 3 1 (.slice (some ⟨gb, 0, none⟩) T.length cap) T.length (nums .i64 T) from fun nn os => by
                    have := ownsRow_sortedI (n := nn) (os := os) (ts := T) hlen.symm hbase hb k1 k2 k3
                    rwa [hlen] at this)
                  rw [hsort] at HSORT
                  rw [hlen] at HSORT ⊢
                  have HT := Aside0.mk hT
                  have HBA := Aside0.mk hbase
                  have HT0 := Aside0.mk (show T.length ≤ 5000 by rw [hT]; exact col_len _ _)
                  clear hsort hlen hne hrow hb k1 k2 k3 k4 hH hT hC hrg hbase hc0 hl0 hlt
                  obtain ⟨ao, co, hv8⟩ := Kd.S_slice HO.out
                  rw [List.length_map, List.length_range] at hv8
                  subst hv8
                  go_upto_region 24 with (go_at_call 56; refine HSORT.out.mono ?_; rintro e w6 ⟨rfl, m6, os6, hw6⟩; have HW6 := Aside0.mk hw6; clear hw6)
                  have HB7 := Aside0.mk (show Below WJ.heap.size WJ w6 by rw [HW6.out]; exact HB6.out _ _)
                  have HV7 := Aside0.mk (show w6.ownsRow WJ.heap.size 3 1 (.slice (some ⟨gb, 0, none⟩) T.length cap) T.length (nums .i64 T) by rw [HW6.out]; exact HO6.out _ _)
                  have HCLT := Aside0.mk (show g + 2 + l.length < WJ.heap.size from HC.out.lt ⟨by omega, by omega⟩)
                  clear HW6
                  have HOW := Aside0.mk (show ∀ k, (Value.slice ao j co).ownBlock = some k → ¬ ChoB g l.length k ∧ k < WJ.heap.size from fun k hk => ⟨(Kd.S_R HO.out).1 k hk, Kd.S_lt HO.out k hk⟩)
                  have HS7 := Aside0.mk (show Kd.S (Kd.slice 3 (Kd.int .i64)) 22 w6 w.heap.size (fun k => ¬ ChoB g l.length k ∧ ¬ k = gb) (.slice ao j co) ((List.range j).map (columnP (readsL l))) from Kd.S_below (Kd.S_mono (Kd.S_bound HO.out) (fun k hk => ⟨hk.1, fun e => by have := hk.2.2.1; have := HBA.out; omega⟩)) HB7.out)
                  have HP7 := Aside0.mk (show Kd.M (Kd.slice 3 (Kd.int .i64)) w6 w.heap.size (fun k => k = gb) T [.slice (some ⟨gb, 0, none⟩) T.length cap] from ⟨_, rfl, Kd.R_of_own (own_base HV7.out HB.out.size) (fun k hk => by simp [Value.ownBlock] at hk; exact hk.symm)⟩)
                  have HBW := Aside0.mk (show Below w.heap.size w w6 from HB.out.trans (HB7.out.mono HB.out.size))
                  clear HO
                  go_upto_region 25 with (at_builtin; refine Kd.S_append (Kd.slice 3 (Kd.int .i64)) (w0 := w) (W := w6) w.heap.size rfl (.tmp 54) (.tmp 56) 32 22 (.slice none 0 0) 24 rfl Tryd.underlying32 infoRow rfl (by decide) (by decide) (.slice ao j co) ((List.range j).map (columnP (readsL l))) T [.slice (some ⟨gb, 0, none⟩) T.length cap] (fun k => ¬ ChoB g l.length k) (fun k => k = gb) rfl rfl HP7.out (fun k hk => by subst hk; exact ⟨fun hb => by have := hb.2; have := HBA.out; have := HCLT.out; omega, fun e => by have := (HOW.out k e.symm).2; have := HBA.out; omega⟩) (fun k hk hb => by have := hb.2; have := HCLT.out; have := HB7.out.size; omega) HS7.out HBW.out HBW.out.size (by have := HLT.out; have := H8.out; simp; omega) ?_; intro v1 w7 hs7 hb7 hg7 hat7)
                  have HS8 := Aside0.mk (show Kd.S (Kd.slice 3 (Kd.int .i64)) 22 w7 w.heap.size (fun k => ¬ ChoB g l.length k) v1 ((List.range (j + 1)).map (columnP (readsL l))) from by
                    rw [List.range_succ, List.map_append, List.map_singleton, ← HT.out]
                    exact hs7)
                  have HC8 := Aside0.mk (HC.out.keep (W' := w7) fun k hk => (hg7.block k (by have := hk.2; have := HCLT.out; have := HB7.out.size; omega) (fun e => (HOW.out k e.symm).1 hk)).trans (HB7.out.block k (by have := hk.2; have := HCLT.out; omega)))
                  have HB8 := Aside0.mk hb7
                  clear hs7 hb7 hg7 hat7
                  go_wp2_with (fail)
                  go_roundw
                  case rel => exact ⟨j + 1, HLT.out, by rw [w_up HLT.out (by have := H8.out; omega)], HC8, HS8, HB8⟩
                  case measure => exact meas_up HLT.out (by have := H8.out; omega)
                · intro x c kl yd yp w4 cnt2 hkey hlk hv hat hrg2 hlt2 hg2 hs2 hen
                  obtain ⟨x', ex, rfl, hwf⟩ := Maps.keyOf_int_inv Tryd.underlying3 hkey
                  obtain rfl : x = x' := by simpa using ex
                  have HX := Aside0.mk (hC.out.step hlk ((HHAS.out x).symm.trans (Maps.has_true_of_atKey hat)))
                  have hnr : ∀ k, u11.ownBlock = some k → k ≠ WJ.heap.size ∧ WJ.heap.size ≤ k := fun k e => ⟨((Kd.R_bound hrow.out).1 k e).1, ((Kd.R_bound hrow.out).1 k e).2.1⟩
                  have HO4 := Aside0.mk (Kd.R_grown hrow.out hg2 (fun k hk e => hk (by injection e)))
                  have HB4 := Aside0.mk (hB.out.grown hg2 (Nat.le_of_lt hlt.out) (fun j hj => by cases hj; exact Nat.le_refl _))
                  have HL4 := Aside0.mk (show WJ.heap.size < w4.heap.size by rw [hs2]; exact hlt.out)
                  have HRG := Aside0.mk hrg2
                  have HNR := Aside0.mk hnr
                  have HLT4 := Aside0.mk hlt2
                  have HCL4 := Aside0.mk (show WJ.heap.size ≠ g + 2 + j by have := HC.out.lt (k := g + 2 + j) ⟨by omega, by have := HLT.out; omega⟩; omega)
                  clear hkey hlk hv hat hrg2 hg2 hs2 hwf hnr hlt2 hrow hC hrg
                  go_wp2_with (at_builtin; refine Kd.R_append_row (Value.int .i64) 0 (w0 := WJ) WJ.heap.size rfl (.tmp 48) (.tmp 50) 22 3 (.int .i64 0) 8 rfl Tryd.underlying22 (by kernel_rfl) rfl (by decide) u11 ss [x] (some ⟨w4.heap.size, 0, none⟩) 1 1 (fun k => k ≠ WJ.heap.size) rfl rfl (fun k hk => by have := HL4.out; simp at hk; omega) (Kd.R_below HO4.out (below_alloc (Below.refl _ _) _)) (one_CI ((World.cell?_alloc_at _ _ _ _ rfl).trans rfl)) (below_alloc HB4.out _) (by have := HL4.out; simp; omega) (by have := HSS.out; simp; omega) ?_; intro v1 w5 hr5 hb5 hg5 hat5)
                  have HRG5 := Aside0.mk ((HRG.out.alloc _).kept hg5 (fun e => by have := (HNR.out _ e.symm).2; have := HC.out.lt (k := g + 2 + j) ⟨by omega, by have := HLT.out; omega⟩; omega) (fun e => (HNR.out _ e.symm).1 rfl))
                  have hs5 := hg5.size
                  go_roundg cnt2
                  case measure => exact HLT4.out
                  case rel => exact ⟨_, ss ++ [x], HRG5, ⟨hr5⟩, HX, ⟨hb5⟩, ⟨by have := HL4.out; simp at hs5; omega⟩⟩
            · obtain rfl : j = l.length := by omega
              have hd : decide ((l.length : Int) < (l.length : Int)) = false := by simp
              have hdn : decide (l.length < l.length) = false := by simp
              clear hj hlt
              go_wp2_with (fail)
              rw [choL, if_pos H0.out, if_neg HR0.out]
              refine bodyPost_ret (results_tmp2 rfl _ _ _) rfl ?_
              exact ⟨_, rfl, Kd.S_mono HO.out (fun _ _ => trivial), HB.out⟩
  · have hne : (ck != 0) = true := by simp [h0]
    have H0 := Aside0.mk (show ¬ checkL l = 0 by rw [← hck]; exact h0)
    have HB1 := Aside0.mk hb1
    clear h0 hb1
    go_wp2
    rw [choL, if_neg H0.out, ← hck]
    refine bodyPost_ret (results_tmp2 rfl _ _ _) rfl ?_
    exact ⟨_, rfl, Kd.S_nil _ _ _ _ _, HB1.out⟩
end Go.Proofs.YtgfikondoehblaaDoor.Pr
end
section
namespace Go.Proofs.YtgfikondoehblaaDoor.Pr
open Go.RowKit Go.Shelf Go.Proofs.YtgfikondoehblaaDoorW.PrintWords Go.Proofs.YtgfikondoehblaaDoorW.PrintLast Go.Proofs.YtgfikondoehblaaDoorW.PrintMore Go.Proofs.SumKeep
open SumPlain (strikeStep fewer lexLtB)
def setL (n s : Nat) : List Int := ((List.range n).filter fun i : Nat => s.testBit i).map fun i : Nat => (i : Int)
def setTo (s k : Nat) : List Int := setL k s
def okL (l : List S38) (ss : List Int) : Bool := !(firstL (withoutL l ss) 1).isEmpty
def struckTo (l : List S38) (s : Nat) : Option (List Int) := ((List.range s).map (setL l.length)).foldl (strikeStep (okL l)) none
def struckL (l : List S38) : List Int × Int :=
  if checkL l = 0 then (match struckTo l (2 ^ l.length - 1) with | some b => (b, 0) | none => ([], 9)) else ([], checkL l)
def skipB (b : Option (List Int)) (ss : List Int) : Bool := match b with | some x => !fewer ss x | none => false
theorem struckTo_step (l : List S38) (s : Nat) : struckTo l (s + 1) = strikeStep (okL l) (struckTo l s) (setL l.length s) := by
  unfold struckTo
  rw [List.range_succ, List.map_append, List.foldl_append]
  rfl
theorem setL_step (s k : Nat) : setL (k + 1) s = setL k s ++ (if s.testBit k then [(k : Int)] else []) := by
  unfold setL
  rw [List.range_succ, List.filter_append, List.map_append]
  congr 1
  by_cases h : s.testBit k = true
  · rw [if_pos h]
    simp [List.filter_cons, h]
  · rw [if_neg h]
    simp [List.filter_cons, h]
theorem setL_len (s k : Nat) : (setL k s).length ≤ k := by
  unfold setL
  rw [List.length_map]
  refine Nat.le_trans (List.length_filter_le _ _) ?_
  rw [List.length_range]
  exact Nat.le_refl _
theorem setL_mem (s k i : Nat) : (setL k s).contains (i : Int) = (decide (i < k) && s.testBit i) := by
  rw [Bool.eq_iff_iff, List.contains_iff_mem]
  unfold setL
  simp only [List.mem_map, List.mem_filter, List.mem_range, Bool.and_eq_true, decide_eq_true_eq]
  constructor
  · rintro ⟨j, ⟨h1, h2⟩, h3⟩
    obtain rfl : j = i := by omega
    exact ⟨h1, h2⟩
  · rintro ⟨h1, h2⟩
    exact ⟨i, ⟨h1, h2⟩, rfl⟩
theorem bits_at : ∀ (s : Fin 256) (i : Fin 8), (Go.bits .and .i64 ((s.1 : Int) / 2 ^ min i.1 64) 1 == 1) = s.1.testBit i.1 := by decide +kernel
theorem pow_8 : ∀ n : Fin 9, wrap64 ((2 : Int) ^ min n.1 64) = ((2 ^ n.1 : Nat) : Int) ∧ 1 ≤ 2 ^ n.1 ∧ 2 ^ n.1 ≤ 256 := by decide +kernel
theorem some_bit : ∀ (n : Fin 9) (s : Fin 256), s.1 < 2 ^ n.1 - 1 → (List.range n.1).any (fun i => !s.1.testBit i) = true := by decide +kernel
theorem without_pos {l : List S38} {s : Nat} (h8 : l.length ≤ 8) (hs : s < 2 ^ l.length - 1) : 1 ≤ (withoutL l (setL l.length s)).length := by
  have hp := (pow_8 ⟨l.length, by omega⟩).2.2
  obtain ⟨i, hi, hb⟩ := List.any_eq_true.1 (some_bit ⟨l.length, by omega⟩ ⟨s, by simp only at hp; omega⟩ hs)
  simp only [List.mem_range] at hi
  unfold withoutL withoutTo
  rw [List.length_map]
  refine List.length_pos_of_mem (a := i) (List.mem_filter.2 ⟨List.mem_range.2 hi, ?_⟩)
  rw [setL_mem]
  simp only [Bool.not_eq_true'] at hb ⊢
  rw [hb]
  simp
theorem without_mem {l : List S38} {ss : List Int} {x : S38} (h : x ∈ withoutL l ss) : ∃ i : Nat, i < l.length ∧ x = rd_T38 l (i : Int) := by
  unfold withoutL withoutTo at h
  obtain ⟨i, hi, rfl⟩ := List.mem_map.1 h
  exact ⟨i, List.mem_range.1 (List.mem_filter.1 hi).1, rfl⟩
theorem without_size {l : List S38} (hs : ∀ i : Nat, i < l.length → (rd_T38 l (i : Int)).f1.size ≤ 9223372036854775807) (ss : List Int) : ∀ i : Nat, i < (withoutL l ss).length → (rd_T38 (withoutL l ss) (i : Int)).f1.size ≤ 9223372036854775807 := by
  intro i hi
  have hm : rd_T38 (withoutL l ss) (i : Int) ∈ withoutL l ss := by
    unfold rd_T38
    rw [Int.toNat_natCast, List.getD_eq_getElem?_getD, List.getElem?_eq_getElem hi]
    exact List.getElem_mem hi
  obtain ⟨j, hj, e⟩ := without_mem hm
  rw [e]
  exact hs j hj
set_option maxRecDepth 100000 in
set_option maxHeartbeats 8000000 in
theorem struck_calls (A : Option Addr) (c : Nat) (l : List S38) (w : World) (hr : Kd.C k38 w A l.length l) (hs : ∀ i : Nat, i < l.length → (rd_T38 l (i : Int)).f1.size ≤ 9223372036854775807) (hS : SignsAt w) :
    Calls Tryd.prog 27 #[.slice A l.length c] w fun e w' => ∃ v, e = .returned (.tuple #[v, .int .i64 (struckL l).2]) ∧ Kd.R (Kd.int .i64) 3 w' w.heap.size (fun _ => True) v (struckL l).1 ∧ Below w.heap.size w w' := by
  have HC := check_calls A c l w hr hs hS
  have HR := Aside0.mk hr
  have HS := Aside0.mk hS
  have HSZ := Aside0.mk hs
  clear hr hs hS
  obtain ⟨ck, hck⟩ : ∃ ck, ck = checkL l := ⟨_, rfl⟩
  rw [← hck] at HC
  have HCK := Aside0.mk hck
  go_enter Tryd.func27, Tryd.ntmps27
  go_wp2_with (go_at_call 38; refine HC.mono ?_)
  clear HC
  rintro e w1 ⟨rfl, hb1⟩
  by_cases h0 : ck = 0
  · have hne : (ck != 0) = false := by simp [h0]
    have H0 := Aside0.mk (show checkL l = 0 by rw [← hck]; exact h0)
    have HB1 := Aside0.mk hb1
    have H8 := Aside0.mk (checkL_len H0.out)
    have hp := pow_8 ⟨l.length, by have := H8.out; omega⟩
    simp only at hp
    obtain ⟨p2, hp2⟩ : ∃ p2, p2 = 2 ^ l.length := ⟨_, rfl⟩
    rw [← hp2] at hp
    have HP2 := Aside0.mk hp2
    have HPR := Aside0.mk hp.2
    have hsh := hp.1
    obtain ⟨N, hN⟩ : ∃ N, N = p2 - 1 := ⟨_, rfl⟩
    have hsub : wrap64 ((p2 : Int) - 1) = (N : Int) := by have := hp.2; unfold wrap64; omega
    have HNN := Aside0.mk (show N = 2 ^ l.length - 1 ∧ N ≤ 255 by rw [← hp2]; have := hp.2; omega)
    clear hN
    clear hck h0 hb1 hp hp2
    go_wp2_with (fail)
    have HSUB := Aside0.mk hsub
    clear hsh hsub
    go_loopw [5, 6, 7, 8, 9, 19, 20, 21, 22, 23, 24, 25, 26, 27, 28, 29, 30, 31, 32, 33, 34, 35, 36, 37, 38, 39, 40, 41, 42, 43, 44, 45, 46, 47, 48, 49, 50, 51, 52, 53, 54, 55, 56, 57, 58, 59, 60, 61, 62, 63, 64, 65] (fun v5 v6 _ _ _ jv _ _ _ _ _ _ _ _ _ _ _ _ _ _ _ _ _ _ _ _ _ _ _ _ _ _ _ _ _ _ _ _ _ _ _ _ _ _ _ _ _ _ _ _ _ _ wr => ∃ s : Nat, s ≤ N ∧ jv = .int .i64 (s : Int) ∧ Aside0 (∃ b, struckTo l s = b ∧ v6 = .bool b.isSome ∧ OwnInts wr w.heap.size v5 (b.getD [])) ∧ Aside0 (Below w.heap.size w wr))
      (fun _ _ _ _ _ jv _ _ _ _ _ _ _ _ _ _ _ _ _ _ _ _ _ _ _ _ _ _ _ _ _ _ _ _ _ _ _ _ _ _ _ _ _ _ _ _ _ _ _ _ _ _ _ => N - (intOf jv).toNat)
    case atStart => exact ⟨0, Nat.zero_le _, rfl, ⟨none, rfl, rfl, World.ownsRow_nil _ _ _ _⟩, HB1⟩
    case round =>
      clear HB1
      obtain ⟨s, hs, rfl, HO, HB⟩ := hrel
      obtain ⟨b, hb0, rfl, hb2⟩ := HO.out
      have HBE := Aside0.mk hb0
      have HBO := Aside0.mk hb2
      clear HO hb0 hb2
      by_cases hlt : s < N
      · have hd : decide ((s : Int) < wrap64 ((p2 : Int) - 1)) = true := by rw [HSUB.out]; simp; omega
        have hdn : decide (s < N) = true := by simp; omega
        have HLT := Aside0.mk hlt
        obtain ⟨Wi, rfl⟩ : ∃ Wi, Wi = wr := ⟨_, rfl⟩
        clear hlt hs
        go_wp2_with (fail)
        clear hd hdn
        go_loopw [8, 9, 24, 25, 26, 27, 28, 29, 30, 31, 32, 33, 34, 35, 36] (fun v8 _ kv _ _ _ _ _ _ _ _ _ _ _ _ wr => ∃ k : Nat, k ≤ l.length ∧ kv = .int .i64 (k : Int) ∧ Aside0 (Kd.R (Kd.int .i64) 3 wr Wi.heap.size (fun _ => True) v8 (setL k s)) ∧ Aside0 (Below Wi.heap.size Wi wr))
          (fun _ _ kv _ _ _ _ _ _ _ _ _ _ _ _ _ => l.length - (intOf kv).toNat)
        case atStart => exact ⟨0, Nat.zero_le _, rfl, ⟨Kd.R_nil _ _ _ _ _⟩, ⟨Below.refl _ _⟩⟩
        case round =>
          obtain ⟨k, hk, rfl, HL, HBI⟩ := hrel
          by_cases hlt : k < l.length
          · have hd : decide ((k : Int) < (l.length : Int)) = true := by simp; omega
            have hdn : decide (k < l.length) = true := by simp; omega
            have HKT := Aside0.mk hlt
            have hbit := bits_at ⟨s, by have := HLT.out; have := HNN.out; omega⟩ ⟨k, by have := H8.out; omega⟩
            simp only at hbit
            clear hlt hk
            cases hb : s.testBit k with
            | true =>
              rw [hb] at hbit
              have HSET := Aside0.mk (show setL (k + 1) s = setL k s ++ [(k : Int)] by rw [setL_step, if_pos hb])
              clear hb
              obtain ⟨ao, co, hv8⟩ := Kd.R_slice HL.out
              subst hv8
              go_wp2_with (at_builtin; refine Kd.R_append_row (Value.int .i64) 0 (w0 := Wi) Wi.heap.size rfl (.tmp 32) (.tmp 34) 22 3 (.int .i64 0) 8 rfl Tryd.underlying22 (by kernel_rfl) rfl (by decide) (.slice ao (setL k s).length co) (setL k s) [(k : Int)] (some ⟨wr.heap.size, 0, none⟩) 1 1 (fun _ => True) rfl rfl (fun _ _ => trivial) (Kd.R_below HL.out (below_alloc (Below.refl _ _) _)) (one_CI ((World.cell?_alloc_at _ _ _ _ rfl).trans rfl)) (below_alloc HBI.out _) (by have := HBI.out.size; simp; omega) (by have := setL_len s k; have := HKT.out; have := H8.out; simp; omega) ?_; intro v1 w5 hr5 hb5 hg5 hat5)
              go_roundw
              case rel => exact ⟨k + 1, HKT.out, by rw [w_up HKT.out (by have := H8.out; omega)], ⟨by rw [HSET.out]; exact hr5⟩, ⟨hb5⟩⟩
              case measure => exact meas_up HKT.out (by have := H8.out; omega)
            | false =>
              rw [hb] at hbit
              have HSET := Aside0.mk (show setL (k + 1) s = setL k s by rw [setL_step, if_neg (by rw [hb]; decide), List.append_nil])
              clear hb
              go_wp2_with (fail)
              go_roundw
              case rel => exact ⟨k + 1, HKT.out, by rw [w_up HKT.out (by have := H8.out; omega)], ⟨by rw [HSET.out]; exact HL.out⟩, HBI⟩
              case measure => exact meas_up HKT.out (by have := H8.out; omega)
          · obtain rfl : k = l.length := by omega
            have hd : decide ((l.length : Int) < (l.length : Int)) = false := by simp
            have hdn : decide (l.length < l.length) = false := by simp
            clear hlt hk
            obtain ⟨ss, hss⟩ : ∃ ss, ss = setL l.length s := ⟨_, rfl⟩
            rw [← hss] at HL
            have HSS := Aside0.mk hss
            have HSL := Aside0.mk (show ss.length ≤ 8 by rw [hss]; exact Nat.le_trans (setL_len s _) H8.out.2)
            obtain ⟨W3, rfl⟩ : ∃ W3, W3 = wr := ⟨_, rfl⟩
            have HBW := Aside0.mk (below_then HB.out HB.out.size HBI.out)
            have HBO3 := Aside0.mk (pw_own_below HBO.out HBI.out)
            have HLO := Aside0.mk (show OwnInts W3 Wi.heap.size u8 ss from Kd.own_of_R HL.out)
            have HLC := Aside0.mk (show ∃ A8 c8, u8 = .slice A8 ss.length c8 ∧ (Kd.int .i64).C W3 A8 ss.length ss from by
              obtain ⟨A8, c8, e1, e2, e3⟩ := Kd.R_reads HL.out
              exact ⟨A8, c8, e1, e3⟩)
            clear hss HL HBI HBO
            obtain ⟨A8, c8, h8, hC8⟩ := HLC.out
            subst h8
            have HC8 := Aside0.mk hC8
            have HSTEP := Aside0.mk (struckTo_step l s)
            rw [HBE.out, ← HSS.out] at HSTEP
            clear hC8 HLC
            go_upto_region 16 with (fail)
            clear hd hdn
            go_cut [37, 38, 39, 40, 41, 42, 43, 44, 45, 46, 47, 48, 49, 50, 51, 52, 53, 54, 55, 56, 57] (fun _ _ _ _ _ _ _ _ _ _ _ _ _ _ _ _ _ _ _ _ v57 wc => v57 = .bool (skipB b ss) ∧ Aside0 (Below W3.heap.size W3 wc))
            case first =>
              cases b with
              | none =>
                go_wp2
                go_meet
                case rel => exact ⟨rfl, ⟨Below.refl _ _⟩⟩
              | some x =>
                have hx5 : OwnInts W3 w.heap.size u5 x := HBO3.out
                obtain ⟨A5, c5, h5, _, hC5⟩ := Kd.R_reads (Kd.R_of_own (h1 := fun _ => rfl) (ok := fun _ => True) hx5 (fun _ _ => trivial))
                subst h5
                have HC5 := Aside0.mk hC5
                clear hx5 hC5
                by_cases hgt : x.length < ss.length
                · have g1 : decide ((x.length : Int) < (ss.length : Int)) = true := by simp; omega
                  have g2 : decide (x.length < ss.length) = true := by simp; omega
                  have g3 : decide ((ss.length : Int) > (x.length : Int)) = true := by simp; omega
                  have HF := Aside0.mk (show (!fewer ss x) = true by unfold fewer; rw [decide_eq_false (by omega), decide_eq_false (by omega)]; rfl)
                  clear hgt
                  go_wp2
                  go_meet
                  case rel => exact ⟨by rw [show skipB (some x) ss = !fewer ss x from rfl, HF.out], ⟨Below.refl _ _⟩⟩
                have g1 : decide ((x.length : Int) < (ss.length : Int)) = false := by simp; omega
                have g2 : decide (x.length < ss.length) = false := by simp; omega
                have g3 : decide ((ss.length : Int) > (x.length : Int)) = false := by simp; omega
                by_cases heq : ss.length = x.length
                · have g4 : ((ss.length : Int) == (x.length : Int)) = true := by rw [heq]; exact beq_self_eq_true _
                  have g5 : (ss.length == x.length) = true := by rw [heq]; exact beq_self_eq_true _
                  have HF := Aside0.mk (show (!fewer ss x) = !lexLtB ss x by unfold fewer; rw [decide_eq_false (by omega), decide_eq_true heq, Bool.false_or, Bool.true_and])
                  have HCMP := Aside0.mk (compare_calls ss x heq (by have := HSL.out; omega) A8 A5 c8 c5 W3 HC8.out HC5.out)
                  clear hgt heq
                  go_wp2_with (go_at_call 58; refine HCMP.out.mono ?_; rintro e w4 ⟨⟨i, rfl, hi⟩, hb4⟩; have HB4 := Aside0.mk hb4; clear hb4)
                  go_meet
                  case rel => exact ⟨by rw [show skipB (some x) ss = !fewer ss x from rfl, HF.out], HB4⟩
                · have g4 : ((ss.length : Int) == (x.length : Int)) = false := by rw [beq_eq_false_iff_ne]; omega
                  have g5 : (ss.length == x.length) = false := by rw [beq_eq_false_iff_ne]; omega
                  have HF := Aside0.mk (show (!fewer ss x) = false by unfold fewer; rw [decide_eq_true (by omega)]; rfl)
                  clear hgt heq
                  go_wp2
                  go_meet
                  case rel => exact ⟨by rw [show skipB (some x) ss = !fewer ss x from rfl, HF.out], ⟨Below.refl _ _⟩⟩
            case rest =>
              obtain ⟨hv57, HBC⟩ := hcut
              obtain ⟨sk, hsk⟩ : ∃ sk, sk = skipB b ss := ⟨_, rfl⟩
              rw [← hsk] at hv57
              subst hv57
              have HB4 := Aside0.mk (below_then HBW.out HBW.out.size HBC.out)
              have HBO4 := Aside0.mk (pw_own_below HBO3.out HBC.out)
              have HNL := Aside0.mk (show N ≤ 9223372036854775807 by have := HNN.out; omega)
              cases sk with
              | true =>
                have HE := Aside0.mk (show struckTo l (s + 1) = b by
                  rw [HSTEP.out]
                  cases b with
                  | none => cases hsk
                  | some x =>
                    have hf : fewer ss x = false := by
                      have h1 : (!fewer ss x) = true := hsk.symm
                      cases hq : fewer ss x with
                      | true => rw [hq] at h1; cases h1
                      | false => rfl
                    unfold strikeStep
                    simp only [hf]
                    rfl)
                clear hsk
                go_wp2
                go_roundw
                case rel => exact ⟨s + 1, HLT.out, by rw [w_up HLT.out HNL.out], ⟨b, HE.out, rfl, HBO4.out⟩, HB4⟩
                case measure => exact meas_up HLT.out HNL.out
              | false =>
                have HFW := Aside0.mk (show ∀ x, b = some x → fewer ss x = true from fun x hx => by
                  rw [hx] at hsk
                  have h1 : (!fewer ss x) = false := hsk.symm
                  cases hq : fewer ss x with
                  | true => rfl
                  | false => rw [hq] at h1; cases h1)
                obtain ⟨FL, hFL⟩ : ∃ FL, FL = firstL (withoutL l ss) 1 := ⟨_, rfl⟩
                have HW1 := Aside0.mk (show 1 ≤ (withoutL l ss).length ∧ (withoutL l ss).length ≤ 8 from ⟨by
                  rw [HSS.out]
                  exact without_pos H8.out.2 (by have := HLT.out; have := HNN.out.1; omega), Nat.le_trans (withoutTo_len l ss l.length) H8.out.2⟩)
                have HLO4 := Aside0.mk (pw_own_below HLO.out HBC.out)
                have HFI := Aside0.mk (show ∀ (A6 : Option Addr) (c6 : Nat) (w5 : World), Below w.heap.size w w5 → Kd.C k38 w5 A6 (withoutL l ss).length (withoutL l ss) → _ from fun A6 c6 w5 hb hc => first_calls A6 c6 (withoutL l ss) 1 ⟨by omega, by omega⟩ w5 hc (without_size HSZ.out ss) (HS.out.new hb) HW1.out)
                rw [← hFL] at HFI
                have HWI := Aside0.mk (without_calls A c l H8.out.2 (.slice A8 ss.length c8) ss Wi.heap.size wc (Kd.C_below HR.out HB4.out) HLO4.out)
                cases hfe : FL.isEmpty with
                | true =>
                  have hnil : FL = [] := List.isEmpty_iff.1 hfe
                  have HE := Aside0.mk (show struckTo l (s + 1) = b by
                    have hok : okL l ss = false := by unfold okL; rw [← hFL, hfe]; rfl
                    rw [HSTEP.out]
                    unfold strikeStep
                    rw [hok]
                    cases b with
                    | none => rfl
                    | some x =>
                      simp only [HFW.out x rfl]
                      rfl)
                  rw [hnil] at HFI
                  clear hsk hfe hnil hFL
                  have l0 : decide ((0 : Int) < (([] : List (List Int)).length : Int)) = false := by simp
                  have l1 : decide (0 < ([] : List (List Int)).length) = false := by simp
                  go_wp2_with (first | (go_at_call 60; refine HWI.out.mono ?_; rintro e w5 ⟨v7, rfl, hr5, hb5⟩; obtain ⟨A6, c6, hv7, _, hC6⟩ := Kd.R_reads hr5; subst hv7; have HB5 := Aside0.mk (below_then HB4.out HB4.out.size hb5); have HB45 := Aside0.mk hb5; have HF6 := Aside0.mk (HFI.out A6 c6 w5 HB5.out hC6); clear hr5 hb5 hC6) | (go_at_call 59; refine HF6.out.mono ?_; rintro e w6 ⟨v8, rfl, hs6, hb6⟩; obtain ⟨A7, c7, hv8⟩ := Kd.S_slice hs6; subst hv8; have HB6 := Aside0.mk (below_then HB45.out HB45.out.size hb6); clear hs6 hb6))
                  go_roundw
                  case rel => exact ⟨s + 1, HLT.out, by rw [w_up HLT.out HNL.out], ⟨b, HE.out, rfl, pw_own_below HBO4.out HB6.out⟩, ⟨below_then HB4.out HB4.out.size HB6.out⟩⟩
                  case measure => exact meas_up HLT.out HNL.out
                | false =>
                  have hpos : 0 < FL.length := by
                    cases FL with
                    | nil => cases hfe
                    | cons a t => exact Nat.succ_pos _
                  have HE := Aside0.mk (show struckTo l (s + 1) = some ss by
                    have hok : okL l ss = true := by unfold okL; rw [← hFL, hfe]; rfl
                    rw [HSTEP.out]
                    unfold strikeStep
                    rw [hok]
                    cases b with
                    | none => rfl
                    | some x =>
                      simp only [HFW.out x rfl]
                      rfl)
                  have l0 : decide ((0 : Int) < (FL.length : Int)) = true := by simp; omega
                  have l1 : decide (0 < FL.length) = true := by simp; omega
                  clear hsk hfe hFL hpos
                  go_wp2_with (first | (go_at_call 60; refine HWI.out.mono ?_; rintro e w5 ⟨v7, rfl, hr5, hb5⟩; obtain ⟨A6, c6, hv7, _, hC6⟩ := Kd.R_reads hr5; subst hv7; have HB5 := Aside0.mk (below_then HB4.out HB4.out.size hb5); have HB45 := Aside0.mk hb5; have HF6 := Aside0.mk (HFI.out A6 c6 w5 HB5.out hC6); clear hr5 hb5 hC6) | (go_at_call 59; refine HF6.out.mono ?_; rintro e w6 ⟨v8, rfl, hs6, hb6⟩; obtain ⟨A7, c7, hv8⟩ := Kd.S_slice hs6; subst hv8; have HB6 := Aside0.mk (below_then HB45.out HB45.out.size hb6); clear hs6 hb6))
                  go_roundw
                  case rel => exact ⟨s + 1, HLT.out, by rw [w_up HLT.out HNL.out], ⟨some ss, HE.out, rfl, own_base (pw_own_below HLO4.out HB6.out) HB.out.size⟩, ⟨below_then HB4.out HB4.out.size HB6.out⟩⟩
                  case measure => exact meas_up HLT.out HNL.out
      · obtain rfl : s = N := by omega
        have hd : decide ((s : Int) < wrap64 ((p2 : Int) - 1)) = false := by rw [HSUB.out]; simp
        clear hlt hs
        cases b with
        | none =>
          have HE := Aside0.mk (show struckL l = ([], 9) by unfold struckL; rw [if_pos H0.out, ← HNN.out.1, HBE.out])
          go_wp2_with (fail)
          rw [HE.out]
          refine bodyPost_ret (results_tmp2 rfl _ _ _) rfl ?_
          exact ⟨_, rfl, Kd.R_nil _ _ _ _ _, HB.out⟩
        | some x =>
          have HE := Aside0.mk (show struckL l = (x, 0) by unfold struckL; rw [if_pos H0.out, ← HNN.out.1, HBE.out])
          go_wp2_with (fail)
          rw [HE.out]
          refine bodyPost_ret (results_tmp2 rfl _ _ _) rfl ?_
          exact ⟨_, rfl, Kd.R_of_own HBO.out (fun _ _ => trivial), HB.out⟩
  · have hne : (ck != 0) = true := by simp [h0]
    have H0 := Aside0.mk (show ¬ checkL l = 0 by rw [← hck]; exact h0)
    have HB1 := Aside0.mk hb1
    clear h0 hb1
    go_wp2
    rw [struckL, if_neg H0.out, ← hck]
    refine bodyPost_ret (results_tmp2 rfl _ _ _) rfl ?_
    exact ⟨_, rfl, Kd.R_nil _ _ _ _ _, HB1.out⟩
end Go.Proofs.YtgfikondoehblaaDoor.Pr
end
