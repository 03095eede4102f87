/- Part 14 of 21 of the proof of: SumsLess: for every slice of numbers, the law returns true: without the entries that Struck names an account made of them adds up, and without fewer ones, or as many that come before, it does not; no condition beyond the statement's own. -/
import Derived.Test.YtgfikondoehblaaDoorLE1
import Derived.Test.YtgfikondoehblaaDoorLE9
import Derived.Test.YtgfikondoehblaaDoorLE13
set_option linter.unusedVariables false
set_option linter.unusedSimpArgs false
set_option linter.unusedSectionVars false
section
namespace Go.Proofs.YtgfikondoehblaaDoor.Pr
open Go.RowKit Go.Shelf Go.Proofs.YtgfikondoehblaaDoorW.PrintWords Go.Proofs.YtgfikondoehblaaDoorW.PrintLast Go.Proofs.YtgfikondoehblaaDoorW.PrintMore
open SumPlain (numGo signsP numeralP fitsP valuesTo valuesP entryErr entriesErr checkA Ent lostP)
attribute [local go_sem] Oper.semAt_some
def MarksIs (b : Nat) (ds : List Deferred) (W : World) : Prop := (∀ d ∈ ds, ∃ D, d = { target := .collected D, args := #[] } ∧ b ≤ D ∧ W.heap[D]? = some (.deferred (some []))) ∧ ds.Nodup
theorem leaves_marks {C : World → Prop} {b : Nat} (hC : ∀ (W : World) (D : Nat) (o : Obj), C W → b ≤ D → W.heap[D]? = some (.deferred (some [])) → C (W.putObj D o)) {F : Fence} {n : Nat} {P : Program} {fn : Func} {tmps : Array Value} {R : Ending → World → Prop}
    (hend : ∀ W, C W → LeavesIn F n P fn tmps R [] .returning W) : ∀ (ds : List Deferred) (W : World), MarksIs b ds W → C W → LeavesInM F n P fn tmps R ds .returning W
  | [], W, _, h => hend W h
  | d :: ds, W, hm, h => by
    obtain ⟨D, rfl, hb, hD⟩ := hm.1 d (List.mem_cons_self)
    refine ⟨by simp, .inl ⟨_, _, rfl, run_takeDeferred hD, ?_⟩⟩
    refine leaves_marks hC hend ds _ ⟨fun d' hd' => ?_, (List.nodup_cons.1 hm.2).2⟩ (hC _ _ _ h hb hD)
    obtain ⟨D', rfl, hb', hD'⟩ := hm.1 d' (List.mem_cons_of_mem _ hd')
    refine ⟨D', rfl, hb', ?_⟩
    have hne : D ≠ D' := by
      rintro rfl
      exact (List.nodup_cons.1 hm.2).1 hd'
    simp only [World.putObj]
    rw [Array.getElem?_setIfInBounds_ne hne]
    exact hD'
theorem MarksIs.below {b : Nat} {ds : List Deferred} {W W1 : World} (h : MarksIs b ds W) (hb : Below W.heap.size W W1) : MarksIs b ds W1 :=
  ⟨fun d hd => by
    obtain ⟨D, e, h1, h2⟩ := h.1 d hd
    exact ⟨D, e, h1, (hb.block D (blk_lt h2)).trans h2⟩, h.2⟩
theorem MarksIs.cons {b : Nat} {ds : List Deferred} {W0 W : World} {D : Nat} (h : MarksIs b ds W0) (hb : Below W0.heap.size W0 W) (hD : W.heap[D]? = some (.deferred (some []))) (hlt : W0.heap.size ≤ D) (hbD : b ≤ D) : MarksIs b ({ target := .collected D, args := #[] } :: ds) W := by
  refine ⟨fun d hd => ?_, List.nodup_cons.2 ⟨fun hd => ?_, h.2⟩⟩
  · rcases List.mem_cons.1 hd with rfl | hd
    · exact ⟨D, rfl, hbD, hD⟩
    · exact (h.below hb).1 d hd
  · obtain ⟨D', e, _, h2⟩ := h.1 _ hd
    have h3 := blk_lt h2
    simp only [Deferred.mk.injEq, Target.collected.injEq, and_true] at e
    omega
theorem leaves_below {w : World} {F : Fence} {n : Nat} {P : Program} {fn : Func} {tmps : Array Value} {R : Ending → World → Prop}
    (hend : ∀ W, Below w.heap.size w W → LeavesIn F n P fn tmps R [] .returning W) (ds : List Deferred) (W : World) (hm : MarksIs w.heap.size ds W) (hb : Below w.heap.size w W) : LeavesInM F n P fn tmps R ds .returning W :=
  leaves_marks (C := fun W => Below w.heap.size w W) (b := w.heap.size) (fun W D o h hb hD => h.trans (belowK_b (w := w) (Nat.le_refl _) W D _ _ hb hD rfl rfl)) hend ds W hm hb

def toEnt (x : S38) : Ent := ⟨x.f0, intsOf x.f1⟩
def entAt (l : List S38) (j : Nat) : Ent := toEnt (rd_T38 l (j : Int))
def lostTo (l : List S38) : Nat → Nat
  | 0 => 0
  | k + 1 => lostTo l k + lostP (entAt l k).signs
def checkL (l : List S38) : Int := checkA (l.map toEnt)
theorem entAt_get {l : List S38} {j : Nat} (h : j < l.length) : (l.map toEnt)[j]? = some (entAt l j) := by
  rw [List.getElem?_map, List.getElem?_eq_getElem h]
  simp [entAt, rd_T38, List.getD_eq_getElem?_getD, List.getElem?_eq_getElem h]
theorem entriesErr_at {es : List Ent} {k : Nat} {e : Ent} (he : es[k]? = some e) (h0 : ∀ j, j < k → ∀ x, es[j]? = some x → entryErr x = 0) (h1 : entryErr e ≠ 0) : entriesErr es = entryErr e := by
  induction es generalizing k with
  | nil => simp at he
  | cons x r ih =>
    cases k with
    | zero =>
      simp at he
      subst he
      rw [entriesErr, if_neg h1]
    | succ k =>
      rw [entriesErr, if_pos (h0 0 (by omega) x (by simp))]
      exact ih (by simpa using he) (fun j hj y hy => h0 (j + 1) (by omega) y (by simpa using hy))
theorem lostTo_sum (l : List S38) : ∀ k, k ≤ l.length → lostTo l k = (((l.map toEnt).take k).map fun e => lostP e.signs).sum
  | 0, _ => by simp [lostTo]
  | k + 1, h => by
    rw [lostTo, lostTo_sum l k (by omega), List.take_add_one, entAt_get (by omega)]
    simp
theorem lost_le (s : List Int) : lostP s ≤ s.length := List.length_filter_le _ _
theorem lostTo_le {l : List S38} {k : Nat} (h0 : ∀ j, j < k → entryErr (entAt l j) = 0) : lostTo l k ≤ 19 * k := by
  induction k with
  | zero => simp [lostTo]
  | succ k ih =>
    have h1 := ih (fun j hj => h0 j (by omega))
    have h2 := h0 k (by omega)
    have h3 := lost_le (entAt l k).signs
    have h4 : (entAt l k).signs.length ≤ 19 := by
      unfold entryErr at h2
      split at h2
      · omega
      · split at h2
        · omega
        · omega
    rw [lostTo]
    omega
theorem checkL_err {l : List S38} (h1 : 1 ≤ l.length) (h8 : l.length ≤ 8) {k : Nat} (hk : k < l.length) (h0 : ∀ j, j < k → entryErr (entAt l j) = 0) (he : entryErr (entAt l k) ≠ 0) : checkL l = entryErr (entAt l k) := by
  have := entriesErr_at (entAt_get hk) (fun j hj x hx => by rw [entAt_get (by omega)] at hx; cases hx; exact h0 j hj) he
  unfold checkL checkA
  rw [List.length_map, if_neg (by omega), if_neg (by omega), this, if_neg he]
theorem checkL_end {l : List S38} (h1 : 1 ≤ l.length) (h8 : l.length ≤ 8) (h0 : ∀ j, j < l.length → entryErr (entAt l j) = 0) : checkL l = if lostTo l l.length > 5 then 6 else 0 := by
  have : entriesErr (l.map toEnt) = 0 := SumPlain.entriesErr_zero fun e he => by
    obtain ⟨j, hj, rfl⟩ := List.getElem_of_mem he
    rw [List.length_map] at hj
    have h2 := entAt_get hj
    rw [List.getElem?_eq_getElem (by rw [List.length_map]; exact hj)] at h2
    rw [Option.some.inj h2]
    exact h0 j hj
  unfold checkL checkA
  rw [List.length_map, if_neg (by omega), if_neg (by omega), if_pos this, lostTo_sum l _ (Nat.le_refl _), List.take_of_length_le (by rw [List.length_map]; exact Nat.le_refl _)]
theorem count_lost (s : ByteArray) : Lib.countByte s.data.toList 63 = lostP (intsOf s) := by
  unfold Lib.countByte lostP intsOf
  rw [List.count, List.filter_map, List.length_map, List.countP_eq_length_filter]
  congr 1
  refine List.filter_congr fun b _ => ?_
  simp only [Function.comp]
  rw [Bool.eq_iff_iff, beq_iff_eq, beq_iff_eq]
  constructor
  · rintro rfl
    rfl
  · intro h
    exact UInt8.toNat_inj.1 (by have h2 : (63 : UInt8).toNat = 63 := rfl; omega)
theorem toList_loop (s : ByteArray) : ∀ (n i : Nat) (r : List UInt8), s.size - i = n → (ByteArray.toList.loop s i r).length = r.length + (s.size - i) := by
  intro n
  induction n with
  | zero =>
    intro i r h
    unfold ByteArray.toList.loop
    rw [if_neg (by omega)]
    simp
    omega
  | succ n ih =>
    intro i r h
    unfold ByteArray.toList.loop
    rw [if_pos (by omega), ih (i + 1) _ (by omega), List.length_cons]
    omega
theorem toList_length (s : ByteArray) : s.toList.length = s.size := by
  unfold ByteArray.toList
  rw [toList_loop s s.size 0 [] (by omega)]
  simp
theorem toList_nil : (⟨#[]⟩ : ByteArray).toList = [] := List.eq_nil_of_length_eq_zero (by rw [toList_length]; rfl)
theorem toList_eq_nil (s : ByteArray) : (s.toList == []) = decide (s.size = 0) := by
  rw [Bool.eq_iff_iff, beq_iff_eq, decide_eq_true_iff, ← toList_length]
  exact ⟨fun h => by rw [h]; rfl, List.eq_nil_of_length_eq_zero⟩
theorem eql_nil (s : ByteArray) (w : World) : (binOp .eql 9 (.string s) (.string ⟨#[]⟩)).run Tryd.prog w = .ok (.bool (decide (s.size = 0))) w := by
  rw [binOp_string_eql, toList_nil, toList_eq_nil]
  rfl
theorem eq_nil_bool (s : ByteArray) : (s.toList == (⟨#[]⟩ : ByteArray).toList) = decide (s.size = 0) := by rw [toList_nil, toList_eq_nil]
theorem w_sum {a b : Nat} (h : a + b ≤ 9223372036854775807) : wrap64 ((a : Int) + (b : Int)) = ((a + b : Nat) : Int) := by unfold wrap64; omega
def badC (c : Int) : Bool := c != 63 && decide (SumPlain.placeP c < 0)
theorem bad_any {s : List Int} {j : Nat} {x : Int} (h : s[j]? = some x) (hb : badC x = true) : s.any (fun c => c != 63 && decide (SumPlain.placeP c < 0)) = true :=
  List.any_eq_true.2 ⟨x, List.mem_of_getElem? h, hb⟩
theorem good_any {s : List Int} (h : ∀ (i : Nat) (x : Int), s[i]? = some x → badC x = false) : s.any (fun c => c != 63 && decide (SumPlain.placeP c < 0)) = false := by
  rw [Bool.eq_false_iff]
  intro hc
  obtain ⟨x, hx, hb⟩ := List.any_eq_true.1 hc
  obtain ⟨i, hi, rfl⟩ := List.getElem_of_mem hx
  have := h i _ (List.getElem?_eq_getElem hi)
  unfold badC at this
  rw [this] at hb
  cases hb
theorem ints_get {s : ByteArray} {j : Nat} (h : j < s.size) : (intsOf s)[j]? = some ((s[j]'h).toNat : Int) := by
  rw [List.getElem?_eq_getElem (by rw [intsOf_length]; exact h)]
  simp only [intsOf, List.getElem_map]
  rfl
theorem index_str (s : ByteArray) (j : Nat) (h : j < s.size) (w : World) : (Instr.index 9 (.string s) (.int .i64 (j : Int))).run Tryd.prog w = .ok (.int .u8 ((s[j]'h).toNat : Int)) w := by
  rw [run_index_string w _ _ _ _ Tryd.underlying9, dif_pos ⟨by omega, by omega⟩]
  rfl
set_option maxRecDepth 100000 in
set_option maxHeartbeats 8000000 in
theorem check_calls (A : Option Addr) (c : Nat) (l : List S38) (w : World) (hr : Kd.C k38 w A l.length l) (hs : ∀ i : Nat, i < l.length → (rd_T38 l (i : Int)).f1.size ≤ 9223372036854775807) (hS : SignsAt w) :
    Calls Tryd.prog 38 #[.slice A l.length c] w fun e w' => e = .returned (.int .i64 (checkL l)) ∧ Below w.heap.size w w' := by
  have HS := Aside0.mk hS
  have HR := Aside0.mk hr
  have HSZ := Aside0.mk hs
  clear hS hr hs
  refine callsIn_wide (n := 10).1 ?_
  refine callsIn_of_wp_marks Tryd.func38 rfl trivial ?_ rfl
  simp only [Tryd.ntmps38, List.size_toArray, List.length_cons, List.length_nil, Nat.reduceAdd, Nat.reduceSub, Array.replicate_succ, Array.replicate_zero, List.push_toArray, List.append_toArray, List.nil_append, List.cons_append]
  refine wpIn_wide.2 ?_
  by_cases h0 : l.length = 0
  · have hd : ((l.length : Int) == 0) = true := by simp [h0]
    have hdn : (l.length == 0) = true := by simp [h0]
    have HE := Aside0.mk (show checkL l = 7 by unfold checkL checkA; rw [List.length_map, if_pos h0])
    clear h0
    go_wp2_with (fail)
    rw [HE.out]
    exact ⟨_, results_tmp (show Tryd.f38.results = #[ResultVar.tmp 2] from rfl) _ _ _, rfl, Below.refl _ _⟩
  by_cases h8 : l.length ≤ 8
  case neg =>
    have hd : ((l.length : Int) == 0) = false := by rw [beq_eq_false_iff_ne]; omega
    have hdn : (l.length == 0) = false := by rw [beq_eq_false_iff_ne]; omega
    have hd2 : decide ((8 : Int) < (l.length : Int)) = true := by simp; omega
    have hd2n : decide (8 < l.length) = true := by simp; omega
    have HE := Aside0.mk (show checkL l = 6 by unfold checkL checkA; rw [List.length_map, if_neg h0, if_pos (by omega)])
    clear h0 h8
    go_wp2_with (fail)
    rw [HE.out]
    exact ⟨_, results_tmp (show Tryd.f38.results = #[ResultVar.tmp 2] from rfl) _ _ _, rfl, Below.refl _ _⟩
  have hd : ((l.length : Int) == 0) = false := by rw [beq_eq_false_iff_ne]; omega
  have hdn : (l.length == 0) = false := by rw [beq_eq_false_iff_ne]; omega
  have hd2 : decide ((8 : Int) < (l.length : Int)) = false := by simp; omega
  have hd2n : decide (8 < l.length) = false := by simp; omega
  have H18 := Aside0.mk (show 1 ≤ l.length ∧ l.length ≤ 8 by omega)
  clear h0 h8
  go_wp2_with (fail)

  refine wp_loop_ghost_k (fun gk a W => ∃ (u2 u4 u5 u6 u7 u8 u9 u10 u11 u12 u13 u14 u15 u19 u20 u21 u22 u23 u24 u25 u26 u27 u28 u29 u30 u31 u32 u33 u34 u35 u36 u37 u38 u39 u40 u41 u42 u43 u44 u45 u46 u47 u48 u49 u50 u51 u52 u53 u54 u55 u56 u57 u58 u59 u60 u61 u62 u63 u64 u65 u66 u67 u68 u69 u70 : Value) (k : Nat) (ds : List Deferred), gk + k = l.length ∧ a = { tmps := #[.slice A l.length c, undef, u2, .int .i64 ((lostTo l k : Nat) : Int), u4, u5, u6, u7, u8, u9, u10, u11, u12, u13, u14, u15, .slice A l.length c, .int .i64 (l.length : Int), .int .i64 (k : Int), u19, u20, u21, u22, u23, u24, u25, u26, u27, u28, u29, u30, u31, u32, u33, u34, u35, u36, u37, u38, u39, u40, u41, u42, u43, u44, u45, u46, u47, u48, u49, u50, u51, u52, u53, u54, u55, u56, u57, u58, u59, u60, u61, u62, u63, u64, u65, u66, u67, u68, u69, u70], defers := ds } ∧ Aside0 (MarksIs w.heap.size ds W) ∧ Aside0 (Below w.heap.size w W) ∧ Aside0 (∀ j, j < k → entryErr (entAt l j) = 0)) l.length ?start ?round
  case start =>
    exact ⟨_, _, _, _, _, _, _, _, _, _, _, _, _, _, _, _, _, _, _, _, _, _, _, _, _, _, _, _, _, _, _, _, _, _, _, _, _, _, _, _, _, _, _, _, _, _, _, _, _, _, _, _, _, _, _, _, _, _, _, _, _, _, _, _, _, 0, [], by omega, rfl, ⟨fun d hd => (by cases hd), List.nodup_nil⟩, ⟨Below.refl _ _⟩, ⟨fun j hj => absurd hj (by omega)⟩⟩
  case round =>
    intro gk a w1 hinv
    obtain ⟨u2, hinv⟩ := hinv
    obtain ⟨u4, hinv⟩ := hinv
    obtain ⟨u5, hinv⟩ := hinv
    obtain ⟨u6, hinv⟩ := hinv
    obtain ⟨u7, hinv⟩ := hinv
    obtain ⟨u8, hinv⟩ := hinv
    obtain ⟨u9, hinv⟩ := hinv
    obtain ⟨u10, hinv⟩ := hinv
    obtain ⟨u11, hinv⟩ := hinv
    obtain ⟨u12, hinv⟩ := hinv
    obtain ⟨u13, hinv⟩ := hinv
    obtain ⟨u14, hinv⟩ := hinv
    obtain ⟨u15, hinv⟩ := hinv
    obtain ⟨u19, hinv⟩ := hinv
    obtain ⟨u20, hinv⟩ := hinv
    obtain ⟨u21, hinv⟩ := hinv
    obtain ⟨u22, hinv⟩ := hinv
    obtain ⟨u23, hinv⟩ := hinv
    obtain ⟨u24, hinv⟩ := hinv
    obtain ⟨u25, hinv⟩ := hinv
    obtain ⟨u26, hinv⟩ := hinv
    obtain ⟨u27, hinv⟩ := hinv
    obtain ⟨u28, hinv⟩ := hinv
    obtain ⟨u29, hinv⟩ := hinv
    obtain ⟨u30, hinv⟩ := hinv
    obtain ⟨u31, hinv⟩ := hinv
    obtain ⟨u32, hinv⟩ := hinv
    obtain ⟨u33, hinv⟩ := hinv
    obtain ⟨u34, hinv⟩ := hinv
    obtain ⟨u35, hinv⟩ := hinv
    obtain ⟨u36, hinv⟩ := hinv
    obtain ⟨u37, hinv⟩ := hinv
    obtain ⟨u38, hinv⟩ := hinv
    obtain ⟨u39, hinv⟩ := hinv
    obtain ⟨u40, hinv⟩ := hinv
    obtain ⟨u41, hinv⟩ := hinv
    obtain ⟨u42, hinv⟩ := hinv
    obtain ⟨u43, hinv⟩ := hinv
    obtain ⟨u44, hinv⟩ := hinv
    obtain ⟨u45, hinv⟩ := hinv
    obtain ⟨u46, hinv⟩ := hinv
    obtain ⟨u47, hinv⟩ := hinv
    obtain ⟨u48, hinv⟩ := hinv
    obtain ⟨u49, hinv⟩ := hinv
    obtain ⟨u50, hinv⟩ := hinv
    obtain ⟨u51, hinv⟩ := hinv
    obtain ⟨u52, hinv⟩ := hinv
    obtain ⟨u53, hinv⟩ := hinv
    obtain ⟨u54, hinv⟩ := hinv
    obtain ⟨u55, hinv⟩ := hinv
    obtain ⟨u56, hinv⟩ := hinv
    obtain ⟨u57, hinv⟩ := hinv
    obtain ⟨u58, hinv⟩ := hinv
    obtain ⟨u59, hinv⟩ := hinv
    obtain ⟨u60, hinv⟩ := hinv
    obtain ⟨u61, hinv⟩ := hinv
    obtain ⟨u62, hinv⟩ := hinv
    obtain ⟨u63, hinv⟩ := hinv
    obtain ⟨u64, hinv⟩ := hinv
    obtain ⟨u65, hinv⟩ := hinv
    obtain ⟨u66, hinv⟩ := hinv
    obtain ⟨u67, hinv⟩ := hinv
    obtain ⟨u68, hinv⟩ := hinv
    obtain ⟨u69, hinv⟩ := hinv
    obtain ⟨u70, hinv⟩ := hinv
    obtain ⟨k, ds, hgk, rfl, HM, HB, HE⟩ := hinv
    intro J K hJ hK
    try dsimp only
    clear hd hdn hd2 hd2n
    cases gk with
    | zero =>
      obtain rfl : k = l.length := by omega
      have c1 : decide (l.length < l.length) = false := by simp
      have HC := Aside0.mk (checkL_end H18.out.1 H18.out.2 HE.out)
      by_cases hlo : lostTo l l.length > 5
      · have c2 : decide ((5 : Int) < ((lostTo l l.length : Nat) : Int)) = true := by simp; omega
        have c2n : decide (5 < lostTo l l.length) = true := by simp; omega
        have HL := Aside0.mk hlo
        clear hlo
        go_wp2_with (fail)
        refine leaves_below ?_ ds w1 HM.out HB.out
        intro W hW
        refine ⟨_, results_tmp (show Tryd.f38.results = #[ResultVar.tmp 2] from rfl) _ _ _, ?_, hW⟩
        rw [HC.out, if_pos HL.out]
        rfl
      · have c2 : decide ((5 : Int) < ((lostTo l l.length : Nat) : Int)) = false := by simp; omega
        have c2n : decide (5 < lostTo l l.length) = false := by simp; omega
        have HL := Aside0.mk hlo
        clear hlo
        go_wp2_with (fail)
        refine leaves_below ?_ ds w1 HM.out HB.out
        intro W hW
        refine ⟨_, results_tmp (show Tryd.f38.results = #[ResultVar.tmp 2] from rfl) _ _ _, ?_, hW⟩
        rw [HC.out, if_neg HL.out]
        rfl
    | succ g0 =>
      have hlt : k < l.length := by omega
      have c1 : decide (k < l.length) = true := by simp; omega
      obtain ⟨ad, e, hx0, hx1⟩ := at_T38 HR.out k (by omega) (by omega)
      cases e
      rw [Int.toNat_natCast] at hx0 hx1
      replace hx0 := (HB.out.cell (World.block_lt_of_cell? w _ hx0)).trans hx0
      replace hx1 := (HB.out.cell (World.block_lt_of_cell? w _ hx1)).trans hx1
      obtain ⟨kd, hkd⟩ : ∃ kd, kd = (rd_T38 l (k : Int)).f0 := ⟨_, rfl⟩
      obtain ⟨sg, hsg⟩ : ∃ sg, sg = (rd_T38 l (k : Int)).f1 := ⟨_, rfl⟩
      rw [← hkd] at hx0
      rw [← hsg] at hx1
      have HEnt := Aside0.mk (show entAt l k = ⟨kd, intsOf sg⟩ by rw [hkd, hsg]; rfl)
      have HSG := Aside0.mk (show sg.size ≤ 9223372036854775807 by rw [hsg]; exact HSZ.out k hlt)
      have HLT := Aside0.mk hlt
      have HGK := Aside0.mk hgk
      have hi0 : (0 : Int) ≤ (k : Int) := by omega
      have hi1 : (k : Int) < (l.length : Int) := by omega
      clear hkd hsg hgk
      by_cases hk1 : kd < 1
      · have c2 : decide (kd < 1) = true := decide_eq_true hk1
        have HE2 := Aside0.mk (show entryErr (entAt l k) = 8 by rw [HEnt.out, entryErr, if_pos (.inl hk1)])
        clear hk1
        go_wp2_with (fail)
        refine leaves_below ?_ ds _ (HM.out.below (below_alloc (Below.refl _ _) _)) (below_alloc HB.out _)
        intro W' hW
        refine ⟨_, results_tmp (show Tryd.f38.results = #[ResultVar.tmp 2] from rfl) _ _ _, ?_, hW⟩
        rw [checkL_err H18.out.1 H18.out.2 HLT.out HE.out (by rw [HE2.out]; decide), HE2.out]
        rfl
      have c2 : decide (kd < 1) = false := decide_eq_false hk1
      by_cases hk3 : 3 < kd
      · have c3 : decide (3 < kd) = true := decide_eq_true hk3
        have HE2 := Aside0.mk (show entryErr (entAt l k) = 8 by rw [HEnt.out, entryErr, if_pos (.inr hk3)])
        clear hk1 hk3
        go_wp2_with (fail)
        refine leaves_below ?_ ds _ (HM.out.below (below_alloc (Below.refl _ _) _)) (below_alloc HB.out _)
        intro W' hW
        refine ⟨_, results_tmp (show Tryd.f38.results = #[ResultVar.tmp 2] from rfl) _ _ _, ?_, hW⟩
        rw [checkL_err H18.out.1 H18.out.2 HLT.out HE.out (by rw [HE2.out]; decide), HE2.out]
        rfl
      have c3 : decide (3 < kd) = false := decide_eq_false hk3
      have HK13 := Aside0.mk (show ¬ (kd < 1 ∨ kd > 3) by omega)
      clear hk1 hk3
      go_upto_region 12 with (fail)
      clear c2 c3 hx0 hx1 c1 hi0 hi1 hlt
      obtain ⟨bx, hbx⟩ : ∃ bx, bx = w1.heap.size := ⟨_, rfl⟩
      have HX := Aside0.mk (heap_alloc_new w1 (.cells #[.int .i64 kd, .string sg] 38))
      have HW := Aside0.mk (show Below w1.heap.size w1 (w1.alloc (.cells #[.int .i64 kd, .string sg] 38)) from below_alloc (Below.refl _ _) _)
      obtain ⟨W, hW⟩ : ∃ W, W = w1.alloc (.cells #[.int .i64 kd, .string sg] 38) := ⟨_, rfl⟩
      rw [← hW] at HX HW ⊢
      rw [← hbx] at HX ⊢
      have HBX := Aside0.mk (show w.heap.size ≤ bx by rw [hbx]; exact HB.out.size)
      have HM1 := Aside0.mk (HM.out.below HW.out)
      have HB1 := Aside0.mk (below_then HB.out HB.out.size HW.out)
      clear hW hbx HM HB HW
      have hz0 : W.cell? ⟨bx, 0, none⟩ = some (.int .i64 kd) := (blk_cell HX.out 0).trans rfl
      have hz1 : W.cell? ⟨bx, 1, none⟩ = some (.string sg) := (blk_cell HX.out 1).trans rfl
      by_cases h19 : sg.size = 0 ∨ 19 < sg.size
      · have HE2 := Aside0.mk (show entryErr (entAt l k) = 2 by
          rw [HEnt.out, entryErr, if_neg HK13.out, if_pos (by rw [intsOf_length]; omega)])
        have hq := eql_nil sg
        have hqe := eq_nil_bool sg
        have hqt := toList_eq_nil sg
        by_cases h0 : sg.size = 0
        · have hq1 : decide (sg.size = 0) = true := decide_eq_true h0
          rw [hq1] at hqe hqt
          clear h19 h0
          go_wp2_with (fail)
          refine leaves_below ?_ ds W HM1.out HB1.out
          intro W' hW
          refine ⟨_, results_tmp (show Tryd.f38.results = #[ResultVar.tmp 2] from rfl) _ _ _, ?_, hW⟩
          rw [checkL_err H18.out.1 H18.out.2 HLT.out HE.out (by rw [HE2.out]; decide), HE2.out]
          rfl
        · have hq1 : decide (sg.size = 0) = false := decide_eq_false h0
          rw [hq1] at hqe hqt
          have hq2 : decide ((19 : Int) < (sg.size : Int)) = true := by simp; omega
          have hq2n : decide (19 < sg.size) = true := by simp; omega
          clear h19 h0
          go_wp2_with (fail)
          refine leaves_below ?_ ds W HM1.out HB1.out
          intro W' hW
          refine ⟨_, results_tmp (show Tryd.f38.results = #[ResultVar.tmp 2] from rfl) _ _ _, ?_, hW⟩
          rw [checkL_err H18.out.1 H18.out.2 HLT.out HE.out (by rw [HE2.out]; decide), HE2.out]
          rfl
      · have hq := eql_nil sg
        have hqe := eq_nil_bool sg
        have hqt := toList_eq_nil sg
        have hq1 : decide (sg.size = 0) = false := decide_eq_false (by omega)
        rw [hq1] at hqe hqt
        have hq2 : decide ((19 : Int) < (sg.size : Int)) = false := by simp; omega
        have hq2n : decide (19 < sg.size) = false := by simp; omega
        have H19 := Aside0.mk (show ¬ ((intsOf sg).length = 0 ∨ (intsOf sg).length > 19) by rw [intsOf_length]; omega)
        have H19b := Aside0.mk (show 1 ≤ sg.size ∧ sg.size ≤ 19 by omega)
        clear h19
        go_wp2_with (fail)
        clear hq hqe hqt hq1 hq2 hq2n
        go_loopw [6, 40, 41, 42, 43, 44, 45, 46, 47, 48, 49, 50, 51, 52, 53, 54, 55, 56] (fun _ i _ _ _ _ _ _ _ _ _ _ _ _ _ _ _ _ wr => ∃ j : Nat, j ≤ sg.size ∧ i = .int .i64 (j : Int) ∧ Aside0 (MarksIs w.heap.size ds wr) ∧ Aside0 (Below w.heap.size w wr) ∧ Aside0 (wr.heap[bx]? = some (.cells #[.int .i64 kd, .string sg] 38 (0, 0))) ∧ Aside0 (∀ i, i < j → ∀ x, (intsOf sg)[i]? = some x → badC x = false))
          (fun _ i _ _ _ _ _ _ _ _ _ _ _ _ _ _ _ _ _ => 19 - (intOf i).toNat)
        case atStart => exact ⟨0, by omega, rfl, HM1, HB1, HX, ⟨fun i hi => absurd hi (by omega)⟩⟩
        case round =>
          clear HM1 HB1 HX hz0 hz1
          obtain ⟨j, hj, rfl, HM1, HB1, HX, HG⟩ := hrel
          have hz0 : wr.cell? ⟨bx, 0, none⟩ = some (.int .i64 kd) := (blk_cell HX.out 0).trans rfl
          have hz1 : wr.cell? ⟨bx, 1, none⟩ = some (.string sg) := (blk_cell HX.out 1).trans rfl
          by_cases hlt : j < sg.size
          · have hd : decide ((j : Int) < (sg.size : Int)) = true := by simp; omega
            have hdn : decide (j < sg.size) = true := by simp; omega
            have HJ := Aside0.mk hlt
            obtain ⟨b, hb⟩ : ∃ b, b = ((sg[j]'hlt).toNat : Int) := ⟨_, rfl⟩
            have hx := index_str sg j hlt
            have HG2 := Aside0.mk ((ints_get hlt).trans (congrArg some hb.symm))
            rw [← hb] at hx
            clear hb hlt hj
            by_cases h63 : b = 63
            · have hb1 : (b != 63) = false := by simp [h63]
              have HB63 := Aside0.mk (show badC b = false by rw [h63]; rfl)
              clear h63
              go_wp2_with (fail)
              go_roundw
              case rel =>
                refine ⟨j + 1, HJ.out, by rw [w_up HJ.out (by have := H19b.out; omega)], HM1, HB1, HX, ⟨fun i hi x hxx => ?_⟩⟩
                rcases Nat.lt_or_eq_of_le (Nat.lt_succ_iff.1 hi) with hi | rfl
                · exact HG.out i hi x hxx
                · rw [HG2.out] at hxx
                  cases hxx
                  exact HB63.out
              case measure => exact meas_up (n := 19) (by have := HJ.out; have := H19b.out; omega) (by omega)
            · have hb1 : (b != 63) = true := by simp [h63]
              have H63 := Aside0.mk h63
              clear h63
              go_wp2_with (go_at_call 65; refine (place_calls b wr ((HS.out.new HB1.out))).mono ?_)
              rintro e w2 ⟨rfl, hb2⟩
              have HM2 := Aside0.mk (HM1.out.below hb2)
              have HB2 := Aside0.mk (below_then HB1.out HB1.out.size hb2)
              have HX2 := Aside0.mk ((hb2.block _ (blk_lt HX.out)).trans HX.out)
              have hz0 : w2.cell? ⟨bx, 0, none⟩ = some (.int .i64 kd) := (blk_cell HX2.out 0).trans rfl
              have hz1 : w2.cell? ⟨bx, 1, none⟩ = some (.string sg) := (blk_cell HX2.out 1).trans rfl
              clear hb2
              by_cases hneg : placeP b < 0
              · have hp : decide (placeP b < 0) = true := decide_eq_true hneg
                have HE2 := Aside0.mk (show entryErr (entAt l k) = 2 by
                  rw [HEnt.out, entryErr, if_neg HK13.out, if_neg H19.out, if_pos (bad_any HG2.out (by
                    have hn : decide (SumPlain.placeP b < 0) = true := hp
                    unfold badC
                    rw [hb1, hn]
                    rfl))])
                clear hneg
                go_wp2_with (fail)
                refine leaves_below ?_ ds w2 HM2.out HB2.out
                intro W' hW
                refine ⟨_, results_tmp (show Tryd.f38.results = #[ResultVar.tmp 2] from rfl) _ _ _, ?_, hW⟩
                rw [checkL_err H18.out.1 H18.out.2 HLT.out HE.out (by rw [HE2.out]; decide), HE2.out]
                rfl
              · have hp : decide (placeP b < 0) = false := decide_eq_false hneg
                have HB63 := Aside0.mk (show badC b = false by
                  have hn : decide (SumPlain.placeP b < 0) = false := hp
                  unfold badC
                  rw [hn, Bool.and_false])
                clear hneg
                go_wp2_with (fail)
                go_roundw
                case rel =>
                  refine ⟨j + 1, HJ.out, by rw [w_up HJ.out (by have := H19b.out; omega)], HM2, HB2, HX2, ⟨fun i hi x hxx => ?_⟩⟩
                  rcases Nat.lt_or_eq_of_le (Nat.lt_succ_iff.1 hi) with hi | rfl
                  · exact HG.out i hi x hxx
                  · rw [HG2.out] at hxx
                    cases hxx
                    exact HB63.out
                case measure => exact meas_up (n := 19) (by have := HJ.out; have := H19b.out; omega) (by omega)
          · obtain rfl : j = sg.size := by omega
            have hd : decide ((sg.size : Int) < (sg.size : Int)) = false := by simp
            have hdn : decide (sg.size < sg.size) = false := by simp
            have HGA := Aside0.mk (good_any (s := intsOf sg) fun i x hx => HG.out i (by
              have := (List.getElem?_eq_some_iff.1 hx).1
              rw [intsOf_length] at this
              exact this) x hx)
            clear HG hj
            go_upto_region 22 with (fail)
            have HX2 := Aside0.mk (blk_alloc HX.out (.cells #[.bool false] 4))
            have hBo := Boxed.new wr 4 (.bool false)
            have HBL := Aside0.mk (blk_lt HX.out)
            obtain ⟨bs, hbs⟩ : ∃ bs, bs = wr.heap.size := ⟨_, rfl⟩
            have HBS := Aside0.mk (show w.heap.size ≤ bs ∧ bs = wr.heap.size from ⟨by rw [hbs]; exact HB1.out.size, hbs⟩)
            have hsz : ((wr.alloc (.cells #[.bool false] 4)).alloc (.cells #[.string sg] 9)).heap.size = bs + 2 := by simp [hbs]
            have hL0 : ((wr.alloc (.cells #[.bool false] 4)).alloc (.cells #[.string sg] 9)).heap[bs + 1]? = some (.cells #[.string sg] 9 (0, 0)) := by
              have := heap_alloc_new (wr.alloc (.cells #[.bool false] 4)) (.cells #[.string sg] 9)
              rwa [World.size_alloc, ← hbs] at this
            have hBo2 := hBo.alloc (.cells #[.string sg] 9)
            have hB3 : Below wr.heap.size wr ((wr.alloc (.cells #[.bool false] 4)).alloc (.cells #[.string sg] 9)) := below_alloc (below_alloc (Below.refl _ _) _) _
            have hz1 : (wr.alloc (.cells #[.bool false] 4)).cell? ⟨bx, 1, none⟩ = some (.string sg) := (blk_cell HX2.out 1).trans rfl
            clear hz0 hBo
            go_wp2_with (go_at_call 69; refine (numbers_calls sg _).mono ?_)
            rintro e w2 ⟨rfl, rfl⟩
            go_wp2_with (fail)
            rw [← hbs] at hBo2 hB3 ⊢
            obtain ⟨W0, hW0⟩ : ∃ W0, W0 = ((wr.alloc (.cells #[.bool false] 4)).alloc (.cells #[.string sg] 9)) := ⟨_, rfl⟩
            rw [← hW0] at hsz hL0 hBo2 hB3 ⊢
            clear hW0 hbs hz1 hd hdn
            refine (wpIn_wide (n := 10)).1 ?_
            refine wpIn_rangeFunc_ownH (n := 10) rfl (by omega) (gf := 87) (lb := #[.pointer (some ⟨bs + 1, 0, none⟩)]) rfl trivial (enters_of Tryd.func87 (by kernel_rfl) rfl)
              (numbers_stops 9 (by omega) (bs + 1) w.heap.size sg HSG.out w W0 (Nat.le_refl _) HS.out (HB1.out.trans (hB3.mono HBS.out.1)) (by have := HBS.out.1; omega) hL0) KpB_t (KpB_b (by have := HBS.out.1; omega)) (Below.refl _ _) (fun _ => rfl)
              (fun pre W => pre = [] ∧ Boxed W bs 4 (.bool false) ∧ Below bs wr W)
              (fun cd pre W => cd = Code.exit 6 ∧ pre ≠ [] ∧ Boxed W bs 4 (.bool true) ∧ Below bs wr W)
              (fun pre X Y row hs hg hr => ⟨hs.1, hs.2.1.kept hg (fun e => by have := (hr _ e.symm).1; omega), hs.2.2.grown hg (by have := hs.2.2.size; have := HBS.out.2; omega) (fun j e => by have := (hr j e).1; omega)⟩)
              (fun cd pre X Y row hs hg hr => ⟨hs.1, hs.2.1, hs.2.2.1.kept hg (fun e => by have := (hr _ e.symm).1; omega), hs.2.2.2.grown hg (by have := hs.2.2.2.size; have := HBS.out.2; omega) (fun j e => by have := (hr j e).1; omega)⟩)
              ⟨rfl, hBo2, hB3⟩
              (fun x a' W => ∃ (v0 v1 v2 v3 v4 v5 v6 v8 v9 v10 v11 v12 v13 v14 v15 v16 v17 v18 v19 v20 v21 v22 v23 v24 v25 v26 v27 v28 v29 v30 v31 v32 v33 v34 v35 v36 v37 v38 v39 v40 v41 v42 v43 v44 v45 v46 v47 v48 v49 v50 v51 v52 v53 v54 v55 v56 v57 v58 v59 v60 v61 v62 v63 v64 v65 v66 v67 v68 v69 v70 : Value), a' = { tmps := #[v0, v1, v2, v3, v4, v5, v6, .pointer (some ⟨bs, 0, none⟩), v8, v9, v10, v11, v12, v13, v14, v15, v16, v17, v18, v19, v20, v21, v22, v23, v24, v25, v26, v27, v28, v29, v30, v31, v32, v33, v34, v35, v36, v37, v38, v39, v40, v41, v42, v43, v44, v45, v46, v47, v48, v49, v50, v51, v52, v53, v54, v55, v56, v57, v58, v59, v60, v61, v62, v63, v64, v65, v66, v67, v68, v69, v70], defers := [] })
              (fun x a' _ X Y row hs hg hr => hs)
              ?assign ?body ?done ?stop
            case assign =>
              rintro l pre x W K hI hK
              have HI := Aside0.mk hI
              have HK := Aside0.mk hK
              clear hI hK
              simp only [encN, List.zip_toArray, List.zip_cons_cons, List.zip_nil_left, List.zip_nil_right, List.foldl_toArray, List.foldl_cons, List.foldl_nil, List.setIfInBounds_toArray, List.set_cons_zero, List.set_cons_succ]
              gi_wp2_with (fail)
              exact HK.out _ _ (KeepsFrom.refl _ _) (KpB.refl _ _ _) HI.out ⟨_, _, _, _, _, _, _, _, _, _, _, _, _, _, _, _, _, _, _, _, _, _, _, _, _, _, _, _, _, _, _, _, _, _, _, _, _, _, _, _, _, _, _, _, _, _, _, _, _, _, _, _, _, _, _, _, _, _, _, _, _, _, _, _, _, _, _, _, _, _, rfl⟩
            case body =>
              rintro l pre x a' W hl hrec ⟨hpre, hbx2, hbw⟩ hax hlen
              obtain ⟨v0, hax⟩ := hax
              obtain ⟨v1, hax⟩ := hax
              obtain ⟨v2, hax⟩ := hax
              obtain ⟨v3, hax⟩ := hax
              obtain ⟨v4, hax⟩ := hax
              obtain ⟨v5, hax⟩ := hax
              obtain ⟨v6, hax⟩ := hax
              obtain ⟨v8, hax⟩ := hax
              obtain ⟨v9, hax⟩ := hax
              obtain ⟨v10, hax⟩ := hax
              obtain ⟨v11, hax⟩ := hax
              obtain ⟨v12, hax⟩ := hax
              obtain ⟨v13, hax⟩ := hax
              obtain ⟨v14, hax⟩ := hax
              obtain ⟨v15, hax⟩ := hax
              obtain ⟨v16, hax⟩ := hax
              obtain ⟨v17, hax⟩ := hax
              obtain ⟨v18, hax⟩ := hax
              obtain ⟨v19, hax⟩ := hax
              obtain ⟨v20, hax⟩ := hax
              obtain ⟨v21, hax⟩ := hax
              obtain ⟨v22, hax⟩ := hax
              obtain ⟨v23, hax⟩ := hax
              obtain ⟨v24, hax⟩ := hax
              obtain ⟨v25, hax⟩ := hax
              obtain ⟨v26, hax⟩ := hax
              obtain ⟨v27, hax⟩ := hax
              obtain ⟨v28, hax⟩ := hax
              obtain ⟨v29, hax⟩ := hax
              obtain ⟨v30, hax⟩ := hax
              obtain ⟨v31, hax⟩ := hax
              obtain ⟨v32, hax⟩ := hax
              obtain ⟨v33, hax⟩ := hax
              obtain ⟨v34, hax⟩ := hax
              obtain ⟨v35, hax⟩ := hax
              obtain ⟨v36, hax⟩ := hax
              obtain ⟨v37, hax⟩ := hax
              obtain ⟨v38, hax⟩ := hax
              obtain ⟨v39, hax⟩ := hax
              obtain ⟨v40, hax⟩ := hax
              obtain ⟨v41, hax⟩ := hax
              obtain ⟨v42, hax⟩ := hax
              obtain ⟨v43, hax⟩ := hax
              obtain ⟨v44, hax⟩ := hax
              obtain ⟨v45, hax⟩ := hax
              obtain ⟨v46, hax⟩ := hax
              obtain ⟨v47, hax⟩ := hax
              obtain ⟨v48, hax⟩ := hax
              obtain ⟨v49, hax⟩ := hax
              obtain ⟨v50, hax⟩ := hax
              obtain ⟨v51, hax⟩ := hax
              obtain ⟨v52, hax⟩ := hax
              obtain ⟨v53, hax⟩ := hax
              obtain ⟨v54, hax⟩ := hax
              obtain ⟨v55, hax⟩ := hax
              obtain ⟨v56, hax⟩ := hax
              obtain ⟨v57, hax⟩ := hax
              obtain ⟨v58, hax⟩ := hax
              obtain ⟨v59, hax⟩ := hax
              obtain ⟨v60, hax⟩ := hax
              obtain ⟨v61, hax⟩ := hax
              obtain ⟨v62, hax⟩ := hax
              obtain ⟨v63, hax⟩ := hax
              obtain ⟨v64, hax⟩ := hax
              obtain ⟨v65, hax⟩ := hax
              obtain ⟨v66, hax⟩ := hax
              obtain ⟨v67, hax⟩ := hax
              obtain ⟨v68, hax⟩ := hax
              obtain ⟨v69, hax⟩ := hax
              obtain ⟨v70, hax⟩ := hax
              subst hax
              have HBX3 := Aside0.mk hbx2
              have HBW := Aside0.mk hbw
              have hc := hbx2.cell
              have hf := hbx2.frozen
              have hlt3 : bs < W.heap.size := hbx2.lt
              clear hbx2 hbw
              gi_wp2_with (fail)
              exact ⟨(KeepsOthers.setCell _ _ _).from _, rfl, by simp, HBX3.out.set _, HBW.out.setCell (p := ⟨bs, 0, none⟩) (Nat.le_refl _) _⟩
            case done =>
              rintro D ys W hD rfl ⟨hys, hbx2, hbw⟩ hK
              have HE2 := Aside0.mk (show entryErr (entAt l k) = 11 by
                rw [HEnt.out, entryErr, if_neg HK13.out, if_neg H19.out, if_neg (by rw [HGA.out]; decide), if_pos hys])
              have hBW : Below wr.heap.size wr W := by rw [← HBS.out.2]; exact hbw
              have HM3 := Aside0.mk (HM1.out.cons hBW hK (by have := HBS.out.2; omega) (by have := HBS.out.1; omega))
              have HB3 := Aside0.mk (below_then HB1.out HB1.out.size hBW)
              have hc := hbx2.cell
              clear hK hBW hbx2 hbw hB3 hL0 hBo2 hys
              go_wp2_with (fail)
              refine leaves_below ?_ _ W HM3.out HB3.out
              intro W' hW
              refine ⟨_, results_tmp (show Tryd.f38.results = #[ResultVar.tmp 2] from rfl) _ _ _, ?_, hW⟩
              rw [checkL_err H18.out.1 H18.out.2 HLT.out HE.out (by rw [HE2.out]; decide), HE2.out]
              rfl
            case stop =>
              rintro D cd pre W hD hpre ⟨rfl, hne, hbx2, hbw⟩ hK
              have HE2 := Aside0.mk (show entryErr (entAt l k) = 0 by
                rw [HEnt.out, entryErr, if_neg HK13.out, if_neg H19.out, if_neg (by rw [HGA.out]; decide), if_neg (fun e => by
                  simp only at e
                  rw [e] at hpre
                  exact hne (List.prefix_nil.1 hpre))])
              have hBW : Below wr.heap.size wr W := by rw [← HBS.out.2]; exact hbw
              have HM3 := Aside0.mk (HM1.out.cons hBW hK (by have := HBS.out.2; omega) (by have := HBS.out.1; omega))
              have HB3 := Aside0.mk (below_then HB1.out HB1.out.size hBW)
              have HX3 := Aside0.mk ((hBW.block _ (blk_lt HX.out)).trans HX.out)
              have hc := hbx2.cell
              have hz1 : W.cell? ⟨bx, 1, none⟩ = some (.string sg) := (blk_cell HX3.out 1).trans rfl
              clear hK hBW hbx2 hbw hB3 hL0 hBo2 hpre hne
              refine wpIn_wide.2 ?_
              go_wp2_with (go_at_call 70; refine (Tryd.strings_Count_one sg 63 _).mono ?_)
              rintro e w' ⟨rfl, rfl⟩
              have e2 : wrap64 ((k : Int) + 1) = ((k + 1 : Nat) : Int) := w_up HLT.out (by have := H18.out.2; omega)
              have e3 : wrap64 (((lostTo l k : Nat) : Int) + ((Lib.countByte sg.data.toList 63 : Nat) : Int)) = ((lostTo l (k + 1) : Nat) : Int) := by
                have h1 := lostTo_le HE.out
                have h2 := lost_le (intsOf sg)
                have h3 := H19b.out
                have h4 := HLT.out
                have h5 := H18.out
                rw [intsOf_length] at h2
                have h6 : lostTo l (k + 1) = lostTo l k + Lib.countByte sg.data.toList 63 := by rw [lostTo, HEnt.out, count_lost]
                have h7 := count_lost sg
                clear HE HEnt
                rw [h6, h7]
                exact w_sum (by omega)
              go_wp2_with (fail)
              simp only [e2, e3]
              refine Handed.intro g0 (by omega) (hJ _ _ _ ⟨_, _, _, _, _, _, _, _, _, _, _, _, _, _, _, _, _, _, _, _, _, _, _, _, _, _, _, _, _, _, _, _, _, _, _, _, _, _, _, _, _, _, _, _, _, _, _, _, _, _, _, _, _, _, _, _, _, _, _, _, _, _, _, _, _, k + 1, _ :: ds, by have := HGK.out; omega, rfl, HM3, HB3, ⟨fun j hj => ?_⟩⟩)
              rcases Nat.lt_or_eq_of_le (Nat.lt_succ_iff.1 hj) with hj | rfl
              · exact HE.out j hj
              · exact HE2.out
end Go.Proofs.YtgfikondoehblaaDoor.Pr
end
