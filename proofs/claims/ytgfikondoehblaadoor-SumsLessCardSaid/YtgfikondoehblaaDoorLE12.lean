/- Part 12 of 21 of the proof of: SumsLess: for every slice of numbers, the law returns true: without the entries that Struck names an account made of them adds up, and without fewer ones, or as many that come before, it does not; no condition beyond the statement's own. -/
import Derived.Test.YtgfikondoehblaaDoorLE1
import Derived.Test.YtgfikondoehblaaDoorLE5
import Derived.Test.YtgfikondoehblaaDoorLE10
set_option linter.unusedVariables false
set_option linter.unusedSimpArgs false
set_option linter.unusedSectionVars false
section
namespace Go.Proofs.YtgfikondoehblaaDoor.Pr
open Go.RowKit Go.Shelf Go.Proofs.YtgfikondoehblaaDoorW.PrintWords Go.Proofs.YtgfikondoehblaaDoorW.PrintLast Go.Proofs.YtgfikondoehblaaDoorW.PrintMore
theorem sizeBuilder : ((Tryd.prog.info? 103).map (·.size)) = some 2 := by kernel_rfl
theorem infoByte : (Tryd.prog.info? 5).map (fun i => (i.zero, i.size, i.bytes)) = some (some (.int .u8 0), 1, 1) := by kernel_rfl
set_option maxHeartbeats 1000000 in
set_option maxRecDepth 100000 in
theorem check_fresh (b : Nat) (w : World) (h0 : w.cell? ⟨b, 0, none⟩ = some (.pointer none)) (hsh : w.shape? b = some (103, 2)) (hfz : w.frozen? ⟨b, 0, none⟩ = false) :
    Calls Tryd.prog 93 #[.pointer (some ⟨b, 0, none⟩)] w fun e w' => e = .returned (.tuple #[]) ∧ w' = w.setCell ⟨b, 0, none⟩ (.pointer (some ⟨b, 0, none⟩)) := by
  obtain ⟨j, hj, hjs⟩ := Option.map_eq_some_iff.1 sizeBuilder
  go_enter Tryd.func93, Tryd.ntmps93
  go_wp2
  rw [Lib.run_to_unsafe w ⟨b, 0, none⟩ Tryd.underlying101 Tryd.underlying132 hj (by rw [hjs]; decide) hsh (Nat.zero_lt_succ 1)]
  simp only [Result.andThen]
  rw [Oper.upon_value]
  go_wp2
  rw [run_callFunc_extern Tryd.func110 (by kernel_rfl) (by kernel_rfl) (by kernel_rfl) (e := Extern.AbiNoEscape.same) (by kernel_rfl)]
  rw [Lib.run_noEscape]
  simp only [Result.andThen]
  rw [Oper.upon_value]
  go_wp2
  rw [Lib.run_from_unsafe w ⟨b, 0, none⟩ Tryd.underlying132 Tryd.underlying101 hj hsh (by kernel_rfl)]
  simp only [Result.andThen]
  rw [Oper.upon_value]
  go_wp2
  go_end0
  exact ⟨rfl, rfl⟩
set_option maxHeartbeats 1000000 in
set_option maxRecDepth 100000 in
theorem check_used (b : Nat) (w : World) (h0 : w.cell? ⟨b, 0, none⟩ = some (.pointer (some ⟨b, 0, none⟩))) :
    Calls Tryd.prog 93 #[.pointer (some ⟨b, 0, none⟩)] w fun e w' => e = .returned (.tuple #[]) ∧ w' = w := by
  obtain ⟨j, hj, _⟩ := Option.map_eq_some_iff.1 sizeBuilder
  go_enter Tryd.func93, Tryd.ntmps93
  go_wp2
  rw [Lib.run_neq_ptr_same w _ Tryd.underlying101 hj]
  go_wp2
  go_end0
  exact ⟨rfl, rfl⟩
abbrev BuiltAt (B b : Nat) (bs : List Value) (w : World) : Prop := Lib.IsBuilderF 103 5 B b bs w
theorem copyCheck_k (B b : Nat) (bs : List Value) (w : World) (h : BuiltAt B b bs w) :
    Calls Tryd.prog 93 #[.pointer (some ⟨b, 0, none⟩)] w fun e w' => e = .returned (.tuple #[]) ∧ (Lib.BuilderAtF 103 5 B b (.pointer (some ⟨b, 0, none⟩)) bs w' ∧ Below B w w' ∧ Lib.OthersKept 5 (some b) w w') := by
  rcases h with h | h
  · refine (check_fresh b w h.cell0 h.shape h.frozen0).mono ?_
    rintro e w' ⟨rfl, rfl⟩
    exact ⟨rfl, h.used _, (Below.refl B w).setCell (p := ⟨b, 0, none⟩) h.1 _, (Lib.OthersKept.refl _ _ w).setCell ⟨b, 0, none⟩ rfl _⟩
  · refine (check_used b w h.cell0).mono ?_
    rintro e w' ⟨rfl, rfl⟩
    exact ⟨rfl, h, Below.refl B _, Lib.OthersKept.refl _ _ _⟩
set_option maxHeartbeats 2000000 in
set_option maxRecDepth 100000 in
theorem writeByte_k (B b : Nat) (bs : List Value) (c : Int) (w : World) (h : BuiltAt B b bs w) (hlen : bs.length + 1 ≤ 140737488355328) (hBw : B ≤ w.heap.size) :
    Calls Tryd.prog 74 #[.pointer (some ⟨b, 0, none⟩), .int .u8 c] w fun e w' => e = .returned .nilIface ∧ (BuiltAt B b (bs ++ [.int .u8 c]) w' ∧ Below B w w' ∧ Lib.OthersKept 5 (some b) w w') := by
  obtain ⟨i0, hi, hz0, hz1, hz2⟩ := info_parts infoByte
  go_enter Tryd.func74, Tryd.ntmps74
  go_wp2_with (go_at_call 93; refine (copyCheck_k B b bs _ h).mono ?_)
  rintro e w1 ⟨rfl, h1, hb1, hk1⟩
  obtain ⟨hB, v, hbk, hown, hne⟩ := h1
  have c0 : w1.cell? ⟨b, 0, none⟩ = some (.pointer (some ⟨b, 0, none⟩)) := by rw [Lib.cell_of_heap hbk]; rfl
  have c1 : w1.cell? ⟨b, 1, none⟩ = some v := by rw [Lib.cell_of_heap hbk]; rfl
  go_wp2_with (at_builtin; refine wpList_append_ownF _ rfl _ _ 41 rfl B 5 i0 (.int .u8 0) 1 1 Tryd.underlying41 hi hz0 hz1 hz2 rfl (by decide) _ _ _ rfl (hown.alloc _) ⟨w1.heap.size, 0, none⟩ 1 1 [.int .u8 c] rfl rfl ?c1 ?c2 ?c3 ?c4 ?c5 ?_)
  case c1 =>
    intro j u hj
    match j, hj with
    | 0, hj => simp at hj; subst hj; simp [Addr.add]
  case c2 => intro u hu; simp at hu; subst hu; rfl
  case c3 => unfold maxLen; omega
  case c4 => omega
  case c5 => have := hb1.size; simp; omega
  intro v' w2 hown' hgrow _
  have hlt : b < w1.heap.size := (Array.getElem?_eq_some_iff.1 hbk).1
  have hb2 : w2.heap[b]? = some (.cells #[.pointer (some ⟨b, 0, none⟩), v] 103 (0, 0)) := by
    rw [hgrow.block b (by simp; omega) (fun e => hne e.symm), Lib.alloc_old w1 _ b hlt]
    exact hbk
  have d0 : w2.cell? ⟨b, 0, none⟩ = some (.pointer (some ⟨b, 0, none⟩)) := by rw [Lib.cell_of_heap hb2]; rfl
  have d1 : w2.cell? ⟨b, 1, none⟩ = some v := by rw [Lib.cell_of_heap hb2]; rfl
  have f1 : w2.frozen? ⟨b, 1, none⟩ = false := Lib.frozen_of_heap hb2 1
  obtain ⟨g, cap, rfl⟩ : ∃ g cap, v' = .slice (some ⟨g, 0, none⟩) (bs.length + 1) cap := by
    rcases hown'.2 with ⟨_, h0⟩ | ⟨g, cap, cur, fz, hv, _⟩
    · omega
    · exact ⟨g, cap, hv⟩
  go_wp2
  go_ret
  refine ⟨rfl, .inr ?_, ?_, ((hk1.alloc _).grown hgrow (Lib.ownsRowF_kind (hown.alloc _))).setCell ⟨b, 1, none⟩ rfl _⟩
  · exact Lib.BuilderAtF.put (T := 103) (e := 5) hB hb2 (bs' := bs ++ [.int .u8 c]) (by simpa using hown') (by decide)
  · exact ((hb1.alloc (by have := hb1.size; omega) _).grown hgrow (by have := hb1.size; simp; omega) (fun k hk => (hown.lt k hk).1)).setCell (p := ⟨b, 1, none⟩) hB _
end Go.Proofs.YtgfikondoehblaaDoor.Pr
end
section
namespace Go.Proofs.YtgfikondoehblaaDoor.Pr
open Go.RowKit Go.Shelf Go.Proofs.YtgfikondoehblaaDoorW.PrintWords Go.Proofs.YtgfikondoehblaaDoorW.PrintLast Go.Proofs.YtgfikondoehblaaDoorW.PrintMore
open SumPlain (numGo signsP numeralP)
def byteOf (c : Int) : UInt8 := UInt8.ofNat c.toNat
def strOf (l : List Int) : ByteArray := ⟨(l.map byteOf).toArray⟩
theorem numGo_length : ∀ (l : List (Int × Nat)) (n : Nat), (∀ p ∈ l, 1 ≤ p.2) → (numGo l n).length ≤ n
  | [], n, _ => by simp [numGo]
  | (c, v) :: r, n, h => by
    have h1 := numGo_length r (n % v) (fun p hp => h p (List.mem_cons_of_mem _ hp))
    have hv : 1 ≤ v := h (c, v) List.mem_cons_self
    have h2 := Nat.div_add_mod n v
    have h3 : n / v ≤ v * (n / v) := Nat.le_mul_of_pos_left _ hv
    simp only [numGo, List.length_append, List.length_replicate]
    omega
theorem numeral_le (n : Nat) : (numeralP n).length ≤ n := numGo_length _ _ (by decide)
theorem drop_signs (i : Nat) (h : i < 7) : signsP.drop i = (sgn i, (vlu i).toNat) :: signsP.drop (i + 1) := by
  rcases i with _ | _ | _ | _ | _ | _ | _ | i
  all_goals first | omega | rfl
theorem numGo_hit (i : Nat) (h : i < 7) (m : Nat) (hm : (vlu i).toNat ≤ m) : numGo (signsP.drop i) m = sgn i :: numGo (signsP.drop i) (m - (vlu i).toNat) := by
  have hv := (vlu_pos i h).1
  rw [drop_signs i h, numGo, numGo, Nat.div_eq_sub_div (by omega) hm, List.replicate_succ, List.cons_append, Nat.mod_eq_sub_mod hm]
theorem numGo_miss (i : Nat) (h : i < 7) (m : Nat) (hm : m < (vlu i).toNat) : numGo (signsP.drop i) m = numGo (signsP.drop (i + 1)) m := by
  rw [drop_signs i h, numGo, Nat.div_eq_of_lt hm, Nat.mod_eq_of_lt hm]
  rfl
theorem sgn_cell (i : Nat) (h : i < 7) : [Value.int .u8 (sgn i)] = Lib.byteCells [byteOf (sgn i)] := by
  rcases i with _ | _ | _ | _ | _ | _ | _ | i
  all_goals first | omega | rfl
set_option maxRecDepth 100000 in
set_option maxHeartbeats 4000000 in
theorem numeral_calls (n0 : Nat) (hn : n0 ≤ 4999) (w : World) (hS : SignsAt w) : Calls Tryd.prog 51 #[.int .i64 (n0 : Int)] w fun e w' => e = .returned (.string (strOf (numeralP n0))) ∧ Below w.heap.size w w' := by
  have HS := Aside0.mk hS
  have HN := Aside0.mk hn
  clear hS hn
  go_enter Tryd.func51, Tryd.ntmps51
  obtain ⟨t, fr, hg⟩ := (HS.out.alloc (.cells #[.pointer none, .slice none 0 0] 103)).out
  have HG := Aside0.mk hg
  clear hg
  go_wp2_with (refine wpList_load_row rfl 96 (.global 0) rfl 0 rfl t signV fr _ HG.out Tryd.underlying96 rfl (by kernel_rfl) ?_)
  go_loopw [0, 5, 7, 8, 9, 10, 11, 12, 13, 14, 15, 16, 17, 18, 19, 20, 21] (fun n _ i _ _ _ _ _ _ _ _ _ _ _ _ _ _ wr => ∃ (k m : Nat) (acc : List Int), k ≤ 7 ∧ i = .int .i64 k ∧ n = .int .i64 (m : Int) ∧ m ≤ 4999 ∧ Aside0 (BuiltAt w.heap.size w.heap.size (Lib.byteCells (acc.map byteOf)) wr) ∧ Aside0 (Below w.heap.size w wr) ∧ Aside0 (w.heap.size < wr.heap.size) ∧ Aside0 (acc ++ numGo (signsP.drop k) m = numeralP n0))
    (fun _ _ i _ _ _ _ _ _ _ _ _ _ _ _ _ _ _ => 7 - (intOf i).toNat)
  case atStart =>
    refine ⟨0, n0, [], by omega, rfl, rfl, HN.out, ⟨?_⟩, ⟨below_alloc (Below.refl _ _) _⟩, ⟨by simp⟩, ⟨rfl⟩⟩
    exact Lib.IsBuilderF.of (Lib.fresh_isBuilder 103 5 w)
  case round =>
    obtain ⟨k, m, acc, hk, rfl, rfl, hm, HB, HW, HL, HA⟩ := hrel
    by_cases hlt : k < 7
    · have hd : decide ((k : Int) < 7) = true := by simp; omega
      have hx := fun W => sign_index k hlt W
      have HLT := Aside0.mk hlt
      clear hlt
      go_wp2
      have HS0 := Aside0.mk (show Below w.heap.size w (wr.alloc (.cells #[.int .u8 (sgn k), .int .i64 (vlu k), .int .i64 (mst k)] 95)) from below_alloc HW.out _)
      have HI := Aside0.mk (Lib.IsBuilderF.alloc HB.out (.cells #[.int .u8 (sgn k), .int .i64 (vlu k), .int .i64 (mst k)] 95))
      have HX := Aside0.mk (heap_alloc_new wr (.cells #[.int .u8 (sgn k), .int .i64 (vlu k), .int .i64 (mst k)] 95))
      have HV := Aside0.mk (vlu_pos k HLT.out)
      have HL2 := HL.out
      obtain ⟨g1, hg1⟩ : ∃ g1, g1 = wr.heap.size := ⟨_, rfl⟩
      rw [← hg1] at HX HL2 ⊢
      obtain ⟨W0, hW0⟩ : ∃ W0, W0 = wr.alloc (.cells #[.int .u8 (sgn k), .int .i64 (vlu k), .int .i64 (mst k)] 95) := ⟨_, rfl⟩
      rw [← hW0] at HS0 HI HX ⊢
      have HG1 := Aside0.mk HL2
      clear hx hd HL2 hg1 hW0 HB HW HL
      go_loopw [0, 10, 11, 12, 13, 14, 15, 16, 17, 18, 19, 20] (fun n _ _ _ _ _ _ _ _ _ _ _ wi => ∃ (m : Nat) (acc : List Int), n = .int .i64 (m : Int) ∧ m ≤ 4999 ∧ Aside0 (BuiltAt w.heap.size w.heap.size (Lib.byteCells (acc.map byteOf)) wi) ∧ Aside0 (Below w.heap.size w wi) ∧ Aside0 (wi.heap[g1]? = some (.cells #[.int .u8 (sgn k), .int .i64 (vlu k), .int .i64 (mst k)] 95 (0, 0))) ∧ Aside0 (acc ++ numGo (signsP.drop k) m = numeralP n0))
        (fun n _ _ _ _ _ _ _ _ _ _ _ _ => (intOf n).toNat)
      case atStart => exact ⟨m, acc, rfl, hm, HI, HS0, HX, HA⟩
      case round =>
        clear hm HA HS0 HI HX
        obtain ⟨m, acc, rfl, hm, HB, HW, HX, HA⟩ := hrel
        have hz0 : wr.cell? ⟨g1, 0, none⟩ = some (.int .u8 (sgn k)) := (blk_cell HX.out 0).trans rfl
        have hz1 : wr.cell? ⟨g1, 1, none⟩ = some (.int .i64 (vlu k)) := (blk_cell HX.out 1).trans rfl
        by_cases hge : vlu k ≤ (m : Int)
        · have hd : decide (vlu k ≤ (m : Int)) = true := decide_eq_true hge
          have HGE := Aside0.mk hge
          have HM := Aside0.mk hm
          clear hge hm
          go_wp2_with (go_at_call 74; refine (writeByte_k w.heap.size w.heap.size _ (sgn k) wr HB.out ?_ HW.out.size).mono ?_)
          · have h1 := congrArg List.length HA.out
            have h2 := numeral_le n0
            have h3 := HN.out
            rw [List.length_append] at h1
            rw [Lib.byteCells_length, List.length_map]
            omega
          rintro e w1 ⟨rfl, h1, b1, k1⟩
          have HX1 := Aside0.mk (k1 _ _ HX.out (fun e1 => by have := HG1.out; have := Option.some.inj e1; omega) (fun _ _ e1 => by cases e1))
          have hz0 : w1.cell? ⟨g1, 0, none⟩ = some (.int .u8 (sgn k)) := (blk_cell HX1.out 0).trans rfl
          have hz1 : w1.cell? ⟨g1, 1, none⟩ = some (.int .i64 (vlu k)) := (blk_cell HX1.out 1).trans rfl
          have HI1 := Aside0.mk h1
          have HB1 := Aside0.mk (HW.out.trans b1)
          clear h1 b1 k1
          go_wp2
          go_roundw
          case rel =>
            have hv := HV.out
            have hg := HGE.out
            have hm := HM.out
            have e1 : wrap64 ((m : Int) - vlu k) = ((m - (vlu k).toNat : Nat) : Int) := by unfold wrap64; omega
            refine ⟨m - (vlu k).toNat, acc ++ [sgn k], by rw [e1], by omega, ⟨?_⟩, HB1, HX1, ⟨?_⟩⟩
            · rw [List.map_append, List.map_singleton, Lib.byteCells_append, ← sgn_cell k HLT.out]
              exact HI1.out
            · rw [List.append_assoc, List.singleton_append, ← numGo_hit k HLT.out m (by omega)]
              exact HA.out
          case measure =>
            have hv := HV.out
            have hg := HGE.out
            have hm := HM.out
            simp [intOf, wrap64]
            omega
        · have hd : decide (vlu k ≤ (m : Int)) = false := decide_eq_false hge
          have HGE := Aside0.mk hge
          have HM := Aside0.mk hm
          clear hge hm
          go_wp2
          go_roundw
          case rel =>
            refine ⟨k + 1, m, acc, HLT.out, by go_num, rfl, HM.out, HB, HW, ⟨Nat.lt_trans HG1.out (blk_lt HX.out)⟩, ⟨?_⟩⟩
            have hv := HV.out
            have hg := HGE.out
            rw [← numGo_miss k HLT.out m (by omega)]
            exact HA.out
          case measure => have := HLT.out; simp [intOf]; omega
    · obtain rfl : k = 7 := by omega
      have hd : decide ((7 : Int) < 7) = false := by simp
      go_wp2_with (go_at_call 75; refine (Tryd.Builder_String_any_k w.heap.size w.heap.size (acc.map byteOf) wr HB.out HW.out.size).mono ?_)
      rintro e w1 ⟨rfl, _, hb1, _⟩
      go_wp2
      go_ret
      have := HA.out
      rw [show signsP.drop 7 = [] from rfl, numGo, List.append_nil] at this
      rw [← this]
      exact ⟨rfl, HW.out.trans hb1⟩
end Go.Proofs.YtgfikondoehblaaDoor.Pr
end
section
namespace Go.Proofs.YtgfikondoehblaaDoor.Pr
open Go.RowKit Go.Shelf Go.Proofs.YtgfikondoehblaaDoorW.PrintWords Go.Proofs.YtgfikondoehblaaDoorW.PrintLast Go.Proofs.YtgfikondoehblaaDoorW.PrintMore
open SumPlain (numGo signsP numeralP fitsP)
def intsOf (s : ByteArray) : List Int := s.data.toList.map fun b => (b.toNat : Int)
theorem intsOf_length (s : ByteArray) : (intsOf s).length = s.size := by simp [intsOf]
theorem w_up {k n : Nat} (hk : k < n) (hn : n ≤ 9223372036854775807) : wrap64 ((k : Int) + 1) = ((k + 1 : Nat) : Int) := by unfold wrap64; omega
theorem meas_up {k n : Nat} (hk : k < n) (hn : n ≤ 9223372036854775807) : n - (intOf (.int .i64 (wrap64 ((k : Int) + 1)))).toNat < n - (intOf (.int .i64 (k : Int))).toNat := by
  rw [w_up hk hn]
  simp only [intOf]
  omega
theorem drewN_below {B : Nat} {w w' : World} (h : Below B w w') {n : Nat} : Below B w (w'.drewN n) := h.trans ⟨rfl, rfl, rfl, Nat.le_refl _, fun _ _ => rfl⟩
set_option maxRecDepth 100000 in
set_option maxHeartbeats 4000000 in
theorem fits_calls (s p : ByteArray) (hs : s.size ≤ 9223372036854775807) (hp : p.size ≤ 9223372036854775807) (w : World) : Calls Tryd.prog 88 #[.string s, .string p] w fun e w' => e = .returned (.bool (fitsP (intsOf s) (intsOf p))) ∧ Below w.heap.size w w' := by
  have HS := Aside0.mk hs
  have HP := Aside0.mk hp
  clear hs hp
  go_enter Tryd.func88, Tryd.ntmps88
  by_cases hl : s.size = p.size
  · have hd : ((s.size : Int) != (p.size : Int)) = false := by simp [hl]
    have HL := Aside0.mk hl
    clear hl
    go_wp2
    go_loopw [5, 13, 14, 15, 16, 17, 18, 19, 20, 21, 22, 23, 24, 25, 26, 27, 28, 29] (fun _ i _ _ _ _ _ _ _ _ _ _ _ _ _ _ _ _ wr => ∃ k : Nat, k ≤ s.size ∧ i = .int .i64 k ∧ Aside0 (Below w.heap.size w wr) ∧ Aside0 (fitsP (intsOf s) (intsOf p) = fitsP ((intsOf s).drop k) ((intsOf p).drop k)))
      (fun _ i _ _ _ _ _ _ _ _ _ _ _ _ _ _ _ _ _ => s.size - (intOf i).toNat)
    case atStart => exact ⟨0, by omega, rfl, ⟨Below.refl _ _⟩, ⟨rfl⟩⟩
    case round =>
      obtain ⟨k, hk, rfl, HB, HF⟩ := hrel
      by_cases hlt : k < s.size
      · have hd : decide ((k : Int) < (s.size : Int)) = true := by simp; omega
        have hdn : decide (k < s.size) = true := by simp; omega
        have hkp : k < p.size := by rw [← HL.out]; exact hlt
        obtain ⟨a, ha⟩ : ∃ a, a = (s[k]'hlt).toNat := ⟨_, rfl⟩
        obtain ⟨b, hb⟩ : ∃ b, b = (p[k]'hkp).toNat := ⟨_, rfl⟩
        have hxs : ∀ W, (Instr.index 9 (.string s) (.int .i64 (k : Int))).run Tryd.prog W = .ok (.int .u8 (a : Int)) W := fun W => by
          rw [run_index_string W _ _ _ _ Tryd.underlying9, dif_pos ⟨by omega, by omega⟩, ha]
          rfl
        have hxp : ∀ W, (Instr.index 9 (.string p) (.int .i64 (k : Int))).run Tryd.prog W = .ok (.int .u8 (b : Int)) W := fun W => by
          rw [run_index_string W _ _ _ _ Tryd.underlying9, dif_pos ⟨by omega, by omega⟩, hb]
          rfl
        have hcs : (intsOf s).drop k = (a : Int) :: (intsOf s).drop (k + 1) := by
          rw [List.drop_eq_getElem_cons (by rw [intsOf_length]; exact hlt), ha]
          simp only [intsOf, List.getElem_map]
          rfl
        have hcp : (intsOf p).drop k = (b : Int) :: (intsOf p).drop (k + 1) := by
          rw [List.drop_eq_getElem_cons (by rw [intsOf_length]; exact hkp), hb]
          simp only [intsOf, List.getElem_map]
          rfl
        have HC := Aside0.mk (And.intro hcs hcp)
        have HK := Aside0.mk hlt
        clear ha hb hcs hcp hlt hkp hk
        by_cases hb63 : b = 63
        · have hq : ((b : Int) != 63) = false := by simp; omega
          have HQ := Aside0.mk hb63
          clear hb63
          go_wp2
          go_quiet (fail)
          go_wp2
          go_roundw
          case rel =>
            have e1 : wrap64 ((k : Int) + 1) = ((k + 1 : Nat) : Int) := w_up HK.out HS.out
            refine ⟨k + 1, HK.out, by rw [e1], ⟨drewN_below HB.out⟩, ⟨?_⟩⟩
            rw [HF.out, HC.out.1, HC.out.2, fitsP, HQ.out]
            simp
          case measure => exact meas_up HK.out HS.out
        · have hq : ((b : Int) != 63) = true := by simp; omega
          have HQ := Aside0.mk hb63
          clear hb63
          by_cases hab : b = a
          · have hr : ((b : Int) != (a : Int)) = false := by simp [hab]
            have hr2 : (b != a) = false := by simp [hab]
            have HR := Aside0.mk hab
            clear hab
            go_wp2
            go_quiet (fail)
            go_wp2
            go_roundw
            case rel =>
              have e1 : wrap64 ((k : Int) + 1) = ((k + 1 : Nat) : Int) := w_up HK.out HS.out
              refine ⟨k + 1, HK.out, by rw [e1], ⟨drewN_below HB.out⟩, ⟨?_⟩⟩
              rw [HF.out, HC.out.1, HC.out.2, fitsP, HR.out]
              simp
            case measure => exact meas_up HK.out HS.out
          · have hr : ((b : Int) != (a : Int)) = true := by simp; omega
            have hr2 : (b != a) = true := by simp; omega
            have HR := Aside0.mk hab
            clear hab
            go_wp2
            go_quiet (fail)
            go_wp2
            go_ret
            have e1 : (((b : Int) == 63) || ((b : Int) == (a : Int))) = false := by
              have := HQ.out
              have := HR.out
              simp
              omega
            rw [HF.out, HC.out.1, HC.out.2, fitsP, e1, Bool.false_and]
            exact ⟨rfl, drewN_below HB.out⟩
      · obtain rfl : k = s.size := by omega
        have hd : decide ((s.size : Int) < (s.size : Int)) = false := by simp
        go_wp2
        go_ret
        rw [HF.out, List.drop_of_length_le (Nat.le_of_eq (intsOf_length s)), List.drop_of_length_le (Nat.le_of_eq ((intsOf_length p).trans HL.out.symm))]
        exact ⟨rfl, HB.out⟩
  · have hd : ((s.size : Int) != (p.size : Int)) = true := by simp; omega
    go_wp2
    go_ret
    have : fitsP (intsOf s) (intsOf p) = false := by
      rw [Bool.eq_false_iff]
      intro h
      have := ((SumPlain.fits_iff _ _).1 h).1
      rw [intsOf_length, intsOf_length] at this
      exact hl this
    rw [this]
    exact ⟨rfl, Below.refl _ _⟩
end Go.Proofs.YtgfikondoehblaaDoor.Pr
end
