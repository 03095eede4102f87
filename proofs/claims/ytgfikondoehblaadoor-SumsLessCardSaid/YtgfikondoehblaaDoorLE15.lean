/- Part 15 of 21 of the proof of: SumsLess: for every slice of numbers, the law returns true: without the entries that Struck names an account made of them adds up, and without fewer ones, or as many that come before, it does not; no condition beyond the statement's own. -/
import Derived.Test.YtgfikondoehblaaDoorLE1
import Derived.Test.YtgfikondoehblaaDoorLE2
import Derived.Test.YtgfikondoehblaaDoorLE4
import Derived.Test.YtgfikondoehblaaDoorLE9
import Derived.Test.YtgfikondoehblaaDoorLE13
import Derived.Test.YtgfikondoehblaaDoorLE14
set_option linter.unusedVariables false
set_option linter.unusedSimpArgs false
set_option linter.unusedSectionVars false
section
namespace Go.Proofs.YtgfikondoehblaaDoor.Pr
open Go.RowKit Go.Shelf Go.Proofs.YtgfikondoehblaaDoorW.PrintWords Go.Proofs.YtgfikondoehblaaDoorW.PrintLast Go.Proofs.YtgfikondoehblaaDoorW.PrintMore Go.Proofs.SumKeep
abbrev OwnInts (w : World) (base : Nat) (v : Value) (xs : List Int) : Prop := w.ownsRow base 3 1 v xs.length (nums .i64 xs)
theorem own_base {w : World} {base b' : Nat} {e : TypeId} {size : Nat} {v : Value} {n : Nat} {xs : List Value} (h : w.ownsRow base e size v n xs) (hb : b' ≤ base) : w.ownsRow b' e size v n xs := by
  obtain ⟨h1, h2⟩ := h
  refine ⟨h1, ?_⟩
  rcases h2 with h | ⟨g, cap, cur, rfl, h3, h4⟩
  · exact .inl h
  · exact .inr ⟨g, cap, cur, rfl, Nat.le_trans hb h3, h4⟩
theorem own_shape {w : World} {base : Nat} {v : Value} {xs : List Int} (h : OwnInts w base v xs) :
    (v = .slice none 0 0 ∧ xs = []) ∨ ∃ g cap, v = .slice (some ⟨g, 0, none⟩) xs.length cap ∧ base ≤ g ∧ g < w.heap.size ∧ xs.length ≤ cap ∧ cap ≤ maxLen ∧ ∀ j, j < xs.length → w.cell? ⟨g, j, none⟩ = some (.int .i64 (xs.getD j 0)) := by
  have hh := h
  obtain ⟨h1, h2⟩ := h
  rcases h2 with ⟨rfl, h0⟩ | ⟨g, cap, cur, rfl, h3, h4, h5, h6, h7⟩
  · exact .inl ⟨rfl, List.eq_nil_of_length_eq_zero h0⟩
  · refine .inr ⟨g, cap, rfl, h3, (Array.getElem?_eq_some_iff.1 h4).1, h5, h6, fun j hj => ?_⟩
    have := World.ownsRow.cells (g := g) hh rfl j (.int .i64 (xs.getD j 0)) (by simp [nums, List.getElem?_map, List.getElem?_eq_getElem hj, List.getD_eq_getElem?_getD])
    rw [Addr.add_lit, Nat.zero_add] at this
    exact this
theorem contains_calls (x : Int) (xs : List Int) (v : Value) (base : Nat) (w : World) (h : OwnInts w base v xs) : Calls Tryd.prog 80 #[v, .int .i64 x] w fun e w' => e = .returned (.bool (xs.contains x)) ∧ w' = w := by
  rcases own_shape h with ⟨rfl, rfl⟩ | ⟨g, cap, rfl, _, _, h1, h2, hc⟩
  · exact Tryd.slices_Contains_int_empty none 0 x w
  · have := Tryd.slices_Contains_int g 0 xs.length cap xs x w (Nat.le_refl _) (by unfold maxLen at h2; omega) (fun j hj => by rw [Nat.zero_add]; exact hc j hj)
    rw [List.take_length] at this
    exact this
theorem clone_calls (xs : List Int) (hx : xs.length ≤ 1000) (v : Value) (base : Nat) (w : World) (h : OwnInts w base v xs) : Calls Tryd.prog 79 #[v] w fun e w' => ∃ v', e = .returned v' ∧ OwnInts w' w.heap.size v' xs ∧ Below w.heap.size w w' := by
  rcases own_shape h with ⟨rfl, rfl⟩ | ⟨g, cap, rfl, _, _, h1, h2, hc⟩
  · refine (Tryd.slices_Clone_int_nil 0 0 w).mono ?_
    rintro e w' ⟨rfl, rfl⟩
    exact ⟨_, rfl, World.ownsRow_nil _ _ _ _, Below.refl _ _⟩
  · refine (Tryd.slices_Clone_int g 0 xs.length cap xs w (Nat.le_refl _) (by omega) (fun j hj => by rw [Nat.zero_add]; exact hc j hj)).mono ?_
    rintro e w' ⟨v', rfl, hr, _, hb⟩
    rw [List.take_length] at hr
    exact ⟨v', rfl, hr, hb⟩
def UrnAt (W : World) (g : Nat) : Prop := ∃ a b : Int, W.heap[g]? = some (.cells #[.int .u64 a, .int .u64 b] 76 (0, 0))
theorem UrnAt.lt {W : World} {g : Nat} (h : UrnAt W g) : g < W.heap.size := by
  obtain ⟨a, b, h⟩ := h
  exact blk_lt h
theorem UrnAt.keep {W W' : World} {g : Nat} (h : UrnAt W g) (hk : W'.heap[g]? = W.heap[g]?) : UrnAt W' g := by
  obtain ⟨a, b, h⟩ := h
  exact ⟨a, b, hk.trans h⟩
theorem UrnAt.below {W W' : World} {g : Nat} (h : UrnAt W g) (hb : Below W.heap.size W W') : UrnAt W' g := h.keep (hb.block g h.lt)
theorem urn_set0 {W : World} {g : Nat} {a b : Int} (h : W.heap[g]? = some (.cells #[.int .u64 a, .int .u64 b] 76 (0, 0))) (x : Int) : (W.setCell ⟨g, 0, none⟩ (.int .u64 x)).heap[g]? = some (.cells #[.int .u64 x, .int .u64 b] 76 (0, 0)) := by
  simpa using blk_set h 0 (.int .u64 x)
theorem urn_set1 {W : World} {g : Nat} {a b : Int} (h : W.heap[g]? = some (.cells #[.int .u64 a, .int .u64 b] 76 (0, 0))) (x : Int) : (W.setCell ⟨g, 1, none⟩ (.int .u64 x)).heap[g]? = some (.cells #[.int .u64 a, .int .u64 x] 76 (0, 0)) := by
  simpa using blk_set h 1 (.int .u64 x)
abbrev UrnT (g : Nat) (w w' : World) : Prop := Turns (fun k => k = g) w w'
theorem UrnT.set {g : Nat} {w w' : World} (h : UrnT g w w') (i : Nat) (u : Value) : UrnT g w (w'.setCell ⟨g, i, none⟩ u) := h.setCell _ _ (fun _ => rfl)
theorem UrnT.drewN {g : Nat} {w w' : World} (h : UrnT g w w') (n : Nat) : UrnT g w (w'.drewN n) := ⟨h.os, h.tape, h.output, h.size, h.block⟩
theorem wrap_u64 (x : Int) : 0 ≤ IntKind.u64.wrap x ∧ IntKind.u64.wrap x < 18446744073709551616 := by
  simp only [IntKind.wrap, IntKind.bits, IntKind.signed, Bool.false_and, Bool.false_eq_true, if_false]
  omega
theorem rd_mem {l : List Int} {r : Int} (h0 : 0 ≤ r) (h1 : r < (l.length : Int)) : rd l r ∈ l := by
  unfold rd
  rw [List.getD_eq_getElem?_getD, List.getElem?_eq_getElem (by omega)]
  exact List.getElem_mem _
theorem C_lit {α : Type} {enc : α → Value} {h1 : ∀ x, (enc x).oneCell' = true} (xs : List α) (W : World) (g t : Nat) (h : W.heap[g]? = some (.cells (xs.map enc).toArray t (0, 0))) (hl : xs.length ≤ 9223372036854775807) : (Kd.scalar enc h1).C W (some ⟨g, 0, none⟩) xs.length xs := by
  refine ⟨rfl, hl, fun _ => ⟨_, rfl, fun j p hp => ⟨[enc p], rfl, rfl, fun i u hu => ?_⟩⟩⟩
  cases i with
  | zero =>
    simp at hu
    subst hu
    have e : (⟨g, 0, none⟩ : Addr).add (j * (Kd.scalar enc h1).sz + 0) = ⟨g, j, none⟩ := by
      rw [show (Kd.scalar enc h1).sz = 1 from rfl, Nat.mul_one, Nat.add_zero, Addr.add_lit, Nat.zero_add]
    rw [e, blk_cell h j]
    simp [hp]
  | succ i => simp at hu
theorem addr_block (a : Addr) (n : Nat) : (a.add n).block = a.block := by
  unfold Addr.add
  split <;> rfl
set_option maxRecDepth 100000 in
set_option maxHeartbeats 4000000 in
theorem turn_calls (g : Nat) (w : World) (hU : UrnAt w g) : Calls Tryd.prog 48 #[.pointer (some ⟨g, 0, none⟩)] w fun e w' => (∃ r, e = .returned (.int .u64 r) ∧ 0 ≤ r ∧ r < 18446744073709551616) ∧ UrnAt w' g ∧ UrnT g w w' := by
  obtain ⟨a, b, hg⟩ := hU
  have HG := Aside0.mk hg
  have h0 : w.cell? ⟨g, 0, none⟩ = some (.int .u64 a) := (blk_cell hg 0).trans rfl
  have h1 : w.cell? ⟨g, 1, none⟩ = some (.int .u64 b) := (blk_cell hg 1).trans rfl
  clear hg
  go_enter Tryd.func48, Tryd.ntmps48
  go_upto_region 1 with (fail)
  go_cut [3, 4, 5, 6, 7, 8, 9, 10, 11, 12] (fun v3 v4 _ _ _ _ _ _ _ _ wc => v3 = .int .u64 a ∧ v4 = .int .u64 b ∧ Aside0 (wc.heap[g]? = some (.cells #[.int .u64 a, .int .u64 b] 76 (0, 0))) ∧ Aside0 (UrnT g w wc))
  case first =>
    go_quiet (fail)
    go_wp2
    go_meet
    case rel => exact ⟨rfl, rfl, ⟨HG.out⟩, ⟨UrnT.drewN (Turns.refl _ _) _⟩⟩
  case rest =>
    obtain ⟨rfl, rfl, HG, HT⟩ := hcut
    clear h0 h1
    have h0 : wc.cell? ⟨g, 0, none⟩ = some (.int .u64 a) := (blk_cell HG.out 0).trans rfl
    have f0 := blk_frozen HG.out 0
    have lg := blk_lt HG.out
    go_upto_region 3 with (fail)
    obtain ⟨W2, hW2⟩ : ∃ W2, W2 = wc.setCell ⟨g, 0, none⟩ (.int .u64 b) := ⟨_, rfl⟩
    have HG2 := Aside0.mk (urn_set0 HG.out b)
    have HT2 := Aside0.mk (HT.out.set 0 (.int .u64 b))
    rw [← hW2] at HG2 HT2 ⊢
    clear hW2 h0 f0 lg HG HT
    go_upto_region 4 with (fail)
    have h1 : W2.cell? ⟨g, 1, none⟩ = some (.int .u64 b) := (blk_cell HG2.out 1).trans rfl
    have f1 := blk_frozen HG2.out 1
    have lg := blk_lt HG2.out
    go_cut [21, 22, 23, 24, 25, 26, 27, 28, 29, 30, 31, 32] (fun _ _ _ _ _ _ _ _ _ _ _ _ wx => ∃ y : Int, Aside0 (wx.heap[g]? = some (.cells #[.int .u64 b, .int .u64 y] 76 (0, 0))) ∧ Aside0 (UrnT g w wx))
    case first =>
      go_wp2
      go_meet
      case rel => exact ⟨_, ⟨urn_set1 HG2.out _⟩, ⟨HT2.out.set 1 _⟩⟩
    case rest =>
      obtain ⟨y, HG3, HT3⟩ := hcut
      clear h1 f1 lg HG2 HT2
      have h0 : wc.cell? ⟨g, 0, none⟩ = some (.int .u64 b) := (blk_cell HG3.out 0).trans rfl
      have h1 : wc.cell? ⟨g, 1, none⟩ = some (.int .u64 y) := (blk_cell HG3.out 1).trans rfl
      have f1 := blk_frozen HG3.out 1
      have lg := blk_lt HG3.out
      go_upto_region 5 with (fail)
      go_cut [33, 34, 35, 36, 37, 38, 39, 40, 41, 42] (fun _ _ _ _ _ _ _ _ _ v42 wy => ∃ z : Bool, v42 = .bool z ∧ Aside0 (wy.heap[g]? = some (.cells #[.int .u64 b, .int .u64 y] 76 (0, 0))) ∧ Aside0 (UrnT g w wy))
      case first =>
        go_quiet (fail)
        go_wp2
        go_meet
        case rel => exact ⟨_, rfl, ⟨HG3.out⟩, ⟨HT3.out.drewN _⟩⟩
      case rest =>
        obtain ⟨z, rfl, HG4, HT4⟩ := hcut
        clear h0 h1 f1 lg HG3 HT3
        have h1 : wc.cell? ⟨g, 1, none⟩ = some (.int .u64 y) := (blk_cell HG4.out 1).trans rfl
        have f1 := blk_frozen HG4.out 1
        have lg := blk_lt HG4.out
        cases z with
        | false =>
          go_wp2
          go_ret
          exact ⟨⟨_, rfl, wrap_u64 _⟩, ⟨_, _, HG4.out⟩, HT4.out⟩
        | true =>
          go_upto_region 7 with (fail)
          obtain ⟨W5, hW5⟩ : ∃ W5, W5 = wc.setCell ⟨g, 1, none⟩ (.int .u64 1) := ⟨_, rfl⟩
          have HG5 := Aside0.mk (urn_set1 HG4.out 1)
          have HT5 := Aside0.mk (HT4.out.set 1 (.int .u64 1))
          rw [← hW5] at HG5 HT5 ⊢
          clear hW5 h1 f1 lg
          have h1 : W5.cell? ⟨g, 1, none⟩ = some (.int .u64 1) := (blk_cell HG5.out 1).trans rfl
          go_wp2
          go_ret
          exact ⟨⟨_, rfl, wrap_u64 _⟩, ⟨_, _, HG5.out⟩, HT5.out⟩
set_option maxRecDepth 100000 in
set_option maxHeartbeats 4000000 in
theorem up_calls (g : Nat) (n : Int) (hn : 1 ≤ n ∧ n ≤ 1000000) (w : World) (hU : UrnAt w g) : Calls Tryd.prog 18 #[.pointer (some ⟨g, 0, none⟩), .int .i64 n] w fun e w' => (∃ v, e = .returned (.int .i64 v) ∧ 0 ≤ v ∧ v < n) ∧ UrnAt w' g ∧ UrnT g w w' := by
  have HU := Aside0.mk hU
  have HN := Aside0.mk hn
  clear hU
  by_cases h2 : n < 2
  · have c1 : decide (n < 2) = true := decide_eq_true h2
    clear h2 hn
    go_enter Tryd.func18, Tryd.ntmps18
    go_wp2
    go_ret
    exact ⟨⟨0, rfl, by omega, by have := HN.out; omega⟩, HU.out, Turns.refl _ _⟩
  · have c1 : decide (n < 2) = false := decide_eq_false h2
    have hw : IntKind.u64.wrap n = n := by simp only [IntKind.wrap, IntKind.bits, IntKind.signed, Bool.false_and, Bool.false_eq_true, if_false]; omega
    have hz : n ≠ 0 := by omega
    have hzb : (n == 0) = false := by rw [beq_eq_false_iff_ne]; exact hz
    clear h2 hn
    go_enter Tryd.func18, Tryd.ntmps18
    go_wp2_with (go_at_call 48; refine (turn_calls g w HU.out).mono ?_; rintro e w3 ⟨⟨r, rfl, hr0, hr1⟩, hu, ht⟩; have HU3 := Aside0.mk hu; have HT3 := Aside0.mk ht; have HR := Aside0.mk (And.intro hr0 hr1); clear hu ht hr0 hr1)
    go_ret
    have h0 : 0 ≤ Int.tmod (r / 2048) n := Int.tmod_nonneg _ (by have := HR.out; omega)
    have h1 : Int.tmod (r / 2048) n < n := Int.tmod_lt_of_pos _ (by have := HN.out; omega)
    have e : wrap64 (Int.tmod (r / 2048) n) = Int.tmod (r / 2048) n := by
      have := HN.out
      unfold wrap64
      omega
    exact ⟨⟨_, rfl, by rw [e]; exact h0, by rw [e]; exact h1⟩, HU3.out, HT3.out⟩
set_option maxRecDepth 100000 in
set_option maxHeartbeats 4000000 in
theorem from_calls (g : Nat) (lo hi : Int) (hn : 0 ≤ lo ∧ lo ≤ hi ∧ hi ≤ 100000) (w : World) (hU : UrnAt w g) : Calls Tryd.prog 25 #[.pointer (some ⟨g, 0, none⟩), .int .i64 lo, .int .i64 hi] w fun e w' => (∃ v, e = .returned (.int .i64 v) ∧ lo ≤ v ∧ v ≤ hi) ∧ UrnAt w' g ∧ UrnT g w w' := by
  have HN := Aside0.mk hn
  have h1 : wrap64 (hi - lo) = hi - lo := by unfold wrap64; omega
  have h2 : wrap64 (hi - lo + 1) = hi - lo + 1 := by unfold wrap64; omega
  have HC := Aside0.mk (up_calls g (hi - lo + 1) (by omega) w hU)
  clear hU hn
  go_enter Tryd.func25, Tryd.ntmps25
  go_wp2_with (go_at_call 18; refine HC.out.mono ?_; rintro e w3 ⟨⟨r, rfl, hr0, hr1⟩, hu, ht⟩; have HU3 := Aside0.mk hu; have HT3 := Aside0.mk ht; have HR := Aside0.mk (And.intro hr0 hr1); clear hu ht hr0 hr1)
  go_ret
  have e : wrap64 (lo + r) = lo + r := by have := HN.out; have := HR.out; unfold wrap64; omega
  exact ⟨⟨_, rfl, by rw [e]; have := HR.out; omega, by rw [e]; have := HR.out; omega⟩, HU3.out, HT3.out⟩
set_option maxRecDepth 100000 in
set_option maxHeartbeats 4000000 in
theorem odds_calls (g : Nat) (n m : Int) (hn : 1 ≤ m ∧ m ≤ 1000) (w : World) (hU : UrnAt w g) : Calls Tryd.prog 26 #[.pointer (some ⟨g, 0, none⟩), .int .i64 n, .int .i64 m] w fun e w' => (∃ v : Bool, e = .returned (.bool v)) ∧ UrnAt w' g ∧ UrnT g w w' := by
  have HC := Aside0.mk (up_calls g m (by omega) w hU)
  clear hU hn
  go_enter Tryd.func26, Tryd.ntmps26
  go_wp2_with (go_at_call 18; refine HC.out.mono ?_; rintro e w3 ⟨⟨r, rfl, hr0, hr1⟩, hu, ht⟩; have HU3 := Aside0.mk hu; have HT3 := Aside0.mk ht; clear hu ht hr0 hr1)
  go_ret
  exact ⟨⟨_, rfl⟩, HU3.out, HT3.out⟩
set_option maxRecDepth 100000 in
set_option maxHeartbeats 4000000 in
theorem any_calls (g : Nat) (l : List Int) (hl : 1 ≤ l.length ∧ l.length ≤ 1000) (A : Option Addr) (c : Nat) (w : World) (hU : UrnAt w g) (hC : Kd.C (Kd.int .i64) w A l.length l) (hA : ∀ ad, A = some ad → ad.block ≠ g) : Calls Tryd.prog 49 #[.pointer (some ⟨g, 0, none⟩), .slice A l.length c] w fun e w' => (∃ v, e = .returned (.int .i64 v) ∧ v ∈ l) ∧ UrnAt w' g ∧ UrnT g w w' := by
  have HL := Aside0.mk hl
  have HCC := Aside0.mk hC
  have HAA := Aside0.mk hA
  have HC := Aside0.mk (up_calls g (l.length : Int) (by omega) w hU)
  have c1 : ((l.length : Int) == 0) = false := by rw [beq_eq_false_iff_ne]; omega
  have c2 : (l.length == 0) = false := by rw [beq_eq_false_iff_ne]; omega
  clear hU hl hC hA
  go_enter Tryd.func49, Tryd.ntmps49
  go_wp2_with (go_at_call 18; refine HC.out.mono ?_; rintro e w3 ⟨⟨r, rfl, hr0, hr1⟩, hu, ht⟩; have HU3 := Aside0.mk hu; have HT3 := Aside0.mk ht; obtain ⟨ad, hAd, hx⟩ := Kd.at_int HCC.out r hr0 hr1; subst hAd; have hbb : (ad.add r.toNat).block = ad.block := addr_block _ _; have hxx := ht.cell hx (fun e => HAA.out ad rfl (hbb.symm.trans e)); have HM := Aside0.mk (rd_mem hr0 hr1); clear hu ht hx)
  go_ret
  exact ⟨⟨_, rfl, HM.out⟩, HU3.out, HT3.out⟩
set_option maxRecDepth 100000 in
set_option maxHeartbeats 4000000 in
theorem newUrn_calls (A : Option Addr) (c : Nat) (l : List Int) (w : World) (hr : Kd.C (Kd.int .i64) w A l.length l) : Calls Tryd.prog 12 #[.slice A l.length c] w fun e w' => (∃ g, e = .returned (.pointer (some ⟨g, 0, none⟩)) ∧ UrnAt w' g ∧ w.heap.size ≤ g) ∧ Below w.heap.size w w' := by
  have HR := Aside0.mk hr
  have HMX := Aside0.mk (Kd.C_max hr)
  clear hr
  go_enter Tryd.func12, Tryd.ntmps12
  go_wp2
  go_loopw [4, 7, 8, 9, 10, 11, 12, 13, 14, 15, 16, 17, 18, 19, 20, 21, 22, 23, 24, 25, 26, 27, 28, 29] (fun i _ _ _ _ _ _ _ _ _ _ _ _ _ _ _ _ _ _ _ _ _ _ _ wr => ∃ k : Nat, k ≤ l.length ∧ i = .int .i64 k ∧ Aside0 (UrnAt wr w.heap.size) ∧ Aside0 (Below w.heap.size w wr)) (fun i _ _ _ _ _ _ _ _ _ _ _ _ _ _ _ _ _ _ _ _ _ _ _ _ => l.length - (intOf i).toNat)
  case atStart => exact ⟨0, Nat.zero_le _, rfl, ⟨⟨_, _, heap_alloc_new w _⟩⟩, ⟨below_alloc (Below.refl _ _) _⟩⟩
  case round =>
    obtain ⟨k, hk, rfl, HU, HB⟩ := hrel
    by_cases hlt : k < l.length
    · have c1 : decide ((k : Int) < (l.length : Int)) = true := by simpa using hlt
      have c2 : decide (k < l.length) = true := by simpa using hlt
      have hk0 : (0 : Int) ≤ (k : Int) := by omega
      have hk1 : (k : Int) < (l.length : Int) := by omega
      have HLT := Aside0.mk hlt
      obtain ⟨ad, rfl, hx⟩ := Kd.at_int HR.out k (by omega) (by omega)
      rw [Int.toNat_natCast] at hx
      replace hx := (HB.out.cell (World.block_lt_of_cell? w _ hx)).trans hx
      obtain ⟨a, b, HG⟩ := HU.out
      have h1 : wr.cell? ⟨w.heap.size, 1, none⟩ = some (.int .u64 b) := (blk_cell HG 1).trans rfl
      have f1 := blk_frozen HG 1
      have lg := blk_lt HG
      have HGG := Aside0.mk HG
      clear HG hlt hk HU
      go_upto_region 5 with (fail)
      go_cut [13, 14, 15, 16, 17, 18, 19, 20, 21, 22, 23, 24, 25] (fun _ _ _ _ _ _ _ _ _ _ _ _ _ wc => Aside0 (UrnAt wc w.heap.size) ∧ Aside0 (Below w.heap.size w wc))
      case first =>
        go_region
        all_goals
          go_wp2
          go_meet
        all_goals exact ⟨⟨⟨_, _, by simpa [World.drew] using urn_set1 HGG.out _⟩⟩, ⟨below_drew (below_set HB.out (Nat.le_refl _))⟩⟩
      case rest =>
        obtain ⟨HU, HB2⟩ := hcut
        clear h1 f1 lg hx c1 c2 HB
        go_upto_region 7 with (go_at_call 48; refine (turn_calls w.heap.size wc HU.out).mono ?_; rintro e w3 ⟨⟨r, rfl, hr0, hr1⟩, hu, ht⟩; have HU3 := Aside0.mk hu; have HB3 := Aside0.mk (HB2.out.trans (ht.below (fun k hk => by rw [hk]; exact Nat.le_refl _) HB2.out.size)); clear hu ht hr0 hr1)
        go_wp2_with (go_at_call 48; refine (turn_calls w.heap.size w3 HU3.out).mono ?_; rintro e w4 ⟨⟨r2, rfl, hr0, hr1⟩, hu, ht⟩; have HU4 := Aside0.mk hu; have HB4 := Aside0.mk (HB3.out.trans (ht.below (fun k hk => by rw [hk]; exact Nat.le_refl _) HB3.out.size)); clear hu ht hr0 hr1)
        go_roundw
        case rel => exact ⟨k + 1, HLT.out, by rw [w_up HLT.out HMX.out], HU4, HB4⟩
        case measure => exact meas_up HLT.out HMX.out
    · have c1 : decide ((k : Int) < (l.length : Int)) = false := by simpa using hlt
      have c2 : decide (k < l.length) = false := by simpa using hlt
      clear hlt hk
      go_wp2
      go_ret
      exact ⟨⟨_, rfl, HU.out, Nat.le_refl _⟩, HB.out⟩
end Go.Proofs.YtgfikondoehblaaDoor.Pr
end
section
namespace Go.Proofs.YtgfikondoehblaaDoor.Pr
open Go.RowKit Go.Shelf Go.Proofs.YtgfikondoehblaaDoorW.PrintWords Go.Proofs.YtgfikondoehblaaDoorW.PrintLast Go.Proofs.YtgfikondoehblaaDoorW.PrintMore Go.Proofs.SumKeep
open SumPlain (numGo signsP numeralP)
def allSg : ByteArray := ⟨#[77, 68, 67, 76, 88, 86, 73]⟩
theorem slice_sg (i : Nat) (h : i < 7) (W : World) : (Instr.slice 9 (.string ⟨#[77, 68, 67, 76, 88, 86, 73]⟩) (some (.int .i64 (i : Int))) (some (.int .i64 (IntKind.i64.wrap ((i : Int) + 1)))) none).run Tryd.prog W = .ok (.string (strOf [sgn i])) W := by
  rcases i with _ | _ | _ | _ | _ | _ | _ | i
  all_goals first | (exfalso; omega) | kernel_rfl
theorem strOf_snoc (l : List Int) (c : Int) : strOf (l ++ [c]) = strOf l ++ strOf [c] := by
  apply ByteArray.ext
  simp [strOf, ByteArray.data_append]
set_option maxRecDepth 100000 in
set_option maxHeartbeats 4000000 in
theorem numeralOf_calls (n0 : Nat) (hn : n0 ≤ 4999) (w : World) : Calls Tryd.prog 50 #[.int .i64 (n0 : Int)] w fun e w' => e = .returned (.string (strOf (numeralP n0))) ∧ Below w.heap.size w w' := by
  have HN := Aside0.mk hn
  clear hn
  go_enter Tryd.func50, Tryd.ntmps50
  go_wp2
  go_loopw [0, 5, 6, 8, 9, 10, 11, 12, 13, 14, 15, 16, 17, 18, 19, 20, 21, 22, 23, 24, 25, 26, 27, 28, 29, 30, 31, 32] (fun nv sv iv _ _ _ _ _ _ _ _ _ _ _ _ _ _ _ _ _ _ _ _ _ _ _ _ _ wr => ∃ (i m : Nat) (acc : List Int), i ≤ 7 ∧ iv = .int .i64 (i : Int) ∧ nv = .int .i64 (m : Int) ∧ m ≤ 4999 ∧ sv = .string (strOf acc) ∧ Aside0 (acc ++ numGo (signsP.drop i) m = numeralP n0) ∧ Aside0 (wr.heap[w.heap.size]? = some (.cells #[.int .i64 1000, .int .i64 500, .int .i64 100, .int .i64 50, .int .i64 10, .int .i64 5, .int .i64 1] 3 (0, 0))) ∧ Aside0 (Below w.heap.size w wr))
    (fun _ _ iv _ _ _ _ _ _ _ _ _ _ _ _ _ _ _ _ _ _ _ _ _ _ _ _ _ _ => 7 - (intOf iv).toNat)
  case atStart => exact ⟨0, n0, [], by omega, rfl, rfl, HN.out, rfl, ⟨rfl⟩, ⟨heap_alloc_new w _⟩, ⟨below_alloc (Below.refl _ _) _⟩⟩
  case round =>
    obtain ⟨i, m, acc, hi, rfl, rfl, hm, rfl, HA, HX, HB⟩ := hrel
    by_cases hlt : i < 7
    · have hd : decide ((i : Int) < 7) = true := by simp; omega
      have HLT := Aside0.mk hlt
      have HV := Aside0.mk (vlu_pos i hlt)
      have hi0 : (0 : Int) ≤ (i : Int) := by omega
      have hi7 : (i : Int) < 7 := by omega
      clear hlt hi
      go_wp2_with (fail)
      go_loopw [0, 5, 14, 15, 16, 17, 18, 19, 20, 21, 22, 23, 24, 25, 26, 27, 28, 29, 30, 31, 32] (fun nv sv _ _ _ _ _ _ _ _ _ _ _ _ _ _ _ _ _ _ _ wr => ∃ (m : Nat) (acc : List Int), nv = .int .i64 (m : Int) ∧ m ≤ 4999 ∧ sv = .string (strOf acc) ∧ Aside0 (acc ++ numGo (signsP.drop i) m = numeralP n0) ∧ Aside0 (wr.heap[w.heap.size]? = some (.cells #[.int .i64 1000, .int .i64 500, .int .i64 100, .int .i64 50, .int .i64 10, .int .i64 5, .int .i64 1] 3 (0, 0))) ∧ Aside0 (Below w.heap.size w wr))
        (fun nv _ _ _ _ _ _ _ _ _ _ _ _ _ _ _ _ _ _ _ _ _ => (intOf nv).toNat)
      case atStart => exact ⟨m, acc, rfl, hm, rfl, HA, HX, HB⟩
      case round =>
        clear HA HX HB hm
        obtain ⟨m, acc, rfl, hm, rfl, HA, HX, HB⟩ := hrel
        have hx : wr.cell? ⟨w.heap.size, i, none⟩ = some (.int .i64 (vlu i)) := by
          have := HLT.out
          rcases i with _ | _ | _ | _ | _ | _ | _ | i
          all_goals first | (exfalso; omega) | exact (blk_cell HX.out _).trans rfl
        by_cases hge : vlu i ≤ (m : Int)
        · have hd2 : decide (vlu i ≤ (m : Int)) = true := decide_eq_true hge
          have hd3 : decide ((m : Int) ≥ vlu i) = true := decide_eq_true hge
          have HGE := Aside0.mk hge
          have HM := Aside0.mk hm
          obtain ⟨m2, hm2⟩ : ∃ m2 : Nat, m2 = m - (vlu i).toNat := ⟨_, rfl⟩
          have hwI : IntKind.i64.wrap ((m : Int) - vlu i) = (m2 : Int) := by
            have hv := HV.out
            have hg := HGE.out
            have hm := HM.out
            rw [i64_w]
            unfold wrap64
            omega
          have HM2 := Aside0.mk hm2
          clear hm2
          have hsl := fun W => slice_sg i HLT.out W
          have hsz : (strOf acc).size + (strOf [sgn i]).size ≤ 9223372036854775807 := by
            rw [strOf_size, strOf_size]
            have h1 := congrArg List.length HA.out
            have h2 := numeral_le n0
            have h3 := HN.out
            rw [List.length_append] at h1
            simp
            omega
          have c12 := eq_true hsz
          have c12b := decide_eq_true hsz
          have c12c := eq_false (Nat.not_lt.2 hsz)
          have c12d := Nat.not_lt.2 hsz
          clear hge hm hsz
          have hiN : i < 7 := HLT.out
          have hdn : decide (i < 7) = true := decide_eq_true hiN
          go_upto_region 7 with (fail)
          go_quiet (fail)
          go_wp2
          go_roundw
          case rel =>
            have hv := HV.out
            have hg := HGE.out
            have hm := HM.out
            have h2 := HM2.out
            refine ⟨m2, acc ++ [sgn i], rfl, by omega, by rw [strOf_snoc], ⟨?_⟩, ⟨HX.out⟩, ⟨drewN_below HB.out⟩⟩
            rw [List.append_assoc, List.singleton_append, HM2.out, ← numGo_hit i HLT.out m (by omega)]
            exact HA.out
          case measure =>
            have hv := HV.out
            have hg := HGE.out
            have hm := HM2.out
            simp [intOf]
            omega
        · have hd2 : decide (vlu i ≤ (m : Int)) = false := decide_eq_false hge
          have hd3 : decide ((m : Int) ≥ vlu i) = false := decide_eq_false hge
          have HGE := Aside0.mk hge
          have HM := Aside0.mk hm
          clear hge hm
          go_wp2
          go_roundw
          case rel =>
            refine ⟨i + 1, m, acc, HLT.out, by go_num, rfl, HM.out, rfl, ⟨?_⟩, HX, HB⟩
            have hv := HV.out
            have hg := HGE.out
            rw [← numGo_miss i HLT.out m (by omega)]
            exact HA.out
          case measure => have := HLT.out; simp [intOf]; omega
    · obtain rfl : i = 7 := by omega
      have hd : decide ((7 : Int) < 7) = false := by simp
      clear hlt hi
      go_wp2
      go_ret
      refine ⟨?_, HB.out⟩
      have h := HA.out
      rw [show signsP.drop 7 = [] from rfl, numGo, List.append_nil] at h
      rw [← h]
      rfl
end Go.Proofs.YtgfikondoehblaaDoor.Pr
end
section
namespace Go.Proofs.YtgfikondoehblaaDoor.Pr
open Go.RowKit Go.Shelf Go.Proofs.YtgfikondoehblaaDoorW.PrintWords Go.Proofs.YtgfikondoehblaaDoorW.PrintLast Go.Proofs.YtgfikondoehblaaDoorW.PrintMore Go.Proofs.SumKeep
open SumPlain (valuesP nextP May Ent)
def Next.T2 : Bool × List (List Nat × List Nat) := (true, [([], []), ([], []), ([1], [1]), ([0, 2, 2], [0, 2])])
def Next.B2 : List Nat := [0, 0, 2, 7]
theorem Next.tab2 : rtab .any (opsOf Tryd.f78 2) = Next.T2 := by kernel_rfl
theorem Next.bits2 : waitsOk Next.T2.2 Next.B2 = true := by kernel_rfl
def Next.T5 : Bool × List (List Nat × List Nat) := (true, [([], []), ([], []), ([], []), ([2], [2]), ([1, 3], [1, 3]), ([], []), ([], []), ([0, 4, 5, 6, 4], [0, 4, 5, 6])])
def Next.B5 : List Nat := [0, 0, 0, 4, 14, 0, 0, 127]
theorem Next.tab5 : rtab .any (opsOf Tryd.f78 5) = Next.T5 := by kernel_rfl
theorem Next.bits5 : waitsOk Next.T5.2 Next.B5 = true := by kernel_rfl
def Next.T10 : Bool × List (List Nat × List Nat) := (true, [([], []), ([], []), ([], []), ([2], [2]), ([1, 3], [1, 3]), ([], []), ([], []), ([5, 6], [5, 6]), ([], []), ([], []), ([8, 9], [8, 9]), ([0, 4, 7, 10, 4], [0, 4, 7, 10])])
def Next.B10 : List Nat := [0, 0, 0, 4, 14, 0, 0, 96, 0, 0, 768, 2047]
theorem Next.tab10 : rtab .any (opsOf Tryd.f78 10) = Next.T10 := by kernel_rfl
theorem Next.bits10 : waitsOk Next.T10.2 Next.B10 = true := by kernel_rfl
def Next.T14 : Bool × List (List Nat × List Nat) := (true, [([], []), ([], []), ([], []), ([2], [2]), ([1, 3], [1, 3]), ([], []), ([0, 4, 5, 4], [0, 4, 5])])
def Next.B14 : List Nat := [0, 0, 0, 4, 14, 0, 63]
theorem Next.tab14 : rtab .any (opsOf Tryd.f78 14) = Next.T14 := by kernel_rfl
theorem Next.bits14 : waitsOk Next.T14.2 Next.B14 = true := by kernel_rfl
def mayOf (l : List S38) : List May := (l.map toEnt).map fun e => (e.kind, valuesP e.signs)
theorem readings_eq (l : List S38) : SumPlain.readingsP (l.map toEnt) = nextP (mayOf l) [] 0 0 := rfl
theorem mayOf_drop {l : List S38} {i : Nat} (h : i < l.length) : (mayOf l).drop i = ((entAt l i).kind, valuesP (entAt l i).signs) :: (mayOf l).drop (i + 1) := by
  have h1 : i < (mayOf l).length := by simp [mayOf, h]
  rw [List.drop_eq_getElem_cons h1]
  congr 1
  have h2 := entAt_get h
  rw [List.getElem?_eq_getElem (by rw [List.length_map]; exact h)] at h2
  simp only [mayOf, List.getElem_map] at h2 ⊢
  rw [← Option.some.inj h2]
theorem mayOf_end (l : List S38) : (mayOf l).drop l.length = [] := List.drop_of_length_le (by simp [mayOf])
def OutOf (wc : World) (nr m0 : Nat) (O : Nat → Prop) : Prop := ∀ k, O k → (wc.heap.size ≤ k ∧ k < nr) ∨ m0 ≤ k
structure NextBase (l : List S38) (A : Option Addr) (c : Nat) (wc : World) (nr m0 : Nat) (kf : Nat) (cap : Array Value) (Bl Bf Bm Bn gm cm : Nat) (vs : Array Value) (w : World) : Prop where
  below : Below wc.heap.size wc w
  size : m0 ≤ w.heap.size
  bl : w.heap[Bl]? = some (.cells #[.slice A l.length c] 25 (0, 0))
  bf : w.heap[Bf]? = some (.cells #[.func (.func kf) #[] cap] 85 (0, 0))
  bm : w.heap[Bm]? = some (.cells #[.slice (some ⟨gm, 0, none⟩) l.length cm] 32 (0, 0))
  bn : w.heap[Bn]? = some (.cells #[.func (.func 78) #[] #[.pointer (some ⟨Bl, 0, none⟩), .pointer (some ⟨Bf, 0, none⟩), .pointer (some ⟨Bm, 0, none⟩), .pointer (some ⟨Bn, 0, none⟩)]] 110 (0, 0))
  gr : w.heap[gm]? = some (.cells vs 22 (0, 0))
  rows : ∀ j, j < l.length → ∃ v, vs[j]? = some v ∧ OwnInts w nr v (valuesP (entAt l j).signs) ∧ ∀ k, v.ownBlock = some k → k < m0
  lies : nr ≤ m0 ∧ wc.heap.size ≤ nr ∧ (nr ≤ Bl ∧ Bl < m0) ∧ (nr ≤ Bf ∧ Bf < m0) ∧ (nr ≤ Bm ∧ Bm < m0) ∧ (nr ≤ Bn ∧ Bn < m0) ∧ (nr ≤ gm ∧ gm < m0)
theorem own_at {w : World} {base : Nat} {e : TypeId} {size : Nat} {v : Value} {n : Nat} {xs : List Value} (h : w.ownsRow base e size v n xs) {k : Nat} (hk : v.ownBlock = some k) : base ≤ k := (h.lt k hk).1
theorem NextBase.keep {l : List S38} {A : Option Addr} {c : Nat} {wc : World} {nr m0 kf : Nat} {cap : Array Value} {Bl Bf Bm Bn gm cm : Nat} {vs : Array Value} {w w' : World} (h : NextBase l A c wc nr m0 kf cap Bl Bf Bm Bn gm cm vs w) {O : Nat → Prop} (ht : Turns O w w')
    (hO : ∀ k, O k → (wc.heap.size ≤ k ∧ k < nr) ∨ m0 ≤ k) : NextBase l A c wc nr m0 kf cap Bl Bf Bm Bn gm cm vs w' := by
  have hk : ∀ k, nr ≤ k → k < m0 → w'.heap[k]? = w.heap[k]? := fun k h1 h2 => ht.block k (Nat.lt_of_lt_of_le h2 h.size) (fun ho => by have := hO k ho; omega)
  obtain ⟨h0, h1, h2, h3, h4, h5, h6⟩ := h.lies
  refine ⟨h.below.trans (ht.below (fun k ho => by have := hO k ho; omega) (by have := h.below.size; omega)), Nat.le_trans h.size ht.size, (hk _ h2.1 h2.2).trans h.bl, (hk _ h3.1 h3.2).trans h.bf, (hk _ h4.1 h4.2).trans h.bm, (hk _ h5.1 h5.2).trans h.bn, (hk _ h6.1 h6.2).trans h.gr, fun j hj => ?_, h.lies⟩
  obtain ⟨v, e1, e2, e3⟩ := h.rows j hj
  exact ⟨v, e1, own_stays e2 fun k hv => hk k (own_at e2 hv) (e3 k hv), e3⟩
def FoundOk (wc : World) (nr m0 kf : Nat) (cap : Array Value) (R : List (List Int)) (Inv : (Nat → Prop) → List (List Int) → World → Prop) (Stop : List PanicEntry → (Nat → Prop) → List (List Int) → World → Prop) : Prop :=
  ∀ (O : Nat → Prop) (X : List (List Int)) (w : World) (v : Value) (r : List Int), Inv O X w → OutOf wc nr m0 O → X ++ [r] <+: R → m0 ≤ w.heap.size → OwnInts w m0 v r → (∀ k, v.ownBlock = some k → ¬ O k) →
    Calls Tryd.prog kf (#[v] ++ cap) w fun e w' => ∃ O' : Nat → Prop, (∀ k, O' k → O k ∨ v.ownBlock = some k ∨ w.heap.size ≤ k) ∧ Turns (fun k => O k ∨ v.ownBlock = some k) w w' ∧
      ((e = .returned (.tuple #[]) ∧ Inv O' (X ++ [r]) w') ∨ (∃ ch, e = .panicked ch ∧ Stop ch O' (X ++ [r]) w'))
structure InvOk (Inv : (Nat → Prop) → List (List Int) → World → Prop) : Prop where
  keep : ∀ O X w w', Inv O X w → Turns (fun k => ¬ O k) w w' → Inv O X w'
  lt : ∀ O X w, Inv O X w → ∀ k, O k → k < w.heap.size
abbrev NextPost (m0 : Nat) (Inv : (Nat → Prop) → List (List Int) → World → Prop) (Stop : List PanicEntry → (Nat → Prop) → List (List Int) → World → Prop) (O : Nat → Prop) (X ys : List (List Int)) (v : Value) (bg : List Int) (w : World) : Ending → World → Prop := fun e w' =>
  ∃ O' : Nat → Prop, (∀ k, O' k → O k ∨ w.heap.size ≤ k) ∧ Turns (fun k => O k ∨ v.ownBlock = some k) w w' ∧
    ((e = .returned (.tuple #[]) ∧ OwnInts w' m0 v bg ∧ Inv O' (X ++ ys) w') ∨ (∃ ch pre, e = .panicked ch ∧ pre <+: ys ∧ Stop ch O' (X ++ pre) w'))

theorem w_add {a b : Int} (h : 0 ≤ a + b ∧ a + b ≤ 9223372036854775807) : wrap64 (a + b) = a + b := by unfold wrap64; omega
theorem nums_snoc (xs : List Int) (x : Int) : nums .i64 (xs ++ [x]) = nums .i64 xs ++ [.int .i64 x] := by simp [nums]
theorem next_after {l : List S38} {A : Option Addr} {c : Nat} {wc : World} {nr m0 kf : Nat} {cap : Array Value} {Bl Bf Bm Bn gm cm : Nat} {vs : Array Value} {Inv : (Nat → Prop) → List (List Int) → World → Prop} (Stop : List PanicEntry → (Nat → Prop) → List (List Int) → World → Prop) (hI : InvOk Inv)
    {O : Nat → Prop} {X : List (List Int)} {w : World} {v : Value} {bg : List Int} (hB : NextBase l A c wc nr m0 kf cap Bl Bf Bm Bn gm cm vs w) (h0 : Inv O X w) (hO : OutOf wc nr m0 O) (hv : OwnInts w m0 v bg) (hvO : ∀ k, v.ownBlock = some k → ¬ O k)
    {x : Int} {wb w1 : World} (hwb : Below w.heap.size w wb) {v' : Value} (hv' : w1.ownsRow m0 3 1 v' (bg.length + 1) (nums .i64 bg ++ [.int .i64 x])) (hg : wb.grownBy w1 v.ownBlock) (hat : v'.ownBlock = v.ownBlock ∨ v'.ownBlock = some wb.heap.size)
    (hback : ∀ W : World, W.ownsRow m0 3 1 v' (bg.length + 1) (nums .i64 bg ++ [.int .i64 x]) → (∀ k, v.ownBlock = some k → v'.ownBlock ≠ some k → W.heap[k]? = w1.heap[k]?) → W.ownsRow m0 3 1 v bg.length (nums .i64 bg)) :
    NextBase l A c wc nr m0 kf cap Bl Bf Bm Bn gm cm vs w1 ∧ Inv O X w1 ∧ OwnInts w1 m0 v' (bg ++ [x]) ∧ (∀ k, v'.ownBlock = some k → ¬ O k) ∧
      ∀ ys e w2, NextPost m0 Inv Stop O X ys v' (bg ++ [x]) w1 e w2 → NextPost m0 Inv Stop O X ys v bg w e w2 := by
  have ht : Turns (fun k => v.ownBlock = some k) w w1 := (Turns.of_new hwb).trans ⟨hg.os, hg.tape, hg.output, hg.size, fun k hk hn => hg.block k hk (fun e => hn e.symm)⟩
    |> fun h => h
  have hv1 : OwnInts w1 m0 v' (bg ++ [x]) := by
    unfold OwnInts
    rw [nums_snoc, List.length_append, List.length_singleton]
    exact hv'
  have hnO : ∀ k, v'.ownBlock = some k → ¬ O k := fun k hk ho => by
    rcases hat with h | h
    · exact hvO k (h.symm.trans hk) ho
    · have h1 := hI.lt _ _ _ h0 k ho
      have h2 : wb.heap.size = k := Option.some.inj (h.symm.trans hk)
      have h3 := hwb.size
      omega
  refine ⟨hB.keep ht (fun k hk => .inr (own_at hv hk)), hI.keep _ _ _ _ h0 (ht.mono fun i _ h => hvO i h), hv1, hnO, ?_⟩
  rintro ys e w2 ⟨O', hO', ht2, hc⟩
  refine ⟨O', fun k hk => ?_, ?_, ?_⟩
  · rcases hO' k hk with h | h
    · exact .inl h
    · exact .inr (Nat.le_trans ht.size h)
  · refine (ht.mono (O' := fun k => O k ∨ v.ownBlock = some k) fun i _ h => .inr h).then ht2 fun i hi h => ?_
    rcases h with h | h
    · exact .inl h
    · rcases hat with e1 | e1
      · exact .inr (e1.symm.trans h)
      · have h2 : wb.heap.size = i := Option.some.inj (e1.symm.trans h)
        have h3 := hwb.size
        omega
  · rcases hc with ⟨rfl, hr, hi⟩ | h
    · refine .inl ⟨rfl, hback w2 ?_ (fun k hk hne => ht2.block k (Nat.lt_of_lt_of_le (hv.lt k hk).2 ht.size) (fun h => ?_)), hi⟩
      · have hr' := hr
        unfold OwnInts at hr'
        rw [nums_snoc, List.length_append, List.length_singleton] at hr'
        exact hr'
      · rcases h with h | h
        · exact hvO k hk h
        · exact hne h
    · exact .inr h
section
variable (l : List S38) (A : Option Addr) (c : Nat) (wc : World) (nr m0 kf : Nat) (cap : Array Value) (Bl Bf Bm Bn gm cm : Nat) (vs : Array Value) (R : List (List Int)) (Inv : (Nat → Prop) → List (List Int) → World → Prop) (Stop : List PanicEntry → (Nat → Prop) → List (List Int) → World → Prop)
set_option maxRecDepth 100000 in
set_option maxHeartbeats 4000000 in
theorem next_leaf (eg : ∀ args w, (callFunc kf args).run Tryd.prog w = .ok (.enter kf args) w) (hl8 : 1 ≤ l.length ∧ l.length ≤ 8) (hI : InvOk Inv) (hF : FoundOk wc nr m0 kf cap R Inv Stop)
    (O : Nat → Prop) (X : List (List Int)) (w : World) (v : Value) (bg : List Int) (since sum : Int) (hB : NextBase l A c wc nr m0 kf cap Bl Bf Bm Bn gm cm vs w) (h0 : Inv O X w) (hO : OutOf wc nr m0 O) (hv : OwnInts w m0 v bg) (hvO : ∀ k, v.ownBlock = some k → ¬ O k)
    (hbg : bg.length = l.length) (hR : X ++ [bg] <+: R) :
    Calls Tryd.prog 78 #[v, .int .i64 since, .int .i64 sum, .pointer (some ⟨Bl, 0, none⟩), .pointer (some ⟨Bf, 0, none⟩), .pointer (some ⟨Bm, 0, none⟩), .pointer (some ⟨Bn, 0, none⟩)] w (NextPost m0 Inv Stop O X [bg] v bg w) := by
  obtain ⟨ao, cp, rfl⟩ : ∃ ao cp, v = .slice ao bg.length cp := by
    rcases own_shape hv with ⟨rfl, rfl⟩ | ⟨g, cap, rfl, _⟩
    · exact ⟨none, 0, rfl⟩
    · exact ⟨_, _, rfl⟩
  have p0 : w.cell? ⟨Bl, 0, none⟩ = some (.slice A l.length c) := (blk_cell hB.bl 0).trans rfl
  have p1 : w.cell? ⟨Bf, 0, none⟩ = some (.func (.func kf) #[] cap) := (blk_cell hB.bf 0).trans rfl
  have HB := Aside0.mk hB
  have HV := Aside0.mk hv
  have H0 := Aside0.mk h0
  have HVO := Aside0.mk hvO
  have HO := Aside0.mk hO
  have HR := Aside0.mk hR
  have H8 := Aside0.mk hl8
  have HBG := Aside0.mk hbg
  have HI := Aside0.mk hI
  have HF := Aside0.mk hF
  have EG := Aside0.mk eg
  have hd : ((bg.length : Int) == (l.length : Int)) = true := by rw [hbg]; exact beq_self_eq_true _
  have hdn : (bg.length == l.length) = true := by rw [hbg]; exact beq_self_eq_true _
  clear hB hv h0 hvO hO hR hl8 hbg hI hF eg
  go_enter Tryd.func78, Tryd.ntmps78
  go_upto_region 2 with (fail)
  clear hd hdn p0
  have s0 : (w.drew).cell? ⟨Bf, 0, none⟩ = some (.func (.func kf) #[] cap) := p1
  refine start_ (n := 4) (S := fun w' => w'.cell? ⟨Bf, 0, none⟩ = some (.func (.func kf) #[] cap)) (ds := []) (ba 4 0) (by kernel_rfl) rfl rfl s0 (fun hHeld => ?_)
  refine with_tabW Next.tab2 Next.bits2 (fun HT_ HW_ => ?_)
  clear p1 s0
  obtain ⟨wd, hwd⟩ : ∃ y_, y_ = w.drew := ⟨_, rfl⟩
  have HD := Aside0.mk (show Below w.heap.size w wd by rw [hwd]; exact (Below.refl _ w).drew)
  rw [← hwd] at hHeld ⊢
  clear hwd
  have HVd := Aside0.mk (pw_own_below HV.out HD.out)
  refine tak_ 0 19 (ba 4 1) HT_.out HW_.out hHeld ?_ (v := .func (.func kf) #[] cap) (hv := by intro w2 h1; go_simp)
  refine pur_ 1 20 (ba 4 3) HT_.out ?_
  refine on_ 2 (some 21) (ba 4 7) HT_.out (fun K hK => ?_)
  refine goes_ Tryd.func79 (by kernel_rfl) rfl #[.slice ao bg.length cp] (by rfl) rfl rfl (by (simp only [List.map_toArray, List.map_cons, List.map_nil]); rfl) ?_
  refine (clone_calls bg (by have := HBG.out; have := H8.out; omega) _ m0 wd HVd.out).mono ?_
  rintro e w1 ⟨v1, rfl, hr1, hb1⟩
  refine ⟨_, rfl, ?_⟩
  have HR1 := Aside0.mk hr1
  have HB1 := Aside0.mk hb1
  clear hr1 hb1
  have hH1 : w1.cell? ⟨Bf, 0, none⟩ = some (.func (.func kf) #[] cap) := (HB1.out.cell (World.block_lt_of_cell? wd _ hHeld)).trans hHeld
  refine hK.out _ _ hH1 (fun hHeld => ?_)
  clear hK K hH1
  refine nrm_ ?_
  refine on_ 3 (some 22) (ba 4 15) HT_.out (fun K hK => ?_)
  refine goesV EG.out (#[v1] ++ cap) (by rfl) rfl rfl rfl (by (simp only [List.map_toArray, List.map_cons, List.map_nil]); rfl) ?_
  have HD1 := Aside0.mk (below_then HD.out HD.out.size HB1.out)
  have HT1 := Aside0.mk (Turns.of_new (O := fun k => ¬ O k) HD1.out)
  have HV1 := Aside0.mk (own_base HR1.out (Nat.le_trans HB.out.size HD.out.size))
  have HN1 := Aside0.mk (show ∀ k, v1.ownBlock = some k → w.heap.size ≤ k from fun k hk => Nat.le_trans HD.out.size (own_at HR1.out hk))
  refine (HF.out O X w1 v1 bg (HI.out.keep _ _ _ _ H0.out HT1.out) HO.out HR.out (Nat.le_trans HB.out.size HD1.out.size) HV1.out (fun k hk ho => by have := HI.out.lt _ _ _ H0.out k ho; have := HN1.out k hk; omega)).mono ?_
  rintro e w2 ⟨O', hO', ht, hcase⟩
  have HT2 := Aside0.mk (show Turns (fun k => O k ∨ (Value.slice ao bg.length cp).ownBlock = some k) w w2 from (Turns.of_new (O := fun k => O k ∨ (Value.slice ao bg.length cp).ownBlock = some k) HD1.out).then ht (fun i hi h => by
    rcases h with h | h
    · exact .inl h
    · exact absurd (HN1.out i h) (by omega)))
  have HO2 := Aside0.mk (show ∀ k, O' k → O k ∨ w.heap.size ≤ k from fun k hk => by
    rcases hO' k hk with h | h | h
    · exact .inl h
    · exact .inr (HN1.out k h)
    · exact .inr (Nat.le_trans HD1.out.size h))
  rcases hcase with ⟨rfl, hI2⟩ | ⟨ch, rfl, hS2⟩
  · refine .inl ⟨_, rfl, ?_⟩
    have HI2 := Aside0.mk hI2
    have HV2 := Aside0.mk (show OwnInts w2 m0 (.slice ao bg.length cp) bg from own_stays HV.out (fun k hk => (ht.block k (by have := (HV.out.lt k hk).2; exact Nat.lt_of_lt_of_le this HD1.out.size) (fun h => by
      rcases h with h | h
      · exact HVO.out k hk h
      · have := HN1.out k h; have := (HV.out.lt k hk).2; omega)).trans (HD1.out.block k (HV.out.lt k hk).2)))
    clear ht hI2 hO'
    have HB2 := Aside0.mk (HB.out.keep HT2.out (fun k hk => by
      rcases hk with hk | hk
      · exact HO.out k hk
      · exact .inr (own_at HV.out hk)))
    refine hK.out _ _ ((blk_cell HB2.out.bf 0).trans rfl) (fun hHeld => ?_)
    refine don_ HT_.out ?_
    clear hHeld hK K
    go_wp2
    refine bodyPost_ret (results_none rfl _ _ _) rfl ?_
    exact ⟨O', HO2.out, HT2.out, .inl ⟨rfl, HV2.out, HI2.out⟩⟩
  · refine .inr ⟨ch, rfl, ?_⟩
    exact ⟨rfl, O', HO2.out, HT2.out, .inr ⟨ch, [bg], rfl, List.prefix_refl _, hS2⟩⟩
def NextOk (i : Nat) : Prop := ∀ (O : Nat → Prop) (X : List (List Int)) (w : World) (v : Value) (bg : List Int) (since sum : Int), NextBase l A c wc nr m0 kf cap Bl Bf Bm Bn gm cm vs w → Inv O X w → OutOf wc nr m0 O → OwnInts w m0 v bg → (∀ k, v.ownBlock = some k → ¬ O k) → bg.length = i →
  0 ≤ since ∧ since ≤ 5000 * (i : Int) → 0 ≤ sum ∧ sum ≤ 5000 * (i : Int) → X ++ nextP ((mayOf l).drop i) bg since sum <+: R →
  Calls Tryd.prog 78 #[v, .int .i64 since, .int .i64 sum, .pointer (some ⟨Bl, 0, none⟩), .pointer (some ⟨Bf, 0, none⟩), .pointer (some ⟨Bm, 0, none⟩), .pointer (some ⟨Bn, 0, none⟩)] w (NextPost m0 Inv Stop O X (nextP ((mayOf l).drop i) bg since sum) v bg w)
set_option maxRecDepth 100000 in
set_option maxHeartbeats 8000000 in
theorem next_step (hr : Kd.C k38 wc A l.length l) (hl8 : 1 ≤ l.length ∧ l.length ≤ 8) (hI : InvOk Inv) (i : Nat) (hi : i < l.length)
    (IH : NextOk l A c wc nr m0 kf cap Bl Bf Bm Bn gm cm vs R Inv Stop (i + 1)) : NextOk l A c wc nr m0 kf cap Bl Bf Bm Bn gm cm vs R Inv Stop i := by
  intro O X w v bg since sum hB h0 hO hv hvO hbg hsi hsu hR
  obtain ⟨ao, cp, rfl⟩ : ∃ ao cp, v = .slice ao bg.length cp := by
    rcases own_shape hv with ⟨rfl, rfl⟩ | ⟨g, cap, rfl, _⟩
    · exact ⟨none, 0, rfl⟩
    · exact ⟨_, _, rfl⟩
  have p0 : w.cell? ⟨Bl, 0, none⟩ = some (.slice A l.length c) := (blk_cell hB.bl 0).trans rfl
  have pm : w.cell? ⟨Bm, 0, none⟩ = some (.slice (some ⟨gm, 0, none⟩) l.length cm) := (blk_cell hB.bm 0).trans rfl
  have pn : w.cell? ⟨Bn, 0, none⟩ = some (.func (.func 78) #[] #[.pointer (some ⟨Bl, 0, none⟩), .pointer (some ⟨Bf, 0, none⟩), .pointer (some ⟨Bm, 0, none⟩), .pointer (some ⟨Bn, 0, none⟩)]) := (blk_cell hB.bn 0).trans rfl
  obtain ⟨ad, e, hx0, _⟩ := at_T38 hr i (by omega) (by omega)
  cases e
  rw [Int.toNat_natCast] at hx0
  replace hx0 := (hB.below.cell (World.block_lt_of_cell? wc _ hx0)).trans hx0
  obtain ⟨kd, hkd⟩ : ∃ kd, kd = (rd_T38 l (i : Int)).f0 := ⟨_, rfl⟩
  rw [← hkd] at hx0
  have HKD := Aside0.mk (show (entAt l i).kind = kd by rw [hkd]; rfl)
  obtain ⟨vm, hvm, hrow, _⟩ := hB.rows i hi
  have pg : w.cell? ⟨gm, i, none⟩ = some vm := (blk_cell hB.gr i).trans hvm
  obtain ⟨ms, hms⟩ : ∃ ms, ms = valuesP (entAt l i).signs := ⟨_, rfl⟩
  rw [← hms] at hrow
  have HMS := Aside0.mk hms
  obtain ⟨am, cq, rfl⟩ : ∃ am cq, vm = .slice am ms.length cq := by
    rcases own_shape hrow with ⟨rfl, rfl⟩ | ⟨g, cap, rfl, _⟩
    · exact ⟨none, 0, rfl⟩
    · exact ⟨_, _, rfl⟩
  have HROW := Aside0.mk hrow
  have HB := Aside0.mk hB
  have HV := Aside0.mk hv
  have H0 := Aside0.mk h0
  have HVO := Aside0.mk hvO
  have HO := Aside0.mk hO
  have HR := Aside0.mk hR
  have H8 := Aside0.mk hl8
  have HBG := Aside0.mk hbg
  have HI := Aside0.mk hI
  have HIH := Aside0.mk IH
  have HSI := Aside0.mk hsi
  have HSU := Aside0.mk hsu
  have HII := Aside0.mk hi
  have hd : ((bg.length : Int) == (l.length : Int)) = false := by rw [beq_eq_false_iff_ne]; omega
  have hdn : (bg.length == l.length) = false := by rw [beq_eq_false_iff_ne]; omega
  have hi0 : (0 : Int) ≤ (bg.length : Int) := by omega
  have hi1 : (bg.length : Int) < (l.length : Int) := by omega
  have hi2 : bg.length < l.length := by omega
  have pg' : w.cell? ⟨gm, bg.length, none⟩ = some (.slice am ms.length cq) := by rw [hbg]; exact pg
  have hx0' : w.cell? (ad.add (bg.length * 2)) = some (.int .i64 kd) := by rw [hbg]; exact hx0
  clear hB hv h0 hvO hO hR hl8 hbg hI IH hsi hsu hi hr hrow hms hkd pg hx0
  have hmem : ∀ x, x ∈ ms → 1 ≤ x ∧ x ≤ 4999 := fun x hx => values_range _ (by rw [HMS.out] at hx; exact hx)
  have HMEM := Aside0.mk hmem
  clear hmem
  by_cases hk1 : kd = 1
  · have c1 : (kd == 1) = true := by rw [hk1]; rfl
    obtain ⟨ff, hff⟩ : ∃ ff : Int → List (List Int), ff = fun n => nextP ((mayOf l).drop (i + 1)) (bg ++ [n]) (since + n) (sum + n) := ⟨_, rfl⟩
    have HFF := Aside0.mk hff
    have HNX := Aside0.mk (show nextP ((mayOf l).drop i) bg since sum = ms.flatMap ff by
      rw [mayOf_drop HII.out, nextP, HKD.out, if_pos hk1, HMS.out, hff])
    rw [HNX.out]
    have hR2 := HR.out
    rw [HNX.out] at hR2
    have HR2 := Aside0.mk hR2
    have HVM := Aside0.mk hvm
    have hml := values_len (entAt l i).signs 4999
    have HML := Aside0.mk (show ms.length ≤ 4999 by rw [HMS.out]; exact hml)
    clear hk1 hR2 hff hml
    go_enter Tryd.func78, Tryd.ntmps78
    go_wp2_with (fail)
    clear c1 hd hdn hi0 hi1 hi2 p0 pm pg' hx0' pn
    go_loopw [12, 50, 51, 52, 53, 54, 55, 56, 57, 58, 59, 60, 61, 62, 63, 64, 65, 49] (fun _ _ _ _ _ _ _ _ _ _ _ _ _ _ _ _ _ jv wr => ∃ j : Nat, j ≤ ms.length ∧ jv = .int .i64 (j : Int) ∧ Aside0 (∃ Oj : Nat → Prop, (∀ k, Oj k → O k ∨ w.heap.size ≤ k) ∧ Turns (fun k => O k ∨ (Value.slice ao bg.length cp).ownBlock = some k) w wr ∧ OwnInts wr m0 (.slice ao bg.length cp) bg ∧ Inv Oj (X ++ (ms.take j).flatMap ff) wr))
      (fun _ _ _ _ _ _ _ _ _ _ _ _ _ _ _ _ _ jv _ => ms.length - (intOf jv).toNat)
    case atStart => exact ⟨0, Nat.zero_le _, rfl, ⟨O, fun k h => .inl h, Turns.refl _ _, HV.out, by simpa using H0.out⟩⟩
    case round =>
      obtain ⟨j, hj, rfl, HJ⟩ := hrel
      by_cases hlt : j < ms.length
      · have hd : decide ((j : Int) < (ms.length : Int)) = true := by simp; omega
        have hdn : decide (j < ms.length) = true := by simp; omega
        obtain ⟨Oj, hOj, hTj, hVj, hIj⟩ := HJ.out
        have HBr := Aside0.mk (HB.out.keep hTj (fun k hk => by
          rcases hk with hk | hk
          · exact HO.out k hk
          · exact .inr (own_at HV.out hk)))
        have HOr := Aside0.mk (show OutOf wc nr m0 Oj from fun k hk => by
          rcases hOj k hk with h | h
          · exact HO.out k h
          · exact .inr (Nat.le_trans HB.out.size h))
        have HVr := Aside0.mk hVj
        have H0r := Aside0.mk hIj
        have HTr := Aside0.mk hTj
        have HOj := Aside0.mk hOj
        have HVOr := Aside0.mk (show ∀ k, (Value.slice ao bg.length cp).ownBlock = some k → ¬ Oj k from fun k hk ho => by
          rcases hOj k ho with h | h
          · exact HVO.out k hk h
          · have := (HV.out.lt k hk).2; omega)
        have hrw := HBr.out.rows i HII.out
        obtain ⟨vm', e1, e2, _⟩ := hrw
        rw [HVM.out] at e1
        cases e1
        rw [← HMS.out] at e2
        obtain ⟨g, rfl, hcl⟩ : ∃ g, am = some ⟨g, 0, none⟩ ∧ wr.cell? ⟨g, j, none⟩ = some (.int .i64 (ms.getD j 0)) := by
          rcases own_shape e2 with ⟨_, h⟩ | ⟨g, cap, h1, _, _, _, _, h2⟩
          · rw [h] at hlt
            simp at hlt
          · cases h1
            exact ⟨g, rfl, h2 j hlt⟩
        obtain ⟨x, hx⟩ : ∃ x, x = ms.getD j 0 := ⟨_, rfl⟩
        rw [← hx] at hcl
        have HX := Aside0.mk hx
        have HXM := Aside0.mk (show x ∈ ms by rw [hx, List.getD_eq_getElem?_getD, List.getElem?_eq_getElem hlt]; exact List.getElem_mem _)
        have HLT := Aside0.mk hlt
        have hj0 : (0 : Int) ≤ (j : Int) := by omega
        have hj1 : (j : Int) < (ms.length : Int) := by omega
        have pn : wr.cell? ⟨Bn, 0, none⟩ = some (.func (.func 78) #[] #[.pointer (some ⟨Bl, 0, none⟩), .pointer (some ⟨Bf, 0, none⟩), .pointer (some ⟨Bm, 0, none⟩), .pointer (some ⟨Bn, 0, none⟩)]) := (blk_cell HBr.out.bn 0).trans rfl
        clear hOj hTj hVj hIj e2 hx hj HJ
        go_upto_region 10 with (fail)
        clear hd hdn hj0 hj1 hlt hcl
        have s0 : (wr.drew).cell? ⟨Bn, 0, none⟩ = some (.func (.func 78) #[] #[.pointer (some ⟨Bl, 0, none⟩), .pointer (some ⟨Bf, 0, none⟩), .pointer (some ⟨Bm, 0, none⟩), .pointer (some ⟨Bn, 0, none⟩)]) := pn
        refine start_ (n := 12) (S := fun w' => w'.cell? ⟨Bn, 0, none⟩ = some (.func (.func 78) #[] #[.pointer (some ⟨Bl, 0, none⟩), .pointer (some ⟨Bf, 0, none⟩), .pointer (some ⟨Bm, 0, none⟩), .pointer (some ⟨Bn, 0, none⟩)])) (ds := []) (ba 12 0) (by kernel_rfl) rfl rfl s0 (fun hHeld => ?_)
        refine with_tabW Next.tab10 Next.bits10 (fun HT_ HW_ => ?_)
        clear pn s0
        obtain ⟨wd, hwd⟩ : ∃ y_, y_ = wr.drew := ⟨_, rfl⟩
        have HD := Aside0.mk (show Below wr.heap.size wr wd by rw [hwd]; exact (Below.refl _ wr).drew)
        rw [← hwd] at hHeld ⊢
        clear hwd
        refine tak_ 0 53 (ba 12 1) HT_.out HW_.out hHeld ?_ (v := .func (.func 78) #[] #[.pointer (some ⟨Bl, 0, none⟩), .pointer (some ⟨Bf, 0, none⟩), .pointer (some ⟨Bm, 0, none⟩), .pointer (some ⟨Bn, 0, none⟩)]) (hv := by intro w2 h1; go_simp)
        refine pur_ 1 54 (ba 12 3) HT_.out ?_
        refine pur_ 2 55 (ba 12 7) HT_.out ?_
        refine pur_ 5 58 (ba 12 39) HT_.out ?_
        refine pur_ 6 59 (ba 12 103) HT_.out ?_
        refine pur_ 7 60 (ba 12 231) HT_.out ?_
        refine pur_ 8 61 (ba 12 487) HT_.out ?_
        refine pur_ 9 62 (ba 12 999) HT_.out ?_
        refine pur_ 10 63 (ba 12 2023) HT_.out ?_
        refine on_ 3 (some 56) (ba 12 2031) HT_.out (fun K hK => ?_)
        refine value_ (v := .slice (some ⟨wd.heap.size, 0, none⟩) 1 1) (w1 := wd.alloc (.cells #[.int .i64 x] 3)) (by rfl) rfl ?_ ?_
        · first | (go_simp; done) | (go_simp; rfl)
        have HDA := Aside0.mk (below_alloc HD.out (.cells #[.int .i64 x] 3))
        have HCN := Aside0.mk (cell_one_new wd (.int .i64 x) 3)
        have HVA := Aside0.mk (pw_own_below HVr.out HDA.out)
        have hHA : (wd.alloc (.cells #[.int .i64 x] 3)).cell? ⟨Bn, 0, none⟩ = some (.func (.func 78) #[] #[.pointer (some ⟨Bl, 0, none⟩), .pointer (some ⟨Bf, 0, none⟩), .pointer (some ⟨Bm, 0, none⟩), .pointer (some ⟨Bn, 0, none⟩)]) := (blk_cell (blk_below HBr.out.bn HDA.out) 0).trans rfl
        refine hK.out _ _ hHA (fun hHeld => ?_)
        clear hK K hHA
        refine nrm_ ?_
        obtain ⟨wb, hwb⟩ : ∃ y_, y_ = wd.alloc (.cells #[.int .i64 x] 3) := ⟨_, rfl⟩
        rw [← hwb] at HDA HCN HVA hHeld ⊢
        clear hwb
        obtain ⟨i0, hi, hz0, hz1, hz2⟩ := info_parts infoInt
        obtain ⟨v1, w1, hrun, hv1, hg1, hat1, hback1⟩ := run_append_keep (P := Tryd.prog) wb m0 22 22 3 i0 (.int .i64 0) 8 Tryd.underlying22 hi hz0 hz1 hz2 rfl _ _ _ HVA.out ⟨wd.heap.size, 0, none⟩ 1 (.int .i64 x) HCN.out rfl (by have := HBG.out; have := H8.out; have := HII.out; unfold maxLen; omega) (by have := HBG.out; have := H8.out; have := HII.out; omega) (Nat.le_trans HBr.out.size HDA.out.size)
        obtain ⟨hB1, hI1, hO1, hn1, hpost⟩ := next_after Stop HI.out HBr.out H0r.out HOr.out HVr.out HVOr.out HDA.out hv1 hg1 hat1 hback1
        have HRUN := Aside0.mk hrun
        have HB1 := Aside0.mk hB1
        have HI1 := Aside0.mk hI1
        have HO1 := Aside0.mk hO1
        have HN1 := Aside0.mk hn1
        have HPOST := Aside0.mk hpost
        clear hrun hB1 hI1 hO1 hn1 hpost hv1 hg1 hat1 hback1 hi hz0 hz1 hz2 HCN HVA
        refine on_ 4 (some 57) (ba 12 2047) HT_.out (fun K hK => ?_)
        refine value_ (v := v1) (w1 := w1) (by rfl) rfl ?_ ?_
        · have hr := HRUN.out
          unfold execOp
          simp [resolve, invoke, builtin, Act.eval, hr]
        refine hK.out _ _ ((blk_cell HB1.out.bn 0).trans rfl) (fun hHeld => ?_)
        clear hK K
        refine nrm_ ?_
        refine on_ 11 (some 64) (ba 12 4095) HT_.out (fun K hK => ?_)
        refine goesV (enters_ Tryd.func78 (by kernel_rfl) rfl) (#[v1, .int .i64 (wrap64 (since + x)), .int .i64 (wrap64 (sum + x))] ++ #[.pointer (some ⟨Bl, 0, none⟩), .pointer (some ⟨Bf, 0, none⟩), .pointer (some ⟨Bm, 0, none⟩), .pointer (some ⟨Bn, 0, none⟩)]) (by rfl) rfl rfl rfl (by (simp only [List.map_toArray, List.map_cons, List.map_nil]); rfl) ?_
        have hb2 := HMEM.out x HXM.out
        have hw1 : wrap64 (since + x) = since + x := w_add (by have := HSI.out; have := HII.out; have := H8.out; omega)
        have hw2 : wrap64 (sum + x) = sum + x := w_add (by have := HSU.out; have := HII.out; have := H8.out; omega)
        rw [hw1, hw2]
        have HY := Aside0.mk (show (ms.take (j + 1)).flatMap ff = (ms.take j).flatMap ff ++ ff x by
          have h1 := HLT.out
          rw [List.take_add_one, List.getElem?_eq_getElem h1, List.flatMap_append]
          have h2 : x = ms[j] := by rw [HX.out, List.getD_eq_getElem?_getD, List.getElem?_eq_getElem h1]; rfl
          simp [h2])
        have HPR := Aside0.mk (show (ms.take (j + 1)).flatMap ff <+: ms.flatMap ff by
          conv => rhs; rw [← List.take_append_drop (j + 1) ms, List.flatMap_append]
          exact List.prefix_append _ _)
        have hff : ff x = nextP ((mayOf l).drop (i + 1)) (bg ++ [x]) (since + x) (sum + x) := by rw [HFF.out]
        have HFX := Aside0.mk hff
        have hR3 : (X ++ (ms.take j).flatMap ff) ++ nextP ((mayOf l).drop (i + 1)) (bg ++ [x]) (since + x) (sum + x) <+: R := by
          rw [← hff, List.append_assoc, ← HY.out]
          exact (List.prefix_append_right_inj X |>.2 HPR.out).trans HR2.out
        refine (HIH.out Oj (X ++ (ms.take j).flatMap ff) w1 v1 (bg ++ [x]) (since + x) (sum + x) HB1.out HI1.out HOr.out HO1.out HN1.out (by rw [List.length_append, List.length_singleton, HBG.out]) (by have := HSI.out; omega) (by have := HSU.out; omega) hR3).mono ?_
        rintro e w2 hp
        obtain ⟨O', h1, h2, h3⟩ := HPOST.out _ _ _ hp
        have H1 := Aside0.mk (show ∀ k, O' k → O k ∨ w.heap.size ≤ k from fun k hk => by
          rcases h1 k hk with h | h
          · exact HOj.out k h
          · exact .inr (Nat.le_trans HTr.out.size h))
        have H2 := Aside0.mk (show Turns (fun k => O k ∨ (Value.slice ao bg.length cp).ownBlock = some k) w w2 from HTr.out.then h2 fun k hk h => by
          rcases h with h | h
          · rcases HOj.out k h with h | h
            · exact .inl h
            · omega
          · exact .inr h)
        rcases h3 with ⟨rfl, h4, h5⟩ | ⟨ch, pre, rfl, h4, h5⟩
        · refine .inl ⟨_, rfl, ?_⟩
          have HB2 := Aside0.mk (HB.out.keep H2.out (fun k hk => by
            rcases hk with hk | hk
            · exact HO.out k hk
            · exact .inr (own_at HV.out hk)))
          refine hK.out _ _ ((blk_cell HB2.out.bn 0).trans rfl) (fun hHeld => ?_)
          refine don_ HT_.out ?_
          have H4 := Aside0.mk h4
          have H5 := Aside0.mk (show Inv O' (X ++ (ms.take (j + 1)).flatMap ff) w2 by
            rw [HY.out, hff, ← List.append_assoc]
            exact h5)
          clear hHeld hK K h1 h2 h4 h5 hp hR3 hb2 hff hw1 hw2
          go_wp2
          go_roundw
          case rel => exact ⟨j + 1, HLT.out, by rw [w_up HLT.out (by have := HML.out; omega)], ⟨O', H1.out, H2.out, H4.out, H5.out⟩⟩
          case measure => exact meas_up HLT.out (by have := HML.out; omega)
        · refine .inr ⟨ch, rfl, ?_⟩
          refine ⟨rfl, O', H1.out, H2.out, .inr ⟨ch, (ms.take j).flatMap ff ++ pre, rfl, ?_, by rw [← List.append_assoc]; exact h5⟩⟩
          refine List.IsPrefix.trans ?_ HPR.out
          rw [HY.out, HFX.out]
          exact (List.prefix_append_right_inj _).2 h4
      · obtain rfl : j = ms.length := by omega
        have hd : decide ((ms.length : Int) < (ms.length : Int)) = false := by simp
        have hdn : decide (ms.length < ms.length) = false := by simp
        obtain ⟨Oj, hOj, hTj, hVj, hIj⟩ := HJ.out
        rw [List.take_length] at hIj
        have HE := Aside0.mk (And.intro hOj (And.intro hTj (And.intro hVj hIj)))
        clear hOj hTj hVj hIj HJ hj hlt
        go_wp2
        go_end0
        exact ⟨Oj, HE.out.1, HE.out.2.1, .inl ⟨rfl, HE.out.2.2.1, HE.out.2.2.2⟩⟩
  have c1 : (kd == 1) = false := by rw [beq_eq_false_iff_ne]; exact hk1
  clear hvm
  by_cases hk2 : kd = 2
  · have c2 : (kd == 2) = true := by rw [hk2]; rfl
    have HNX := Aside0.mk (show nextP ((mayOf l).drop i) bg since sum = if since ∈ ms then nextP ((mayOf l).drop (i + 1)) (bg ++ [since]) 0 sum else [] by
      rw [mayOf_drop HII.out, nextP, HKD.out, if_neg hk1, if_pos hk2, HMS.out])
    clear hk1 hk2
    by_cases hin : since ∈ ms
    · have hcn : ms.contains since = true := by simpa using hin
      have hcm : decide (since ∈ ms) = true := decide_eq_true hin
      have HIN := Aside0.mk hin
      rw [HNX.out, if_pos HIN.out]
      have hR2 := HR.out
      rw [HNX.out, if_pos HIN.out] at hR2
      have HR2 := Aside0.mk hR2
      clear hin hR2
      go_enter Tryd.func78, Tryd.ntmps78
      go_wp2_with (go_at_call 80; refine (contains_calls since ms _ nr w HROW.out).mono ?_)
      rintro e w' ⟨rfl, hw'⟩
      rw [hw']
      clear hw'
      go_upto_region 14 with (fail)
      clear c1 c2 hd hdn hi0 hi1 hi2 p0 pm pg' hx0' hcn hcm
      have s0 : (w.drew).cell? ⟨Bn, 0, none⟩ = some (.func (.func 78) #[] #[.pointer (some ⟨Bl, 0, none⟩), .pointer (some ⟨Bf, 0, none⟩), .pointer (some ⟨Bm, 0, none⟩), .pointer (some ⟨Bn, 0, none⟩)]) := pn
      refine start_ (n := 7) (S := fun w' => w'.cell? ⟨Bn, 0, none⟩ = some (.func (.func 78) #[] #[.pointer (some ⟨Bl, 0, none⟩), .pointer (some ⟨Bf, 0, none⟩), .pointer (some ⟨Bm, 0, none⟩), .pointer (some ⟨Bn, 0, none⟩)])) (ds := []) (ba 7 0) (by kernel_rfl) rfl rfl s0 (fun hHeld => ?_)
      refine with_tabW Next.tab14 Next.bits14 (fun HT_ HW_ => ?_)
      clear pn s0
      obtain ⟨wd, hwd⟩ : ∃ y_, y_ = w.drew := ⟨_, rfl⟩
      have HD := Aside0.mk (show Below w.heap.size w wd by rw [hwd]; exact (Below.refl _ w).drew)
      rw [← hwd] at hHeld ⊢
      clear hwd
      refine tak_ 0 74 (ba 7 1) HT_.out HW_.out hHeld ?_ (v := .func (.func 78) #[] #[.pointer (some ⟨Bl, 0, none⟩), .pointer (some ⟨Bf, 0, none⟩), .pointer (some ⟨Bm, 0, none⟩), .pointer (some ⟨Bn, 0, none⟩)]) (hv := by intro w2 h1; go_simp)
      refine pur_ 1 75 (ba 7 3) HT_.out ?_
      refine pur_ 2 76 (ba 7 7) HT_.out ?_
      refine pur_ 5 79 (ba 7 39) HT_.out ?_
      refine on_ 3 (some 77) (ba 7 47) HT_.out (fun K hK => ?_)
      refine value_ (v := .slice (some ⟨wd.heap.size, 0, none⟩) 1 1) (w1 := wd.alloc (.cells #[.int .i64 since] 3)) (by rfl) rfl ?_ ?_
      · first | (go_simp; done) | (go_simp; rfl)
      have HDA := Aside0.mk (below_alloc HD.out (.cells #[.int .i64 since] 3))
      have HCN := Aside0.mk (cell_one_new wd (.int .i64 since) 3)
      have HVA := Aside0.mk (pw_own_below HV.out HDA.out)
      have hHA : (wd.alloc (.cells #[.int .i64 since] 3)).cell? ⟨Bn, 0, none⟩ = some (.func (.func 78) #[] #[.pointer (some ⟨Bl, 0, none⟩), .pointer (some ⟨Bf, 0, none⟩), .pointer (some ⟨Bm, 0, none⟩), .pointer (some ⟨Bn, 0, none⟩)]) := (blk_cell (blk_below HB.out.bn HDA.out) 0).trans rfl
      refine hK.out _ _ hHA (fun hHeld => ?_)
      clear hK K hHA
      refine nrm_ ?_
      obtain ⟨wb, hwb⟩ : ∃ y_, y_ = wd.alloc (.cells #[.int .i64 since] 3) := ⟨_, rfl⟩
      rw [← hwb] at HDA HCN HVA hHeld ⊢
      clear hwb
      obtain ⟨i0, hi, hz0, hz1, hz2⟩ := info_parts infoInt
      obtain ⟨v1, w1, hrun, hv1, hg1, hat1, hback1⟩ := run_append_keep (P := Tryd.prog) wb m0 22 22 3 i0 (.int .i64 0) 8 Tryd.underlying22 hi hz0 hz1 hz2 rfl _ _ _ HVA.out ⟨wd.heap.size, 0, none⟩ 1 (.int .i64 since) HCN.out rfl (by have := HBG.out; have := H8.out; have := HII.out; unfold maxLen; omega) (by have := HBG.out; have := H8.out; have := HII.out; omega) (Nat.le_trans HB.out.size HDA.out.size)
      obtain ⟨hB1, hI1, hO1, hn1, hpost⟩ := next_after Stop HI.out HB.out H0.out HO.out HV.out HVO.out HDA.out hv1 hg1 hat1 hback1
      have HRUN := Aside0.mk hrun
      have HB1 := Aside0.mk hB1
      have HI1 := Aside0.mk hI1
      have HO1 := Aside0.mk hO1
      have HN1 := Aside0.mk hn1
      have HPOST := Aside0.mk hpost
      clear hrun hB1 hI1 hO1 hn1 hpost hv1 hg1 hat1 hback1 hi hz0 hz1 hz2 HCN HVA
      refine on_ 4 (some 78) (ba 7 63) HT_.out (fun K hK => ?_)
      refine value_ (v := v1) (w1 := w1) (by rfl) rfl ?_ ?_
      · have hr := HRUN.out
        unfold execOp
        simp [resolve, invoke, builtin, Act.eval, hr]
      refine hK.out _ _ ((blk_cell HB1.out.bn 0).trans rfl) (fun hHeld => ?_)
      clear hK K
      refine nrm_ ?_
      refine on_ 6 (some 80) (ba 7 127) HT_.out (fun K hK => ?_)
      refine goesV (enters_ Tryd.func78 (by kernel_rfl) rfl) (#[v1, .int .i64 0, .int .i64 sum] ++ #[.pointer (some ⟨Bl, 0, none⟩), .pointer (some ⟨Bf, 0, none⟩), .pointer (some ⟨Bm, 0, none⟩), .pointer (some ⟨Bn, 0, none⟩)]) (by rfl) rfl rfl rfl (by (simp only [List.map_toArray, List.map_cons, List.map_nil]); rfl) ?_
      have hb2 := HMEM.out since HIN.out
      refine (HIH.out O X w1 v1 (bg ++ [since]) 0 sum HB1.out HI1.out HO.out HO1.out HN1.out (by rw [List.length_append, List.length_singleton, HBG.out]) (by omega) (by have := HSU.out; omega) HR2.out).mono ?_
      rintro e w2 hp
      obtain ⟨O', h1, h2, h3⟩ := HPOST.out _ _ _ hp
      rcases h3 with ⟨rfl, h4, h5⟩ | ⟨ch, pre, rfl, h4, h5⟩
      · refine .inl ⟨_, rfl, ?_⟩
        have HB2 := Aside0.mk (HB.out.keep h2 (fun k hk => by
          rcases hk with hk | hk
          · exact HO.out k hk
          · exact .inr (own_at HV.out hk)))
        refine hK.out _ _ ((blk_cell HB2.out.bn 0).trans rfl) (fun hHeld => ?_)
        refine don_ HT_.out ?_
        have H1 := Aside0.mk h1
        have H2 := Aside0.mk h2
        have H4 := Aside0.mk h4
        have H5 := Aside0.mk h5
        clear hHeld hK K h1 h2 h4 h5 hp hb2
        go_wp2
        go_end0
        exact ⟨O', H1.out, H2.out, .inl ⟨rfl, H4.out, H5.out⟩⟩
      · refine .inr ⟨ch, rfl, ?_⟩
        exact ⟨rfl, O', h1, h2, .inr ⟨ch, pre, rfl, h4, h5⟩⟩
    · have hcn : ms.contains since = false := by simpa using hin
      have hcm : decide (since ∈ ms) = false := decide_eq_false hin
      have HIN := Aside0.mk hin
      rw [HNX.out, if_neg HIN.out]
      have hR2 := HR.out
      rw [HNX.out, if_neg HIN.out] at hR2
      have HR2 := Aside0.mk hR2
      clear hin hR2
      go_enter Tryd.func78, Tryd.ntmps78
      go_wp2_with (go_at_call 80; refine (contains_calls since ms _ nr w HROW.out).mono ?_)
      rintro e w' ⟨rfl, hw'⟩
      rw [hw']
      clear hw'
      go_wp2_with (fail)
      go_end0
      exact ⟨O, fun k h => .inl h, Turns.refl _ _, .inl ⟨rfl, HV.out, by rw [List.append_nil]; exact H0.out⟩⟩
  · have c2 : (kd == 2) = false := by rw [beq_eq_false_iff_ne]; exact hk2
    have HNX := Aside0.mk (show nextP ((mayOf l).drop i) bg since sum = if sum ∈ ms then nextP ((mayOf l).drop (i + 1)) (bg ++ [sum]) since sum else [] by
      rw [mayOf_drop HII.out, nextP, HKD.out, if_neg hk1, if_neg hk2, HMS.out])
    clear hk1 hk2
    by_cases hin : sum ∈ ms
    · have hcn : ms.contains sum = true := by simpa using hin
      have hcm : decide (sum ∈ ms) = true := decide_eq_true hin
      have HIN := Aside0.mk hin
      rw [HNX.out, if_pos HIN.out]
      have hR2 := HR.out
      rw [HNX.out, if_pos HIN.out] at hR2
      have HR2 := Aside0.mk hR2
      clear hin hR2
      go_enter Tryd.func78, Tryd.ntmps78
      go_wp2_with (go_at_call 80; refine (contains_calls sum ms _ nr w HROW.out).mono ?_)
      rintro e w' ⟨rfl, hw'⟩
      rw [hw']
      clear hw'
      go_upto_region 5 with (fail)
      clear c1 c2 hd hdn hi0 hi1 hi2 p0 pm pg' hx0' hcn hcm
      have s0 : (w.drew).cell? ⟨Bn, 0, none⟩ = some (.func (.func 78) #[] #[.pointer (some ⟨Bl, 0, none⟩), .pointer (some ⟨Bf, 0, none⟩), .pointer (some ⟨Bm, 0, none⟩), .pointer (some ⟨Bn, 0, none⟩)]) := pn
      refine start_ (n := 8) (S := fun w' => w'.cell? ⟨Bn, 0, none⟩ = some (.func (.func 78) #[] #[.pointer (some ⟨Bl, 0, none⟩), .pointer (some ⟨Bf, 0, none⟩), .pointer (some ⟨Bm, 0, none⟩), .pointer (some ⟨Bn, 0, none⟩)])) (ds := []) (ba 8 0) (by kernel_rfl) rfl rfl s0 (fun hHeld => ?_)
      refine with_tabW Next.tab5 Next.bits5 (fun HT_ HW_ => ?_)
      clear pn s0
      obtain ⟨wd, hwd⟩ : ∃ y_, y_ = w.drew := ⟨_, rfl⟩
      have HD := Aside0.mk (show Below w.heap.size w wd by rw [hwd]; exact (Below.refl _ w).drew)
      rw [← hwd] at hHeld ⊢
      clear hwd
      refine tak_ 0 34 (ba 8 1) HT_.out HW_.out hHeld ?_ (v := .func (.func 78) #[] #[.pointer (some ⟨Bl, 0, none⟩), .pointer (some ⟨Bf, 0, none⟩), .pointer (some ⟨Bm, 0, none⟩), .pointer (some ⟨Bn, 0, none⟩)]) (hv := by intro w2 h1; go_simp)
      refine pur_ 1 35 (ba 8 3) HT_.out ?_
      refine pur_ 2 36 (ba 8 7) HT_.out ?_
      refine pur_ 5 39 (ba 8 39) HT_.out ?_
      refine pur_ 6 40 (ba 8 103) HT_.out ?_
      refine on_ 3 (some 37) (ba 8 111) HT_.out (fun K hK => ?_)
      refine value_ (v := .slice (some ⟨wd.heap.size, 0, none⟩) 1 1) (w1 := wd.alloc (.cells #[.int .i64 sum] 3)) (by rfl) rfl ?_ ?_
      · first | (go_simp; done) | (go_simp; rfl)
      have HDA := Aside0.mk (below_alloc HD.out (.cells #[.int .i64 sum] 3))
      have HCN := Aside0.mk (cell_one_new wd (.int .i64 sum) 3)
      have HVA := Aside0.mk (pw_own_below HV.out HDA.out)
      have hHA : (wd.alloc (.cells #[.int .i64 sum] 3)).cell? ⟨Bn, 0, none⟩ = some (.func (.func 78) #[] #[.pointer (some ⟨Bl, 0, none⟩), .pointer (some ⟨Bf, 0, none⟩), .pointer (some ⟨Bm, 0, none⟩), .pointer (some ⟨Bn, 0, none⟩)]) := (blk_cell (blk_below HB.out.bn HDA.out) 0).trans rfl
      refine hK.out _ _ hHA (fun hHeld => ?_)
      clear hK K hHA
      refine nrm_ ?_
      obtain ⟨wb, hwb⟩ : ∃ y_, y_ = wd.alloc (.cells #[.int .i64 sum] 3) := ⟨_, rfl⟩
      rw [← hwb] at HDA HCN HVA hHeld ⊢
      clear hwb
      obtain ⟨i0, hi, hz0, hz1, hz2⟩ := info_parts infoInt
      obtain ⟨v1, w1, hrun, hv1, hg1, hat1, hback1⟩ := run_append_keep (P := Tryd.prog) wb m0 22 22 3 i0 (.int .i64 0) 8 Tryd.underlying22 hi hz0 hz1 hz2 rfl _ _ _ HVA.out ⟨wd.heap.size, 0, none⟩ 1 (.int .i64 sum) HCN.out rfl (by have := HBG.out; have := H8.out; have := HII.out; unfold maxLen; omega) (by have := HBG.out; have := H8.out; have := HII.out; omega) (Nat.le_trans HB.out.size HDA.out.size)
      obtain ⟨hB1, hI1, hO1, hn1, hpost⟩ := next_after Stop HI.out HB.out H0.out HO.out HV.out HVO.out HDA.out hv1 hg1 hat1 hback1
      have HRUN := Aside0.mk hrun
      have HB1 := Aside0.mk hB1
      have HI1 := Aside0.mk hI1
      have HO1 := Aside0.mk hO1
      have HN1 := Aside0.mk hn1
      have HPOST := Aside0.mk hpost
      clear hrun hB1 hI1 hO1 hn1 hpost hv1 hg1 hat1 hback1 hi hz0 hz1 hz2 HCN HVA
      refine on_ 4 (some 38) (ba 8 127) HT_.out (fun K hK => ?_)
      refine value_ (v := v1) (w1 := w1) (by rfl) rfl ?_ ?_
      · have hr := HRUN.out
        unfold execOp
        simp [resolve, invoke, builtin, Act.eval, hr]
      refine hK.out _ _ ((blk_cell HB1.out.bn 0).trans rfl) (fun hHeld => ?_)
      clear hK K
      refine nrm_ ?_
      refine on_ 7 (some 41) (ba 8 255) HT_.out (fun K hK => ?_)
      refine goesV (enters_ Tryd.func78 (by kernel_rfl) rfl) (#[v1, .int .i64 since, .int .i64 sum] ++ #[.pointer (some ⟨Bl, 0, none⟩), .pointer (some ⟨Bf, 0, none⟩), .pointer (some ⟨Bm, 0, none⟩), .pointer (some ⟨Bn, 0, none⟩)]) (by rfl) rfl rfl rfl (by (simp only [List.map_toArray, List.map_cons, List.map_nil]); rfl) ?_
      have hb2 := HMEM.out sum HIN.out
      refine (HIH.out O X w1 v1 (bg ++ [sum]) since sum HB1.out HI1.out HO.out HO1.out HN1.out (by rw [List.length_append, List.length_singleton, HBG.out]) (by have := HSI.out; omega) (by have := HSU.out; omega) HR2.out).mono ?_
      rintro e w2 hp
      obtain ⟨O', h1, h2, h3⟩ := HPOST.out _ _ _ hp
      rcases h3 with ⟨rfl, h4, h5⟩ | ⟨ch, pre, rfl, h4, h5⟩
      · refine .inl ⟨_, rfl, ?_⟩
        have HB2 := Aside0.mk (HB.out.keep h2 (fun k hk => by
          rcases hk with hk | hk
          · exact HO.out k hk
          · exact .inr (own_at HV.out hk)))
        refine hK.out _ _ ((blk_cell HB2.out.bn 0).trans rfl) (fun hHeld => ?_)
        refine don_ HT_.out ?_
        have H1 := Aside0.mk h1
        have H2 := Aside0.mk h2
        have H4 := Aside0.mk h4
        have H5 := Aside0.mk h5
        clear hHeld hK K h1 h2 h4 h5 hp hb2
        go_wp2
        go_end0
        exact ⟨O', H1.out, H2.out, .inl ⟨rfl, H4.out, H5.out⟩⟩
      · refine .inr ⟨ch, rfl, ?_⟩
        exact ⟨rfl, O', h1, h2, .inr ⟨ch, pre, rfl, h4, h5⟩⟩
    · have hcn : ms.contains sum = false := by simpa using hin
      have hcm : decide (sum ∈ ms) = false := decide_eq_false hin
      have HIN := Aside0.mk hin
      rw [HNX.out, if_neg HIN.out]
      have hR2 := HR.out
      rw [HNX.out, if_neg HIN.out] at hR2
      have HR2 := Aside0.mk hR2
      clear hin hR2
      go_enter Tryd.func78, Tryd.ntmps78
      go_wp2_with (go_at_call 80; refine (contains_calls sum ms _ nr w HROW.out).mono ?_)
      rintro e w' ⟨rfl, hw'⟩
      rw [hw']
      clear hw'
      go_wp2_with (fail)
      go_end0
      exact ⟨O, fun k h => .inl h, Turns.refl _ _, .inl ⟨rfl, HV.out, by rw [List.append_nil]; exact H0.out⟩⟩
end
end Go.Proofs.YtgfikondoehblaaDoor.Pr
end
section
namespace Go.Proofs.YtgfikondoehblaaDoor.Pr
open Go.RowKit Go.Shelf Go.Proofs.YtgfikondoehblaaDoorW.PrintWords Go.Proofs.YtgfikondoehblaaDoorW.PrintLast Go.Proofs.YtgfikondoehblaaDoorW.PrintMore Go.Proofs.SumKeep
open SumPlain (lexLtB)
set_option maxRecDepth 100000 in
theorem isNaN_calls (a : Int) (w : World) : Calls Tryd.prog 107 #[.int .i64 a] w fun e w' => e = .returned (.bool false) ∧ Below w.heap.size w w' := by
  have hq : (a != a) = false := by simp
  go_enter Tryd.func107, Tryd.ntmps107
  go_wp2
  go_ret
  exact ⟨by simp, Below.refl _ _⟩
def cmpI (a b : Int) : Int := if a < b then -1 else if b < a then 1 else 0
set_option maxRecDepth 100000 in
theorem cmp_calls (a b : Int) (w : World) : Calls Tryd.prog 83 #[.int .i64 a, .int .i64 b] w fun e w' => e = .returned (.int .i64 (cmpI a b)) ∧ Below w.heap.size w w' := by
  unfold cmpI
  by_cases h1 : a < b
  · have c1 : decide (a < b) = true := decide_eq_true h1
    rw [if_pos h1]
    clear h1
    go_enter Tryd.func83, Tryd.ntmps83
    go_upto_region 2 with (go_at_call 107; refine (isNaN_calls a w).mono ?_; rintro e w1 ⟨rfl, hb1⟩; have HB1 := Aside0.mk hb1; clear hb1)
    go_wp2_with (go_at_call 107; refine (isNaN_calls b w1).mono ?_; rintro e w2 ⟨rfl, hb2⟩; have HB2 := Aside0.mk hb2; clear hb2)
    go_ret
    exact ⟨rfl, below_then HB1.out HB1.out.size HB2.out⟩
  · have c1 : decide (a < b) = false := decide_eq_false h1
    rw [if_neg h1]
    clear h1
    by_cases h2 : b < a
    · have c2 : decide (b < a) = true := decide_eq_true h2
      have c3 : decide (a > b) = true := decide_eq_true h2
      rw [if_pos h2]
      clear h2
      go_enter Tryd.func83, Tryd.ntmps83
      go_upto_region 2 with (go_at_call 107; refine (isNaN_calls a w).mono ?_; rintro e w1 ⟨rfl, hb1⟩; have HB1 := Aside0.mk hb1; clear hb1)
      go_wp2_with (go_at_call 107; refine (isNaN_calls b w1).mono ?_; rintro e w2 ⟨rfl, hb2⟩; have HB2 := Aside0.mk hb2; clear hb2)
      go_ret
      exact ⟨rfl, below_then HB1.out HB1.out.size HB2.out⟩
    · have c2 : decide (b < a) = false := decide_eq_false h2
      have c3 : decide (a > b) = false := decide_eq_false h2
      rw [if_neg h2]
      clear h2
      go_enter Tryd.func83, Tryd.ntmps83
      go_upto_region 2 with (go_at_call 107; refine (isNaN_calls a w).mono ?_; rintro e w1 ⟨rfl, hb1⟩; have HB1 := Aside0.mk hb1; clear hb1)
      go_wp2_with (go_at_call 107; refine (isNaN_calls b w1).mono ?_; rintro e w2 ⟨rfl, hb2⟩; have HB2 := Aside0.mk hb2; clear hb2)
      go_ret
      exact ⟨rfl, below_then HB1.out HB1.out.size HB2.out⟩
theorem lexLtB_at : ∀ (a b : List Int) (j : Nat), (∀ i, i < j → a.getD i 0 = b.getD i 0) → j < a.length → j < b.length → a.getD j 0 ≠ b.getD j 0 → lexLtB a b = decide (a.getD j 0 < b.getD j 0)
  | [], _, j, _, h, _, _ => absurd h (by simp)
  | _ :: _, [], j, _, _, h, _ => absurd h (by simp)
  | x :: r, y :: s, 0, _, _, _, hne => by
    simp only [List.getD_cons_zero] at hne ⊢
    simp [lexLtB, hne]
  | x :: r, y :: s, j + 1, he, h1, h2, hne => by
    have h0 : x = y := by simpa using he 0 (by omega)
    subst h0
    have := lexLtB_at r s j (fun i hi => by simpa using he (i + 1) (by omega)) (by simpa using h1) (by simpa using h2) (by simpa using hne)
    simp only [List.getD_cons_succ]
    rw [← this]
    simp [lexLtB]
theorem lexLtB_same : ∀ (a b : List Int), a.length = b.length → (∀ i, i < a.length → a.getD i 0 = b.getD i 0) → lexLtB a b = false
  | [], _, _, _ => by simp [lexLtB]
  | _ :: _, [], h, _ => by simp at h
  | x :: r, y :: s, h, he => by
    have h0 : x = y := by simpa using he 0 (by simp)
    subst h0
    have := lexLtB_same r s (by simpa using h) (fun i hi => by simpa using he (i + 1) (by simpa using hi))
    simp [lexLtB, this]
set_option maxRecDepth 100000 in
set_option maxHeartbeats 4000000 in
theorem compare_calls (az bz : List Int) (hab : az.length = bz.length) (hlen : az.length ≤ 5000) (A B : Option Addr) (ca cb : Nat) (w : World) (hA : Kd.C (Kd.int .i64) w A az.length az) (hB : Kd.C (Kd.int .i64) w B bz.length bz) :
    Calls Tryd.prog 58 #[.slice A az.length ca, .slice B bz.length cb] w fun e w' => (∃ i : Int, e = .returned (.int .i64 i) ∧ decide (i ≥ 0) = !lexLtB az bz) ∧ Below w.heap.size w w' := by
  have HA := Aside0.mk hA
  have HB := Aside0.mk hB
  have HAB := Aside0.mk hab
  have HLEN := Aside0.mk hlen
  obtain ⟨n, hn⟩ : ∃ n, n = az.length := ⟨_, rfl⟩
  have HNA := Aside0.mk hn
  have HNB := Aside0.mk (show n = bz.length by rw [hn, hab])
  rw [← hab, ← hn]
  clear hA hB hab hlen hn
  go_enter Tryd.func58, Tryd.ntmps58
  go_wp2_with (fail)
  go_loopw [5, 6, 7, 8, 11, 12, 13, 14, 15, 16, 17, 18, 19, 20, 21, 22, 23, 24, 25, 26, 27, 28, 29, 30] (fun _ _ _ _ jv _ _ _ _ _ _ _ _ _ _ _ _ _ _ _ _ _ _ _ wr => ∃ j : Nat, j ≤ n ∧ jv = .int .i64 (j : Int) ∧ Aside0 (∀ i, i < j → az.getD i 0 = bz.getD i 0) ∧ Aside0 (Below w.heap.size w wr))
    (fun _ _ _ _ jv _ _ _ _ _ _ _ _ _ _ _ _ _ _ _ _ _ _ _ _ => n - (intOf jv).toNat)
  case atStart => exact ⟨0, Nat.zero_le _, rfl, ⟨fun i hi => absurd hi (by omega)⟩, ⟨Below.refl _ _⟩⟩
  case round =>
    obtain ⟨j, hj, rfl, HE, HW⟩ := hrel
    by_cases hlt : j < n
    · have hd : decide ((j : Int) < (n : Int)) = true := by simp; omega
      have hdn : decide (j < n) = true := by simp; omega
      have hg : decide ((n : Int) ≤ (j : Int)) = false := by simp; omega
      have hgn : decide (n ≤ j) = false := by simp; omega
      have hj0 : (0 : Int) ≤ (j : Int) := by omega
      have hj1 : (j : Int) < (n : Int) := by omega
      have HLT := Aside0.mk hlt
      have hla : j < az.length := by have := HNA.out; omega
      have hlb : j < bz.length := by have := HNB.out; omega
      obtain ⟨x, hx⟩ : ∃ x, x = az.getD j 0 := ⟨_, rfl⟩
      obtain ⟨y, hy⟩ : ∃ y, y = bz.getD j 0 := ⟨_, rfl⟩
      obtain ⟨ad, rfl, hx0⟩ := Kd.at_int HA.out (j : Int) (by omega) (by omega)
      obtain ⟨bd, rfl, hy0⟩ := Kd.at_int HB.out (j : Int) (by omega) (by omega)
      rw [Int.toNat_natCast, show rd az (j : Int) = az.getD j 0 from rfl, ← hx] at hx0
      rw [Int.toNat_natCast, show rd bz (j : Int) = bz.getD j 0 from rfl, ← hy] at hy0
      replace hx0 := (HW.out.cell (World.block_lt_of_cell? w _ hx0)).trans hx0
      replace hy0 := (HW.out.cell (World.block_lt_of_cell? w _ hy0)).trans hy0
      have HX := Aside0.mk hx
      have HY := Aside0.mk hy
      have HC := Aside0.mk (cmp_calls x y wr)
      have HAT := Aside0.mk (lexLtB_at az bz j HE.out hla hlb)
      clear hx hy hlt hj hla hlb
      by_cases hxy : x = y
      · have hc0 : cmpI x y = 0 := by unfold cmpI; rw [if_neg (by omega), if_neg (by omega)]
        rw [hc0] at HC
        have HXY := Aside0.mk hxy
        clear hc0 hxy
        go_wp2_with (go_at_call 83; refine HC.out.mono ?_; rintro e w3 ⟨rfl, hb3⟩; have HB3 := Aside0.mk hb3; clear hb3)
        go_roundw
        case rel => exact ⟨j + 1, HLT.out, by rw [w_up HLT.out (by have := HLEN.out; have := HNA.out; omega)], ⟨fun i hi => by
            rcases Nat.lt_or_eq_of_le (Nat.lt_succ_iff.1 hi) with hi | rfl
            · exact HE.out i hi
            · rw [← HX.out, ← HY.out]; exact HXY.out⟩, ⟨below_then HW.out HW.out.size HB3.out⟩⟩
        case measure => exact meas_up HLT.out (by have := HLEN.out; have := HNA.out; omega)
      · have HLX := Aside0.mk (HAT.out (by rw [← HX.out, ← HY.out]; exact hxy))
        obtain ⟨cv, hcv⟩ : ∃ cv, cv = cmpI x y := ⟨_, rfl⟩
        have hnz : (cv != 0) = true := by
          rw [hcv]
          unfold cmpI
          by_cases h1 : x < y
          · rw [if_pos h1]; rfl
          · rw [if_neg h1, if_pos (by omega)]; rfl
        have HCV := Aside0.mk (show decide (cv ≥ 0) = !decide (x < y) by
          rw [hcv]
          unfold cmpI
          by_cases h1 : x < y
          · rw [if_pos h1, decide_eq_true h1]; rfl
          · rw [if_neg h1, if_pos (by omega), decide_eq_false h1]; rfl)
        rw [← hcv] at HC
        clear hcv hxy
        go_wp2_with (go_at_call 83; refine HC.out.mono ?_; rintro e w3 ⟨rfl, hb3⟩; have HB3 := Aside0.mk hb3; clear hb3)
        go_ret
        refine ⟨⟨_, rfl, ?_⟩, below_then HW.out HW.out.size HB3.out⟩
        rw [HCV.out, HLX.out, HX.out, HY.out]
    · obtain rfl : j = n := by omega
      have hd : decide ((j : Int) < (j : Int)) = false := by simp
      have hdn : decide (j < j) = false := by simp
      clear hj hlt
      go_wp2_with (fail)
      go_ret
      refine ⟨⟨_, rfl, ?_⟩, HW.out⟩
      rw [lexLtB_same az bz HAB.out (fun i hi => HE.out i (by have := HNA.out; omega))]
      rfl
end Go.Proofs.YtgfikondoehblaaDoor.Pr
end
section
namespace Go.Proofs.YtgfikondoehblaaDoor.Pr
open Go.RowKit Go.Shelf Go.Proofs.YtgfikondoehblaaDoorW.PrintWords Go.Proofs.YtgfikondoehblaaDoorW.PrintLast Go.Proofs.YtgfikondoehblaaDoorW.PrintMore Go.Proofs.SumKeep
def withoutTo (l : List S38) (ss : List Int) (j : Nat) : List S38 := ((List.range j).filter fun i : Nat => !(ss.contains (i : Int))).map fun i : Nat => rd_T38 l (i : Int)
def withoutL (l : List S38) (ss : List Int) : List S38 := withoutTo l ss l.length
theorem withoutTo_len (l : List S38) (ss : List Int) (j : Nat) : (withoutTo l ss j).length ≤ j := by
  unfold withoutTo
  rw [List.length_map]
  refine Nat.le_trans (List.length_filter_le _ _) ?_
  rw [List.length_range]
  exact Nat.le_refl _
theorem withoutTo_step {l : List S38} {ss : List Int} {j : Nat} (h : ss.contains (j : Int) = false) : withoutTo l ss (j + 1) = withoutTo l ss j ++ [rd_T38 l (j : Int)] := by
  unfold withoutTo
  rw [List.range_succ, List.filter_append, List.map_append]
  simp only [List.filter_cons, h, Bool.not_false, if_true, List.filter_nil, List.map_cons, List.map_nil]
theorem withoutTo_skip {l : List S38} {ss : List Int} {j : Nat} (h : ss.contains (j : Int) = true) : withoutTo l ss (j + 1) = withoutTo l ss j := by
  unfold withoutTo
  rw [List.range_succ, List.filter_append, List.map_append]
  simp only [List.filter_cons, h, Bool.not_true, Bool.false_eq_true, if_false, List.filter_nil, List.map_nil, List.append_nil]
set_option maxRecDepth 100000 in
set_option maxHeartbeats 4000000 in
theorem without_calls (A : Option Addr) (c : Nat) (l : List S38) (hl8 : l.length ≤ 8) (v : Value) (ss : List Int) (base : Nat) (w : World) (hr : Kd.C k38 w A l.length l) (hv : OwnInts w base v ss) :
    Calls Tryd.prog 60 #[.slice A l.length c, v] w fun e w' => ∃ v', e = .returned v' ∧ Kd.R k38 38 w' w.heap.size (fun _ => True) v' (withoutL l ss) ∧ Below w.heap.size w w' := by
  have HR := Aside0.mk hr
  have HV := Aside0.mk hv
  have H8 := Aside0.mk hl8
  obtain ⟨av, cv, rfl⟩ : ∃ av cv, v = .slice av ss.length cv := by
    rcases own_shape hv with ⟨h1, h2⟩ | ⟨g, cap, h1, _⟩
    · exact ⟨none, 0, by rw [h1, h2]; rfl⟩
    · exact ⟨_, _, h1⟩
  clear hr hv hl8
  go_enter Tryd.func60, Tryd.ntmps60
  go_wp2_with (fail)
  go_loopw [5, 6, 7, 10, 11, 12, 13, 14, 15, 16, 17, 18, 19, 20, 21, 22, 23] (fun V5 _ _ jv _ _ _ _ _ _ _ _ _ _ _ _ _ wr => ∃ j : Nat, j ≤ l.length ∧ jv = .int .i64 (j : Int) ∧ Aside0 (Kd.R k38 38 wr w.heap.size (fun _ => True) V5 (withoutTo l ss j)) ∧ Aside0 (Below w.heap.size w wr))
    (fun _ _ _ jv _ _ _ _ _ _ _ _ _ _ _ _ _ _ => l.length - (intOf jv).toNat)
  case atStart => exact ⟨0, Nat.zero_le _, rfl, ⟨by rw [show withoutTo l ss 0 = [] from rfl]; exact Kd.R_nil _ _ _ _ _⟩, ⟨Below.refl _ _⟩⟩
  case round =>
    obtain ⟨j, hj, rfl, HO, HB⟩ := hrel
    by_cases hlt : j < l.length
    · have hd : decide ((j : Int) < (l.length : Int)) = true := by simp; omega
      have hdn : decide (j < l.length) = true := by simp; omega
      have hj0 : (0 : Int) ≤ (j : Int) := by omega
      have hj1 : (j : Int) < (l.length : Int) := by omega
      have HLT := Aside0.mk hlt
      obtain ⟨ad, rfl, hx0, hx1⟩ := at_T38 HR.out j (by omega) (by omega)
      rw [Int.toNat_natCast] at hx0 hx1
      replace hx0 := (HB.out.cell (World.block_lt_of_cell? w _ hx0)).trans hx0
      replace hx1 := (HB.out.cell (World.block_lt_of_cell? w _ hx1)).trans hx1
      obtain ⟨kd, hkd⟩ : ∃ kd, kd = (rd_T38 l (j : Int)).f0 := ⟨_, rfl⟩
      obtain ⟨sg, hsg⟩ : ∃ sg, sg = (rd_T38 l (j : Int)).f1 := ⟨_, rfl⟩
      rw [← hkd] at hx0
      rw [← hsg] at hx1
      have HM := Aside0.mk (show ∀ (W : World) (b : Nat), Kd.M k38 W b (fun _ => False) (rd_T38 l (j : Int)) [.int .i64 kd, .string sg] from fun W b => by rw [hkd, hsg]; exact k38_mkM W b _ _)
      clear hkd hsg hj hlt
      go_upto_region 5 with (fail)
      obtain ⟨W1, hW1⟩ : ∃ W1, W1 = wr.alloc (.cells #[.int .i64 kd, .string sg] 38) := ⟨_, rfl⟩
      obtain ⟨bx, hbx⟩ : ∃ bx, bx = wr.heap.size := ⟨_, rfl⟩
      have HX := Aside0.mk (show W1.heap[bx]? = some (.cells #[.int .i64 kd, .string sg] 38 (0, 0)) by rw [hW1, hbx]; exact heap_alloc_new wr _)
      have HB1 := Aside0.mk (show Below w.heap.size w W1 by rw [hW1]; exact below_alloc HB.out _)
      have HO1 := Aside0.mk (show Kd.R k38 38 W1 w.heap.size (fun _ => True) u5 (withoutTo l ss j) by rw [hW1]; exact Kd.R_below HO.out (below_alloc (Below.refl _ _) _))
      rw [← hW1, ← hbx]
      have HC := Aside0.mk (contains_calls (j : Int) ss (.slice av ss.length cv) base W1 (pw_own_below HV.out (HB1.out)))
      have hc0 : W1.cell? ⟨bx, 0, none⟩ = some (.int .i64 kd) := (blk_cell HX.out 0).trans rfl
      have hc1 : W1.cell? ⟨bx, 1, none⟩ = some (.string sg) := (blk_cell HX.out 1).trans rfl
      clear hW1 hbx hx0 hx1 hd hdn hj0 hj1
      cases hin : ss.contains (j : Int) with
      | true =>
        have HIN := Aside0.mk hin
        rw [hin] at HC
        clear hin
        go_wp2_with (go_at_call 80; refine HC.out.mono ?_; rintro e w3 ⟨rfl, rfl⟩)
        go_roundw
        case rel => exact ⟨j + 1, HLT.out, by rw [w_up HLT.out (by have := H8.out; omega)], ⟨by rw [withoutTo_skip HIN.out]; exact HO1.out⟩, HB1⟩
        case measure => exact meas_up HLT.out (by have := H8.out; omega)
      | false =>
        have HIN := Aside0.mk hin
        rw [hin] at HC
        clear hin
        obtain ⟨ao, co, hv5⟩ := Kd.R_slice HO1.out
        subst hv5
        go_upto_region 6 with (go_at_call 80; refine HC.out.mono ?_; rintro e w3 ⟨rfl, rfl⟩)
        go_wp2_with (at_builtin; refine Kd.R_append k38 (w0 := w) w.heap.size rfl (.tmp 19) (.tmp 21) 25 38 (.agg #[(.int .i64 0), (.string ⟨#[]⟩)]) 24 rfl Tryd.underlying25 info38 rfl (by decide) (by decide) (.slice ao (withoutTo l ss j).length co) (withoutTo l ss j) (rd_T38 l (j : Int)) [.int .i64 kd, .string sg] (fun _ => True) (fun _ => False) rfl rfl (HM.out _ _) (fun k hk => hk.elim) (fun _ _ => trivial) HO1.out HB1.out HB1.out.size (by have := withoutTo_len l ss j; have := HLT.out; have := H8.out; omega) ?_; intro v1 w5 hr5 hb5 hg5 hat5)
        go_roundw
        case rel => exact ⟨j + 1, HLT.out, by rw [w_up HLT.out (by have := H8.out; omega)], ⟨by rw [withoutTo_step HIN.out]; exact hr5⟩, ⟨hb5⟩⟩
        case measure => exact meas_up HLT.out (by have := H8.out; omega)
    · obtain rfl : j = l.length := by omega
      have hd : decide ((l.length : Int) < (l.length : Int)) = false := by simp
      have hdn : decide (l.length < l.length) = false := by simp
      clear hj hlt
      go_wp2_with (fail)
      go_ret
      exact ⟨_, rfl, HO.out, HB.out⟩
theorem same_upto {α : Type} [DecidableEq α] {a b : List α} {d : α} (hl : a.length = b.length) (h : ∀ i, i < a.length → a.getD i d = b.getD i d) : a = b := by
  refine List.ext_getElem hl fun i h1 h2 => ?_
  have := h i h1
  rw [List.getD_eq_getElem?_getD, List.getD_eq_getElem?_getD, List.getElem?_eq_getElem h1, List.getElem?_eq_getElem h2] at this
  exact this
theorem same_not {α : Type} [DecidableEq α] {a b : List α} {d : α} {i : Nat} (h : a.getD i d ≠ b.getD i d) : a ≠ b := fun e => h (by rw [e])
def SameSo {α : Type} [DecidableEq α] (a b : List α) (d : α) (j : Nat) (s : Bool) : Prop := (s = true → a.length = b.length ∧ ∀ i, i < j → a.getD i d = b.getD i d) ∧ (s = false → a ≠ b)
theorem SameSo.start {α : Type} [DecidableEq α] (a b : List α) (d : α) : SameSo a b d 0 ((a.length : Int) == (b.length : Int)) := by
  refine ⟨fun h => ⟨by have := beq_iff_eq.1 h; omega, fun i hi => absurd hi (by omega)⟩, fun h e => ?_⟩
  rw [e] at h
  simp at h
theorem SameSo.step {α : Type} [DecidableEq α] {a b : List α} {d : α} {j : Nat} (h : SameSo a b d j true) {s : Bool} (hs : s = true ↔ a.getD j d = b.getD j d) : SameSo a b d (j + 1) s := by
  refine ⟨fun hd => ⟨(h.1 rfl).1, fun i hi => ?_⟩, fun hd => same_not (fun e => by rw [hs.2 e] at hd; cases hd)⟩
  rcases Nat.lt_or_eq_of_le (Nat.lt_succ_iff.1 hi) with hi | rfl
  · exact (h.1 rfl).2 i hi
  · exact hs.1 hd
theorem SameSo.fin {α : Type} [DecidableEq α] {a b : List α} {d : α} (h : SameSo a b d a.length true) : decide (a = b) = true := decide_eq_true (same_upto (h.1 rfl).1 (h.1 rfl).2)
theorem SameSo.no {α : Type} [DecidableEq α] {a b : List α} {d : α} {j : Nat} (h : SameSo a b d j false) : decide (a = b) = false := decide_eq_false (h.2 rfl)
set_option maxRecDepth 100000 in
set_option maxHeartbeats 4000000 in
theorem sameInts_calls (az bz : List Int) (A B : Option Addr) (ca cb : Nat) (w : World) (hA : Kd.C (Kd.int .i64) w A az.length az) (hB : Kd.C (Kd.int .i64) w B bz.length bz) :
    Calls Tryd.prog 22 #[.slice A az.length ca, .slice B bz.length cb] w fun e w' => e = .returned (.bool (decide (az = bz))) ∧ Below w.heap.size w w' := by
  have HA := Aside0.mk hA
  have HB := Aside0.mk hB
  have HMX := Aside0.mk (Kd.C_max hA)
  clear hA hB
  go_enter Tryd.func22, Tryd.ntmps22
  go_wp2_with (fail)
  go_loopw [5, 6, 12, 13, 14, 15, 16, 17, 18, 19, 20, 21, 22, 23, 24, 25, 26, 27, 28, 29] (fun sv jv _ _ _ _ _ _ _ _ _ _ _ _ _ _ _ _ _ _ wr => ∃ (j : Nat) (s : Bool), j ≤ az.length ∧ sv = .bool s ∧ jv = .int .i64 (j : Int) ∧ Aside0 (SameSo az bz 0 j s) ∧ Aside0 (Below w.heap.size w wr))
    (fun _ jv _ _ _ _ _ _ _ _ _ _ _ _ _ _ _ _ _ _ _ => az.length - (intOf jv).toNat)
  case atStart => exact ⟨0, _, Nat.zero_le _, rfl, rfl, ⟨SameSo.start az bz 0⟩, ⟨Below.refl _ _⟩⟩
  case round =>
    obtain ⟨j, s, hj, rfl, rfl, HE, HW⟩ := hrel
    cases s with
    | false =>
      go_wp2
      go_ret
      exact ⟨by rw [HE.out.no]; rfl, HW.out⟩
    | true =>
      by_cases hlt : j < az.length
      · have hd : decide ((j : Int) < (az.length : Int)) = true := by simp; omega
        have hdn : decide (j < az.length) = true := by simp; omega
        have hj0 : (0 : Int) ≤ (j : Int) := by omega
        have hj1 : (j : Int) < (az.length : Int) := by omega
        have hbl : bz.length = az.length := (HE.out.1 rfl).1.symm
        have HLT := Aside0.mk hlt
        obtain ⟨x, hx⟩ : ∃ x, x = az.getD j 0 := ⟨_, rfl⟩
        obtain ⟨y, hy⟩ : ∃ y, y = bz.getD j 0 := ⟨_, rfl⟩
        obtain ⟨ad, rfl, hx0⟩ := Kd.at_int HA.out (j : Int) (by omega) (by omega)
        obtain ⟨bd, rfl, hy0⟩ := Kd.at_int HB.out (j : Int) (by omega) (by omega)
        rw [Int.toNat_natCast, show rd az (j : Int) = az.getD j 0 from rfl, ← hx] at hx0
        rw [Int.toNat_natCast, show rd bz (j : Int) = bz.getD j 0 from rfl, ← hy] at hy0
        replace hx0 := (HW.out.cell (World.block_lt_of_cell? w _ hx0)).trans hx0
        replace hy0 := (HW.out.cell (World.block_lt_of_cell? w _ hy0)).trans hy0
        have HST := Aside0.mk (HE.out.step (s := (x == y)) (by rw [hx, hy]; exact beq_iff_eq))
        have hj2 : (j : Int) < (bz.length : Int) := by omega
        clear hx hy hlt hj hbl
        go_upto_region 5 with (fail)
        go_quiet (fail)
        go_wp2
        go_roundw
        case rel => exact ⟨j + 1, _, HLT.out, rfl, by rw [w_up HLT.out HMX.out], HST, ⟨drewN_below HW.out⟩⟩
        case measure => exact meas_up HLT.out HMX.out
      · obtain rfl : j = az.length := by omega
        have hd : decide ((az.length : Int) < (az.length : Int)) = false := by simp
        have hdn : decide (az.length < az.length) = false := by simp
        clear hj hlt
        go_wp2_with (fail)
        go_ret
        exact ⟨by rw [HE.out.fin]; rfl, HW.out⟩
theorem bytes_eq (x y : ByteArray) : (x.toList == y.toList) = true ↔ x = y := by
  rw [beq_iff_eq, ByteArray.toList_eq, ByteArray.toList_eq]
  exact ⟨fun h => ByteArray.ext (Array.toList_inj.mp h), fun h => by rw [h]⟩
set_option maxRecDepth 100000 in
set_option maxHeartbeats 4000000 in
theorem sameTexts_calls (az bz : List ByteArray) (A B : Option Addr) (ca cb : Nat) (w : World) (hA : Kd.C (Kd.string) w A az.length az) (hB : Kd.C (Kd.string) w B bz.length bz) :
    Calls Tryd.prog 46 #[.slice A az.length ca, .slice B bz.length cb] w fun e w' => e = .returned (.bool (decide (az = bz))) ∧ Below w.heap.size w w' := by
  have HA := Aside0.mk hA
  have HB := Aside0.mk hB
  have HMX := Aside0.mk (Kd.C_max hA)
  clear hA hB
  go_enter Tryd.func46, Tryd.ntmps46
  go_wp2_with (fail)
  go_loopw [5, 6, 12, 13, 14, 15, 16, 17, 18, 19, 20, 21, 22, 23, 24, 25, 26, 27, 28, 29] (fun sv jv _ _ _ _ _ _ _ _ _ _ _ _ _ _ _ _ _ _ wr => ∃ (j : Nat) (s : Bool), j ≤ az.length ∧ sv = .bool s ∧ jv = .int .i64 (j : Int) ∧ Aside0 (SameSo az bz ByteArray.empty j s) ∧ Aside0 (Below w.heap.size w wr))
    (fun _ jv _ _ _ _ _ _ _ _ _ _ _ _ _ _ _ _ _ _ _ => az.length - (intOf jv).toNat)
  case atStart => exact ⟨0, _, Nat.zero_le _, rfl, rfl, ⟨SameSo.start az bz ByteArray.empty⟩, ⟨Below.refl _ _⟩⟩
  case round =>
    obtain ⟨j, s, hj, rfl, rfl, HE, HW⟩ := hrel
    cases s with
    | false =>
      go_wp2
      go_ret
      exact ⟨by rw [HE.out.no]; rfl, HW.out⟩
    | true =>
      by_cases hlt : j < az.length
      · have hd : decide ((j : Int) < (az.length : Int)) = true := by simp; omega
        have hdn : decide (j < az.length) = true := by simp; omega
        have hj0 : (0 : Int) ≤ (j : Int) := by omega
        have hj1 : (j : Int) < (az.length : Int) := by omega
        have hbl : bz.length = az.length := (HE.out.1 rfl).1.symm
        have HLT := Aside0.mk hlt
        obtain ⟨x, hx⟩ : ∃ x, x = az.getD j ByteArray.empty := ⟨_, rfl⟩
        obtain ⟨y, hy⟩ : ∃ y, y = bz.getD j ByteArray.empty := ⟨_, rfl⟩
        obtain ⟨ad, rfl, hx0⟩ := Kd.at_string HA.out (j : Int) (by omega) (by omega)
        obtain ⟨bd, rfl, hy0⟩ := Kd.at_string HB.out (j : Int) (by omega) (by omega)
        rw [Int.toNat_natCast, show rdOf ByteArray.empty az (j : Int) = az.getD j ByteArray.empty from rfl, ← hx] at hx0
        rw [Int.toNat_natCast, show rdOf ByteArray.empty bz (j : Int) = bz.getD j ByteArray.empty from rfl, ← hy] at hy0
        replace hx0 := (HW.out.cell (World.block_lt_of_cell? w _ hx0)).trans hx0
        replace hy0 := (HW.out.cell (World.block_lt_of_cell? w _ hy0)).trans hy0
        have HST := Aside0.mk (HE.out.step (s := (x.toList == y.toList)) (by rw [hx, hy]; exact bytes_eq _ _))
        have hj2 : (j : Int) < (bz.length : Int) := by omega
        clear hx hy hlt hj hbl
        go_upto_region 5 with (fail)
        go_quiet (fail)
        go_wp2
        go_roundw
        case rel => exact ⟨j + 1, _, HLT.out, rfl, by rw [w_up HLT.out HMX.out], HST, ⟨drewN_below HW.out⟩⟩
        case measure => exact meas_up HLT.out HMX.out
      · obtain rfl : j = az.length := by omega
        have hd : decide ((az.length : Int) < (az.length : Int)) = false := by simp
        have hdn : decide (az.length < az.length) = false := by simp
        clear hj hlt
        go_wp2_with (fail)
        go_ret
        exact ⟨by rw [HE.out.fin]; rfl, HW.out⟩
set_option maxRecDepth 100000 in
set_option maxHeartbeats 4000000 in
theorem sameGrids_calls (az bz : List (List Int)) (A B : Option Addr) (ca cb : Nat) (w : World) (hA : Kd.C (Kd.slice 3 (Kd.int .i64)) w A az.length az) (hB : Kd.C (Kd.slice 3 (Kd.int .i64)) w B bz.length bz) :
    Calls Tryd.prog 19 #[.slice A az.length ca, .slice B bz.length cb] w fun e w' => e = .returned (.bool (decide (az = bz))) ∧ Below w.heap.size w w' := by
  have HA := Aside0.mk hA
  have HB := Aside0.mk hB
  have HMX := Aside0.mk (Kd.C_max hA)
  clear hA hB
  go_enter Tryd.func19, Tryd.ntmps19
  go_wp2_with (fail)
  go_loopw [5, 6, 12, 13, 14, 15, 16, 17, 18, 19, 20, 21, 22, 23, 24, 25, 26, 27, 28, 29] (fun sv jv _ _ _ _ _ _ _ _ _ _ _ _ _ _ _ _ _ _ wr => ∃ (j : Nat) (s : Bool), j ≤ az.length ∧ sv = .bool s ∧ jv = .int .i64 (j : Int) ∧ Aside0 (SameSo az bz [] j s) ∧ Aside0 (Below w.heap.size w wr))
    (fun _ jv _ _ _ _ _ _ _ _ _ _ _ _ _ _ _ _ _ _ _ => az.length - (intOf jv).toNat)
  case atStart => exact ⟨0, _, Nat.zero_le _, rfl, rfl, ⟨SameSo.start az bz []⟩, ⟨Below.refl _ _⟩⟩
  case round =>
    obtain ⟨j, s, hj, rfl, rfl, HE, HW⟩ := hrel
    cases s with
    | false =>
      go_wp2
      go_ret
      exact ⟨by rw [HE.out.no]; rfl, HW.out⟩
    | true =>
      by_cases hlt : j < az.length
      · have hd : decide ((j : Int) < (az.length : Int)) = true := by simp; omega
        have hdn : decide (j < az.length) = true := by simp; omega
        have hj0 : (0 : Int) ≤ (j : Int) := by omega
        have hj1 : (j : Int) < (az.length : Int) := by omega
        have hbl : bz.length = az.length := (HE.out.1 rfl).1.symm
        have HLT := Aside0.mk hlt
        obtain ⟨x, hx⟩ : ∃ x, x = az.getD j [] := ⟨_, rfl⟩
        obtain ⟨y, hy⟩ : ∃ y, y = bz.getD j [] := ⟨_, rfl⟩
        obtain ⟨ad, A1, c1, rfl, hx0, _, hx1⟩ := at_L3 HA.out (j : Int) (by omega) (by omega)
        obtain ⟨bd, B1, d1, rfl, hy0, _, hy1⟩ := at_L3 HB.out (j : Int) (by omega) (by omega)
        rw [Int.toNat_natCast, show rd_L3 az (j : Int) = az.getD j [] from rfl, ← hx] at hx0
        rw [Int.toNat_natCast, show rd_L3 bz (j : Int) = bz.getD j [] from rfl, ← hy] at hy0
        rw [show rd_L3 az (j : Int) = az.getD j [] from rfl, ← hx] at hx1
        rw [show rd_L3 bz (j : Int) = bz.getD j [] from rfl, ← hy] at hy1
        replace hx0 := (HW.out.cell (World.block_lt_of_cell? w _ hx0)).trans hx0
        replace hy0 := (HW.out.cell (World.block_lt_of_cell? w _ hy0)).trans hy0
        have HX1 := Aside0.mk (Kd.C_below hx1 HW.out)
        have HY1 := Aside0.mk (Kd.C_below hy1 HW.out)
        have HST := Aside0.mk (HE.out.step (s := decide (x = y)) (by rw [hx, hy]; exact decide_eq_true_iff))
        have hj2 : (j : Int) < (bz.length : Int) := by omega
        clear hx hy hlt hj hbl hx1 hy1
        go_upto_region 5 with (fail)
        go_region_held3 (fun w' => w'.cell? (ad.add j) = some (.slice A1 x.length c1) ∧ w'.cell? (bd.add j) = some (.slice B1 y.length d1)) (go_keep)
          (((with_reducible refine (sameInts_calls x y A1 B1 c1 d1 _ (Kd.C_below HX1.out (Below.refl _ wr).drew) (Kd.C_below HY1.out (Below.refl _ wr).drew)).mono ?_)
            rintro e w3 ⟨rfl, hb⟩
            have HB3 := Aside0.mk (below_then (Below.refl _ wr).drew (Nat.le_refl _) hb)
            have hx0' : w3.cell? (ad.add j) = some (.slice A1 x.length c1) := (HB3.out.cell (World.block_lt_of_cell? _ _ hx0)).trans hx0
            have hy0' : w3.cell? (bd.add j) = some (.slice B1 y.length d1) := (HB3.out.cell (World.block_lt_of_cell? _ _ hy0)).trans hy0
            clear hb))
        go_wp2
        go_roundw
        case rel => exact ⟨j + 1, _, HLT.out, rfl, by rw [w_up HLT.out HMX.out], HST, ⟨below_then HW.out HW.out.size HB3.out⟩⟩
        case measure => exact meas_up HLT.out HMX.out
      · obtain rfl : j = az.length := by omega
        have hd : decide ((az.length : Int) < (az.length : Int)) = false := by simp
        have hdn : decide (az.length < az.length) = false := by simp
        clear hj hlt
        go_wp2_with (fail)
        go_ret
        exact ⟨by rw [HE.out.fin]; rfl, HW.out⟩
end Go.Proofs.YtgfikondoehblaaDoor.Pr
end
