/- Part 13 of 21 of the proof of: SumsLess: for every slice of numbers, the law returns true: without the entries that Struck names an account made of them adds up, and without fewer ones, or as many that come before, it does not; no condition beyond the statement's own. -/
import Derived.RangeFuncNested
import Derived.RangeFuncBound
import Derived.RangeFuncCalls
import Derived.RangeFuncLeaves
import Derived.RangeFuncBox
import Derived.Maps.AppendAt
import Derived.Test.YtgfikondoehblaaDoorLE12
set_option linter.unusedVariables false
set_option linter.unusedSimpArgs false
set_option linter.unusedSectionVars false
section
namespace Go.Proofs.YtgfikondoehblaaDoor.Pr
open Go.RowKit Go.Shelf Go.Proofs.YtgfikondoehblaaDoorW.PrintWords Go.Proofs.YtgfikondoehblaaDoorW.PrintLast Go.Proofs.YtgfikondoehblaaDoorW.PrintMore
section
variable {n : Nat} {P : Program} {ops : Array Oper} {Q : Exit → Act → World → Prop} {fuel : Nat} {l : Array Bool} {a a' : Act} {w : World} {oi oj : Oper} {v : Value}
abbrev AnyW (n : Nat) (P : Program) (ops : Array Oper) (Q : Exit → Act → World → Prop) := wpAnyIn Fence.wide n P .any ops Q
theorem name_ops (h : ∀ ops' Q', ops' = ops → Q' = Q → AnyW n P ops' Q' fuel l a w) : AnyW n P ops Q fuel l a w := h _ _ rfl rfl
theorem opW {i : Nat} (hi : ops[i]? = some oi) (hw : Region.wanted oi (yielded ops a.tmps) = true) (l' : Array Bool) (hl : l.setIfInBounds i true = l') (h : oi.wpIn Fence.wide n P a w (AnyW n P ops Q fuel l') Q) :
    wpOpIn Fence.wide n P ops Q i (AnyW n P ops Q fuel (l.setIfInBounds i true)) a w := by
  unfold wpOpIn
  rw [hi]
  simp only [hw, if_true]
  rw [hl]
  exact h
theorem opN {i : Nat} (hi : ops[i]? = some oi) (hw : Region.wanted oi (yielded ops a.tmps) = false) (l' : Array Bool) (hl : l.setIfInBounds i true = l') {N : Tmp} (hN : oi.dst = some N) (ha : a.put (some N) undef = a') (h : AnyW n P ops Q fuel l' a' w) :
    wpOpIn Fence.wide n P ops Q i (AnyW n P ops Q fuel (l.setIfInBounds i true)) a w := by
  unfold wpOpIn
  rw [hi]
  simp only [hw]
  rw [hl]
  subst ha
  rw [← hN] at h
  exact ⟨fun _ _ => trivial, h⟩
theorem valW {K : Act → World → Prop} (hd : ∀ c, oi.op ≠ .defer c) (hv : (execOp a.eval oi).run P w = .ok (.value v) w) {N : Tmp} (hN : oi.dst = some N) (ha : a.put (some N) v = a') (h : K a' w) : oi.wpIn Fence.wide n P a w K Q := by
  refine ⟨fun _ _ => trivial, ?_⟩
  rw [Oper.semAt_eq _ _ _ hd, hv]
  subst ha
  rw [← hN] at h
  exact h
theorem callW {K : Act → World → Prop} {f : Nat} {args : Array Value} (hd : ∀ c, oi.op ≠ .defer c) (hv : (execOp a.eval oi).run P w = .ok (.enter f args) w)
    (h : CallsIn Fence.wide (n - 1) P f args w fun e w' => ∃ v, e = .returned v ∧ K (a.put oi.dst v) w') : oi.wpIn Fence.wide n P a w K Q := by
  refine ⟨fun _ _ => trivial, ?_⟩
  rw [Oper.semAt_eq _ _ _ hd, hv]
  refine ⟨(fun h => by simp [Fence.wide] at h), h.mono ?_⟩
  rintro e w' ⟨v, rfl, hK⟩
  exact hK
theorem roundW {K : Act → World → Prop} {L fn : Nat} {tmps : Array Value} {cs bd : Code} (hd : ∀ c, oi.op ≠ .defer c) (hv : (execOp a.eval oi).run P w = .ok (.round L fn tmps cs bd) w)
    (h : RoundIn Fence.wide (n - 1) P L fn tmps cs bd w fun e w' => ∃ v, e = .returned v ∧ K (a.put oi.dst v) w') : oi.wpIn Fence.wide n P a w K Q := by
  refine ⟨fun _ _ => trivial, ?_⟩
  rw [Oper.semAt_eq _ _ _ hd, hv]
  refine ⟨(fun h => by simp [Fence.wide] at h), RoundIn.mono h ?_⟩
  rintro e w' ⟨v, rfl, hK⟩
  exact hK
theorem oneW (i : Nat) (hr : Region.ready .any ops l = [i]) (h : wpOpIn Fence.wide n P ops Q i (AnyW n P ops Q fuel (l.setIfInBounds i true)) a w) : AnyW n P ops Q (fuel + 1) l a w :=
  ⟨(fun e => by rw [hr] at e; cases e), (fun j hj => by rw [hr] at hj; cases List.mem_singleton.1 hj; exact h)⟩
theorem twoW (i j : Nat) (hr : Region.ready .any ops l = [i, j]) (h : wpOpIn Fence.wide n P ops Q i (AnyW n P ops Q fuel (l.setIfInBounds i true)) a w) (h' : wpOpIn Fence.wide n P ops Q j (AnyW n P ops Q fuel (l.setIfInBounds j true)) a w) : AnyW n P ops Q (fuel + 1) l a w :=
  ⟨(fun e => by rw [hr] at e; cases e), fun k hk => by
    rw [hr] at hk
    rcases List.mem_cons.1 hk with rfl | hk
    · exact h
    · cases List.mem_singleton.1 hk
      exact h'⟩
theorem endW (hr : Region.ready .any ops l = []) (h : Q .normal a w) : AnyW n P ops Q 0 l a w := ⟨hr, h⟩
end
def KpB (n₀ Bn : Nat) (W W' : World) : Prop := Below n₀ W W' ∧ ∀ o, W.heap[Bn]? = some o → o.isCells = true → W'.heap[Bn]? = some o
theorem KpB.trans {n₀ Bn : Nat} {A B C : World} (h : KpB n₀ Bn A B) (k : KpB n₀ Bn B C) : KpB n₀ Bn A C := ⟨h.1.trans k.1, fun o ho hc => k.2 o (h.2 o ho hc) hc⟩
theorem KpB.refl (n₀ Bn : Nat) (W : World) : KpB n₀ Bn W W := ⟨Below.refl _ _, fun _ h _ => h⟩
theorem KpB.of_new {n₀ Bn : Nat} {A B : World} (h : Below A.heap.size A B) (hn : n₀ ≤ A.heap.size) : KpB n₀ Bn A B := ⟨h.mono hn, fun o ho _ => (h.block _ (blk_lt ho)).trans ho⟩
theorem belowK_b {n₀ : Nat} {w : World} (h : n₀ ≤ w.heap.size) : ∀ (W : World) (l : Nat) (o o' : Obj), w.heap.size ≤ l → W.heap[l]? = some o → o.isCells = false → o.isWalk = false → Below n₀ W (W.putObj l o') := fun W l o o' hl ho hc hwk =>
  (Below.refl _ W).grown (grownBy_putObj' W l o') (by have := blk_lt ho; omega) (fun k e => by cases e; omega)
theorem KpB_t {n₀ Bn : Nat} : ∀ {A B C : World}, KpB n₀ Bn A B → KpB n₀ Bn B C → KpB n₀ Bn A C := fun h k => h.trans k
theorem KpB_b {n₀ Bn : Nat} {w : World} (h : n₀ ≤ w.heap.size) : ∀ (W : World) (l : Nat) (o o' : Obj), w.heap.size ≤ l → W.heap[l]? = some o → o.isCells = false → o.isWalk = false → KpB n₀ Bn W (W.putObj l o') := fun W l o o' hl ho hc hwk =>
  ⟨belowK_b h W l o o' hl ho hc hwk, fun o2 h2 hc2 => (World.putObj_heap_other (fun e => by subst e; rw [ho] at h2; cases h2; rw [hc] at hc2; cases hc2)).trans h2⟩
end Go.Proofs.YtgfikondoehblaaDoor.Pr
end
section
namespace Go.Proofs.YtgfikondoehblaaDoor.Pr
open Go.RowKit Go.Shelf Go.Proofs.YtgfikondoehblaaDoorW.PrintWords Go.Proofs.YtgfikondoehblaaDoorW.PrintLast Go.Proofs.YtgfikondoehblaaDoorW.PrintMore
open SumPlain (numGo signsP numeralP fitsP valuesTo valuesP)
theorem valuesTo_prefix (p : List Int) {a b : Nat} (h : a ≤ b) : valuesTo p a <+: valuesTo p b := by
  induction b with
  | zero => obtain rfl : a = 0 := by omega
            exact List.prefix_refl _
  | succ b ih =>
    rcases Nat.lt_or_eq_of_le h with h | rfl
    · refine (ih (by omega)).trans ?_
      rw [valuesTo]
      split
      · exact List.prefix_append _ _
      · exact List.prefix_refl _
    · exact List.prefix_refl _
theorem valuesTo_hit {p : List Int} {k : Nat} (h : fitsP (numeralP (k + 1)) p = true) : valuesTo p (k + 1) = valuesTo p k ++ [((k + 1 : Nat) : Int)] := by rw [valuesTo, if_pos h]
theorem valuesTo_miss {p : List Int} {k : Nat} (h : fitsP (numeralP (k + 1)) p = false) : valuesTo p (k + 1) = valuesTo p k := by rw [valuesTo, if_neg (by rw [h]; decide)]
theorem valuesTo_lt {p : List Int} {k : Nat} (hk : k < 4999) (h : fitsP (numeralP (k + 1)) p = true) : (valuesTo p k).length < (valuesP p).length := by
  have := (valuesTo_prefix p (show k + 1 ≤ 4999 from hk)).length_le
  rw [valuesTo_hit h, List.length_append, List.length_singleton] at this
  exact this
theorem strOf_ints {l : List Int} (h : ∀ c ∈ l, 0 ≤ c ∧ c < 256) : intsOf (strOf l) = l := by
  unfold intsOf strOf
  simp only [List.map_map]
  conv => rhs; rw [← List.map_id l]
  refine List.map_congr_left fun c hc => ?_
  obtain ⟨h0, h1⟩ := h c hc
  simp only [Function.comp, byteOf, id]
  rw [UInt8.toNat_ofNat', Nat.mod_eq_of_lt (by omega)]
  omega
theorem numGo_mem : ∀ (l : List (Int × Nat)) (n : Nat) (c : Int), c ∈ numGo l n → ∃ p ∈ l, p.1 = c
  | [], _, _, h => by cases h
  | (x, v) :: r, n, c, h => by
    simp only [numGo, List.mem_append, List.mem_replicate] at h
    rcases h with ⟨_, rfl⟩ | h
    · exact ⟨_, List.mem_cons_self, rfl⟩
    · obtain ⟨p, hp, e⟩ := numGo_mem r _ _ h
      exact ⟨p, List.mem_cons_of_mem _ hp, e⟩
theorem numeral_ints (n : Nat) : intsOf (strOf (numeralP n)) = numeralP n := strOf_ints fun c hc => by
  obtain ⟨p, hp, rfl⟩ := numGo_mem _ _ _ hc
  have h : ∀ p ∈ signsP, 0 ≤ p.1 ∧ p.1 < 256 := by decide
  exact h p hp
theorem strOf_size (l : List Int) : (strOf l).size = l.length := by simp [strOf, ByteArray.size]
theorem meas5 {k : Nat} (hk : k < 4999) : 5000 - (intOf (.int .i64 (wrap64 (((k + 1 : Nat) : Int) + 1)))).toNat < 5000 - (intOf (.int .i64 ((k + 1 : Nat) : Int))).toNat := by
  rw [w_up (n := 5000) (by omega) (by omega)]
  simp only [intOf]
  omega
theorem slot5 {k : Nat} (hk : k < 4999) : Value.int .i64 (wrap64 ((k : Int) + 1 + 1)) = .int .i64 ((k + 1 + 1 : Nat) : Int) := congrArg (Value.int .i64) ((congrArg wrap64 (by omega)).trans (w_up (k := k + 1) (n := 5000) (by omega) (by omega)))
def encN (x : Int) : Array Value := #[.int .i64 x]

theorem numbers_calls (p : ByteArray) (w : World) : Calls Tryd.prog 69 #[.string p] w fun e w' => e = .returned (.func (.func 87) #[] #[.pointer (some ⟨w.heap.size, 0, none⟩)]) ∧ w' = w.alloc (.cells #[.string p] 9) := by
  go_enter Tryd.func69, Tryd.ntmps69
  go_wp2
  go_ret
  exact ⟨rfl, rfl⟩

set_option maxRecDepth 100000 in
set_option maxHeartbeats 4000000 in
theorem numbers1_in (n : Nat) (hn : 1 ≤ n) (l Bn n₀ : Nat) (p : ByteArray) (hp : p.size ≤ 9223372036854775807) (w0 : World) (hn₀ : w0.heap.size ≤ n₀) (hS : SignsAt w0)
    (J Jx : List Int → World → Prop) (W : World) (hJ : AbidesFrom W.heap.size J) (hJx : AbidesFrom W.heap.size Jx)
    (hY : ∀ pre x W1, J pre W1 → pre.length < (valuesP (intsOf p)).length → YieldAt Fence.wide (n - 1) Tryd.prog l (encN x) W1 fun e W' =>
      (e = .returned (.bool true) ∧ J (pre ++ [x]) W' ∧ KpB n₀ Bn W1 W') ∨ (e = .returned (.bool false) ∧ Jx (pre ++ [x]) W'))
    (hw : Below w0.heap.size w0 W) (hBn : W.heap[Bn]? = some (.cells #[.string p] 9 (0, 0))) (hn0 : n₀ ≤ W.heap.size) (h0 : J [] W) :
    CallsIn Fence.wide n Tryd.prog 87 #[.func (.yield l) #[] #[], .pointer (some ⟨Bn, 0, none⟩)] W fun e W' => (∃ v, e = .returned v) ∧
      ((∃ ys, ys = valuesP (intsOf p) ∧ J ys W') ∨ (∃ pre, pre <+: valuesP (intsOf p) ∧ Jx pre W')) := by
  refine callsIn_of_wp Tryd.func87 rfl trivial ?_ rfl
  simp only [Tryd.ntmps87, List.size_toArray, List.length_cons, List.length_nil, Nat.reduceAdd, Nat.reduceSub, Array.replicate_succ, Array.replicate_zero, List.push_toArray, List.append_toArray, List.nil_append, List.cons_append]
  have HBn := Aside0.mk hBn
  have HS := Aside0.mk hS
  have HP := Aside0.mk hp
  clear hBn hS hp
  gi_wp2
  gi_loopw [3, 4, 5, 6, 7, 8, 9, 10, 11, 12, 13, 14, 15, 16, 17] (fun i _ _ _ _ _ _ _ _ _ _ _ _ _ _ wr => ∃ k : Nat, k ≤ 4999 ∧ i = .int .i64 ((k + 1 : Nat) : Int) ∧ Aside0 (J (valuesTo (intsOf p) k) wr) ∧ Aside0 (KpB n₀ Bn W wr))
    (fun i _ _ _ _ _ _ _ _ _ _ _ _ _ _ _ => 5000 - (intOf i).toNat)
  case atStart => exact ⟨0, by omega, rfl, ⟨h0⟩, ⟨KpB.refl _ _ _⟩⟩
  case round =>
    obtain ⟨k, hk, rfl, HJ, HK⟩ := hrel
    by_cases hlt : k < 4999
    · have hd : decide (((k + 1 : Nat) : Int) ≤ 4999) = true := by simp; omega
      have hd2 : decide ((k : Int) + 1 ≤ 4999) = true := by simp; omega
      have HLT := Aside0.mk hlt
      clear hlt hk
      gi_wp2_with (fail)
      refine wpIn_region_any (by kernel_rfl) (name_ops ?_)
      intro ops Q hO hQ
      obtain ⟨wd, hwd⟩ : ∃ wd, wd = { wr with drawn := wr.drawn + 1 } := ⟨_, rfl⟩
      rw [← hwd]
      have HD := Aside0.mk (show Below wr.heap.size wr wd by rw [hwd]; exact (Below.refl _ wr).drew)
      have HSd := Aside0.mk (HS.out.new ((hw.trans (HK.out.1.mono hn₀)).trans (HD.out.mono (Nat.le_trans hw.size HK.out.1.size))))
      have hBd : wd.heap[Bn]? = some (.cells #[.string p] 9 (0, 0)) := by
        have h := HK.out.2 _ HBn.out rfl
        exact (HD.out.block _ (blk_lt h)).trans h
      have HBd := Aside0.mk hBd
      clear hwd hBd
      obtain ⟨vs, hvs⟩ : ∃ vs, vs = Value.string (strOf (numeralP (k + 1))) := ⟨_, rfl⟩
      have J3 : ∀ w3, Below wd.heap.size wd w3 → AnyW n Tryd.prog ops Q 7 #[true, true, true, false, false, false, false, false, false, false] { tmps := #[.func (.yield l) #[] #[], .pointer (some ⟨Bn, 0, none⟩), undef, .int .i64 ((k + 1 : Nat) : Int), .int .i64 ((k + 1 : Nat) : Int), .bool true, u6, u7, .int .i64 ((k + 1 : Nat) : Int), vs, .string p, u11, u12, u13, u14, u15, u16, u17], defers := [] } w3 := by
        intro w3 h3
        refine oneW 3 (by rw [hO]; kernel_rfl) (opW (by rw [hO]; exact rfl) (by rw [hO]; rfl) #[true, true, true, true, false, false, false, false, false, false] rfl ?_)
        refine callW (f := 88) (args := #[vs, .string p]) (fun c h => by cases h) (by rw [hvs]; kernel_rfl) ?_
        rw [hvs]
        refine (callsIn_wide.2 (fits_calls (strOf (numeralP (k + 1))) p (by rw [strOf_size]; have := numeral_le (k + 1); have := HLT.out; omega) HP.out w3)).mono ?_
        rintro e w4 ⟨rfl, h4⟩
        refine ⟨_, rfl, ?_⟩
        rw [← hvs, numeral_ints]
        have H4 := below_then h3 h3.size h4
        clear h4
        have H5 : ∀ b, AnyW n Tryd.prog ops Q 6 #[true, true, true, true, false, false, false, false, false, false] { tmps := #[.func (.yield l) #[] #[], .pointer (some ⟨Bn, 0, none⟩), undef, .int .i64 ((k + 1 : Nat) : Int), .int .i64 ((k + 1 : Nat) : Int), .bool true, u6, u7, .int .i64 ((k + 1 : Nat) : Int), vs, .string p, .bool b, u12, u13, u14, u15, u16, u17], defers := [] } w4 → AnyW n Tryd.prog ops Q 6 #[true, true, true, true, false, false, false, false, false, false] { tmps := #[.func (.yield l) #[] #[], .pointer (some ⟨Bn, 0, none⟩), undef, .int .i64 ((k + 1 : Nat) : Int), .int .i64 ((k + 1 : Nat) : Int), .bool true, u6, u7, .int .i64 ((k + 1 : Nat) : Int), vs, .string p, .bool b, u12, u13, u14, u15, u16, u17], defers := [] } w4 := fun _ h => h
        refine H5 _ ?_
        clear H5
        by_cases hf : fitsP (numeralP (k + 1)) (intsOf p) = true
        · have HF := Aside0.mk hf
          rw [hf]
          clear hf
          refine oneW 4 (by rw [hO]; kernel_rfl) (opW (by rw [hO]; exact rfl) (by rw [hO]; rfl) #[true, true, true, true, true, false, false, false, false, false] rfl (valW (fun c h => by cases h) (v := .bool true) (rfl) (N := 12) rfl (a' := { tmps := #[.func (.yield l) #[] #[], .pointer (some ⟨Bn, 0, none⟩), undef, .int .i64 ((k + 1 : Nat) : Int), .int .i64 ((k + 1 : Nat) : Int), .bool true, u6, u7, .int .i64 ((k + 1 : Nat) : Int), vs, .string p, .bool true, .bool true, u13, u14, u15, u16, u17], defers := [] }) (by simp only [Act.put, List.setIfInBounds_toArray, List.set_cons_zero, List.set_cons_succ]) ?_))
          have J7 : AnyW n Tryd.prog ops Q 3 #[true, true, true, true, true, true, true, false, false, false] { tmps := #[.func (.yield l) #[] #[], .pointer (some ⟨Bn, 0, none⟩), undef, .int .i64 ((k + 1 : Nat) : Int), .int .i64 ((k + 1 : Nat) : Int), .bool true, u6, u7, .int .i64 ((k + 1 : Nat) : Int), vs, .string p, .bool true, .bool true, .func (.yield l) #[] #[], .int .i64 ((k + 1 : Nat) : Int), u15, u16, u17], defers := [] } w4 := by
            have HJ4 := hJ _ _ _ none (hJ _ _ _ none HJ.out (grown_of_below HD.out none) (by simp)) (grown_of_below H4 none) (by simp)
            obtain ⟨fn, tmps, assign, body, hy, hR⟩ := hY _ ((k + 1 : Nat) : Int) w4 HJ4 (valuesTo_lt HLT.out HF.out)
            refine oneW 7 (by rw [hO]; kernel_rfl) (opW (by rw [hO]; exact rfl) (by rw [hO]; rfl) #[true, true, true, true, true, true, true, true, false, false] rfl ?_)
            dsimp only [encN] at hy
            refine roundW (L := l) (fn := fn) (tmps := tmps) (cs := assign) (bd := body) (fun c h => by cases h) (by simpa [go_sem] using hy) ?_
            refine RoundIn.mono hR ?_
            have H8 : ∀ b w5, AnyW n Tryd.prog ops Q 2 #[true, true, true, true, true, true, true, true, false, false] { tmps := #[.func (.yield l) #[] #[], .pointer (some ⟨Bn, 0, none⟩), undef, .int .i64 ((k + 1 : Nat) : Int), .int .i64 ((k + 1 : Nat) : Int), .bool true, u6, u7, .int .i64 ((k + 1 : Nat) : Int), vs, .string p, .bool true, .bool true, .func (.yield l) #[] #[], .int .i64 ((k + 1 : Nat) : Int), .bool b, u16, u17], defers := [] } w5 → AnyW n Tryd.prog ops Q 2 #[true, true, true, true, true, true, true, true, false, false] { tmps := #[.func (.yield l) #[] #[], .pointer (some ⟨Bn, 0, none⟩), undef, .int .i64 ((k + 1 : Nat) : Int), .int .i64 ((k + 1 : Nat) : Int), .bool true, u6, u7, .int .i64 ((k + 1 : Nat) : Int), vs, .string p, .bool true, .bool true, .func (.yield l) #[] #[], .int .i64 ((k + 1 : Nat) : Int), .bool b, u16, u17], defers := [] } w5 := fun _ _ h => h
            rintro e w5 (⟨rfl, hJ5, hk5⟩ | ⟨rfl, hJ5⟩)
            · refine ⟨_, rfl, ?_⟩
              refine H8 _ _ ?_
              refine oneW 8 (by rw [hO]; kernel_rfl) (opW (by rw [hO]; exact rfl) (by rw [hO]; rfl) #[true, true, true, true, true, true, true, true, true, false] rfl (valW (fun c h => by cases h) (v := .bool false) (rfl) (N := 16) rfl (a' := { tmps := #[.func (.yield l) #[] #[], .pointer (some ⟨Bn, 0, none⟩), undef, .int .i64 ((k + 1 : Nat) : Int), .int .i64 ((k + 1 : Nat) : Int), .bool true, u6, u7, .int .i64 ((k + 1 : Nat) : Int), vs, .string p, .bool true, .bool true, .func (.yield l) #[] #[], .int .i64 ((k + 1 : Nat) : Int), .bool true, .bool false, u17], defers := [] }) (by simp only [Act.put, List.setIfInBounds_toArray, List.set_cons_zero, List.set_cons_succ]) ?_))
              refine oneW 9 (by rw [hO]; kernel_rfl) (opW (by rw [hO]; exact rfl) (by rw [hO]; rfl) #[true, true, true, true, true, true, true, true, true, true] rfl (valW (fun c h => by cases h) (v := .bool false) (rfl) (N := 17) rfl (a' := { tmps := #[.func (.yield l) #[] #[], .pointer (some ⟨Bn, 0, none⟩), undef, .int .i64 ((k + 1 : Nat) : Int), .int .i64 ((k + 1 : Nat) : Int), .bool true, u6, u7, .int .i64 ((k + 1 : Nat) : Int), vs, .string p, .bool true, .bool true, .func (.yield l) #[] #[], .int .i64 ((k + 1 : Nat) : Int), .bool true, .bool false, .bool false], defers := [] }) (by simp only [Act.put, List.setIfInBounds_toArray, List.set_cons_zero, List.set_cons_succ]) ?_))
              refine endW (by rw [hO]; kernel_rfl) ?_
              have HJ5 := Aside0.mk hJ5
              have HK5 := Aside0.mk (((HK.out.trans (KpB.of_new HD.out (Nat.le_trans hn0 HK.out.1.size))).trans (KpB.of_new H4 (Nat.le_trans (Nat.le_trans hn0 HK.out.1.size) HD.out.size))).trans hk5)
              rw [hQ]
              clear hJ5 hk5 hO hQ hy hR HJ4 H4
              gi_wp2
              go_roundw
              case rel => exact ⟨k + 1, HLT.out, slot5 HLT.out, ⟨by rw [valuesTo_hit HF.out]; exact HJ5.out⟩, HK5⟩
              case measure => exact meas5 HLT.out
            · refine ⟨_, rfl, ?_⟩
              refine H8 _ _ ?_
              refine oneW 8 (by rw [hO]; kernel_rfl) (opW (by rw [hO]; exact rfl) (by rw [hO]; rfl) #[true, true, true, true, true, true, true, true, true, false] rfl (valW (fun c h => by cases h) (v := .bool true) (rfl) (N := 16) rfl (a' := { tmps := #[.func (.yield l) #[] #[], .pointer (some ⟨Bn, 0, none⟩), undef, .int .i64 ((k + 1 : Nat) : Int), .int .i64 ((k + 1 : Nat) : Int), .bool true, u6, u7, .int .i64 ((k + 1 : Nat) : Int), vs, .string p, .bool true, .bool true, .func (.yield l) #[] #[], .int .i64 ((k + 1 : Nat) : Int), .bool false, .bool true, u17], defers := [] }) (by simp only [Act.put, List.setIfInBounds_toArray, List.set_cons_zero, List.set_cons_succ]) ?_))
              refine oneW 9 (by rw [hO]; kernel_rfl) (opW (by rw [hO]; exact rfl) (by rw [hO]; rfl) #[true, true, true, true, true, true, true, true, true, true] rfl (valW (fun c h => by cases h) (v := .bool true) (rfl) (N := 17) rfl (a' := { tmps := #[.func (.yield l) #[] #[], .pointer (some ⟨Bn, 0, none⟩), undef, .int .i64 ((k + 1 : Nat) : Int), .int .i64 ((k + 1 : Nat) : Int), .bool true, u6, u7, .int .i64 ((k + 1 : Nat) : Int), vs, .string p, .bool true, .bool true, .func (.yield l) #[] #[], .int .i64 ((k + 1 : Nat) : Int), .bool false, .bool true, .bool true], defers := [] }) (by simp only [Act.put, List.setIfInBounds_toArray, List.set_cons_zero, List.set_cons_succ]) ?_))
              refine endW (by rw [hO]; kernel_rfl) ?_
              have HJ5 := Aside0.mk hJ5
              rw [hQ]
              clear hJ5 hO hQ hy hR HJ4 H4
              gi_wp2
              refine bodyPost_ret (results_none rfl _ _ _) rfl ?_
              exact ⟨⟨_, rfl⟩, .inr ⟨_, by rw [← valuesTo_hit HF.out]; exact valuesTo_prefix _ HLT.out, HJ5.out⟩⟩
          refine twoW 5 6 (by rw [hO]; kernel_rfl) (opW (by rw [hO]; exact rfl) (by rw [hO]; rfl) #[true, true, true, true, true, true, false, false, false, false] rfl (valW (fun c h => by cases h) (v := .func (.yield l) #[] #[]) (rfl) (N := 13) rfl (a' := { tmps := #[.func (.yield l) #[] #[], .pointer (some ⟨Bn, 0, none⟩), undef, .int .i64 ((k + 1 : Nat) : Int), .int .i64 ((k + 1 : Nat) : Int), .bool true, u6, u7, .int .i64 ((k + 1 : Nat) : Int), vs, .string p, .bool true, .bool true, .func (.yield l) #[] #[], u14, u15, u16, u17], defers := [] }) (by simp only [Act.put, List.setIfInBounds_toArray, List.set_cons_zero, List.set_cons_succ]) ?_)) (opW (by rw [hO]; exact rfl) (by rw [hO]; rfl) #[true, true, true, true, true, false, true, false, false, false] rfl (valW (fun c h => by cases h) (v := .int .i64 ((k + 1 : Nat) : Int)) (rfl) (N := 14) rfl (a' := { tmps := #[.func (.yield l) #[] #[], .pointer (some ⟨Bn, 0, none⟩), undef, .int .i64 ((k + 1 : Nat) : Int), .int .i64 ((k + 1 : Nat) : Int), .bool true, u6, u7, .int .i64 ((k + 1 : Nat) : Int), vs, .string p, .bool true, .bool true, u13, .int .i64 ((k + 1 : Nat) : Int), u15, u16, u17], defers := [] }) (by simp only [Act.put, List.setIfInBounds_toArray, List.set_cons_zero, List.set_cons_succ]) ?_))
          · refine oneW 6 (by rw [hO]; kernel_rfl) (opW (by rw [hO]; exact rfl) (by rw [hO]; rfl) #[true, true, true, true, true, true, true, false, false, false] rfl (valW (fun c h => by cases h) (v := .int .i64 ((k + 1 : Nat) : Int)) (rfl) (N := 14) rfl (a' := { tmps := #[.func (.yield l) #[] #[], .pointer (some ⟨Bn, 0, none⟩), undef, .int .i64 ((k + 1 : Nat) : Int), .int .i64 ((k + 1 : Nat) : Int), .bool true, u6, u7, .int .i64 ((k + 1 : Nat) : Int), vs, .string p, .bool true, .bool true, .func (.yield l) #[] #[], .int .i64 ((k + 1 : Nat) : Int), u15, u16, u17], defers := [] }) (by simp only [Act.put, List.setIfInBounds_toArray, List.set_cons_zero, List.set_cons_succ]) ?_))
            exact J7
          · refine oneW 5 (by rw [hO]; kernel_rfl) (opW (by rw [hO]; exact rfl) (by rw [hO]; rfl) #[true, true, true, true, true, true, true, false, false, false] rfl (valW (fun c h => by cases h) (v := .func (.yield l) #[] #[]) (rfl) (N := 13) rfl (a' := { tmps := #[.func (.yield l) #[] #[], .pointer (some ⟨Bn, 0, none⟩), undef, .int .i64 ((k + 1 : Nat) : Int), .int .i64 ((k + 1 : Nat) : Int), .bool true, u6, u7, .int .i64 ((k + 1 : Nat) : Int), vs, .string p, .bool true, .bool true, .func (.yield l) #[] #[], .int .i64 ((k + 1 : Nat) : Int), u15, u16, u17], defers := [] }) (by simp only [Act.put, List.setIfInBounds_toArray, List.set_cons_zero, List.set_cons_succ]) ?_))
            exact J7
        · have hf := Bool.eq_false_iff.2 hf
          have HF := Aside0.mk hf
          rw [hf]
          clear hf
          refine oneW 4 (by rw [hO]; kernel_rfl) (opW (by rw [hO]; exact rfl) (by rw [hO]; rfl) #[true, true, true, true, true, false, false, false, false, false] rfl (valW (fun c h => by cases h) (v := .bool false) (rfl) (N := 12) rfl (a' := { tmps := #[.func (.yield l) #[] #[], .pointer (some ⟨Bn, 0, none⟩), undef, .int .i64 ((k + 1 : Nat) : Int), .int .i64 ((k + 1 : Nat) : Int), .bool true, u6, u7, .int .i64 ((k + 1 : Nat) : Int), vs, .string p, .bool false, .bool false, u13, u14, u15, u16, u17], defers := [] }) (by simp only [Act.put, List.setIfInBounds_toArray, List.set_cons_zero, List.set_cons_succ]) ?_))
          have E7 : AnyW n Tryd.prog ops Q 3 #[true, true, true, true, true, true, true, false, false, false] { tmps := #[.func (.yield l) #[] #[], .pointer (some ⟨Bn, 0, none⟩), undef, .int .i64 ((k + 1 : Nat) : Int), .int .i64 ((k + 1 : Nat) : Int), .bool true, u6, u7, .int .i64 ((k + 1 : Nat) : Int), vs, .string p, .bool false, .bool false, undef, undef, u15, u16, u17], defers := [] } w4 := by
            refine oneW 7 (by rw [hO]; kernel_rfl) (opN (by rw [hO]; exact rfl) (by rw [hO]; rfl) #[true, true, true, true, true, true, true, true, false, false] rfl (N := 15) rfl (a' := { tmps := #[.func (.yield l) #[] #[], .pointer (some ⟨Bn, 0, none⟩), undef, .int .i64 ((k + 1 : Nat) : Int), .int .i64 ((k + 1 : Nat) : Int), .bool true, u6, u7, .int .i64 ((k + 1 : Nat) : Int), vs, .string p, .bool false, .bool false, undef, undef, undef, u16, u17], defers := [] }) (by simp only [Act.put, List.setIfInBounds_toArray, List.set_cons_zero, List.set_cons_succ]) ?_)
            refine oneW 8 (by rw [hO]; kernel_rfl) (opN (by rw [hO]; exact rfl) (by rw [hO]; rfl) #[true, true, true, true, true, true, true, true, true, false] rfl (N := 16) rfl (a' := { tmps := #[.func (.yield l) #[] #[], .pointer (some ⟨Bn, 0, none⟩), undef, .int .i64 ((k + 1 : Nat) : Int), .int .i64 ((k + 1 : Nat) : Int), .bool true, u6, u7, .int .i64 ((k + 1 : Nat) : Int), vs, .string p, .bool false, .bool false, undef, undef, undef, undef, u17], defers := [] }) (by simp only [Act.put, List.setIfInBounds_toArray, List.set_cons_zero, List.set_cons_succ]) ?_)
            refine oneW 9 (by rw [hO]; kernel_rfl) (opW (by rw [hO]; exact rfl) (by rw [hO]; rfl) #[true, true, true, true, true, true, true, true, true, true] rfl (valW (fun c h => by cases h) (v := .bool false) (rfl) (N := 17) rfl (a' := { tmps := #[.func (.yield l) #[] #[], .pointer (some ⟨Bn, 0, none⟩), undef, .int .i64 ((k + 1 : Nat) : Int), .int .i64 ((k + 1 : Nat) : Int), .bool true, u6, u7, .int .i64 ((k + 1 : Nat) : Int), vs, .string p, .bool false, .bool false, undef, undef, undef, undef, .bool false], defers := [] }) (by simp only [Act.put, List.setIfInBounds_toArray, List.set_cons_zero, List.set_cons_succ]) ?_))
            refine endW (by rw [hO]; kernel_rfl) ?_
            have HJ5 := Aside0.mk (hJ _ _ _ none (hJ _ _ _ none HJ.out (grown_of_below HD.out none) (by simp)) (grown_of_below H4 none) (by simp))
            have HK5 := Aside0.mk ((HK.out.trans (KpB.of_new HD.out (Nat.le_trans hn0 HK.out.1.size))).trans (KpB.of_new H4 (Nat.le_trans (Nat.le_trans hn0 HK.out.1.size) HD.out.size)))
            rw [hQ]
            clear hO hQ H4
            gi_wp2
            go_roundw
            case rel => exact ⟨k + 1, HLT.out, slot5 HLT.out, ⟨by rw [valuesTo_miss HF.out]; exact HJ5.out⟩, HK5⟩
            case measure => exact meas5 HLT.out
          refine twoW 5 6 (by rw [hO]; kernel_rfl) (opN (by rw [hO]; exact rfl) (by rw [hO]; rfl) #[true, true, true, true, true, true, false, false, false, false] rfl (N := 13) rfl (a' := { tmps := #[.func (.yield l) #[] #[], .pointer (some ⟨Bn, 0, none⟩), undef, .int .i64 ((k + 1 : Nat) : Int), .int .i64 ((k + 1 : Nat) : Int), .bool true, u6, u7, .int .i64 ((k + 1 : Nat) : Int), vs, .string p, .bool false, .bool false, undef, u14, u15, u16, u17], defers := [] }) (by simp only [Act.put, List.setIfInBounds_toArray, List.set_cons_zero, List.set_cons_succ]) ?_) (opN (by rw [hO]; exact rfl) (by rw [hO]; rfl) #[true, true, true, true, true, false, true, false, false, false] rfl (N := 14) rfl (a' := { tmps := #[.func (.yield l) #[] #[], .pointer (some ⟨Bn, 0, none⟩), undef, .int .i64 ((k + 1 : Nat) : Int), .int .i64 ((k + 1 : Nat) : Int), .bool true, u6, u7, .int .i64 ((k + 1 : Nat) : Int), vs, .string p, .bool false, .bool false, u13, undef, u15, u16, u17], defers := [] }) (by simp only [Act.put, List.setIfInBounds_toArray, List.set_cons_zero, List.set_cons_succ]) ?_)
          · refine oneW 6 (by rw [hO]; kernel_rfl) (opN (by rw [hO]; exact rfl) (by rw [hO]; rfl) #[true, true, true, true, true, true, true, false, false, false] rfl (N := 14) rfl (a' := { tmps := #[.func (.yield l) #[] #[], .pointer (some ⟨Bn, 0, none⟩), undef, .int .i64 ((k + 1 : Nat) : Int), .int .i64 ((k + 1 : Nat) : Int), .bool true, u6, u7, .int .i64 ((k + 1 : Nat) : Int), vs, .string p, .bool false, .bool false, undef, undef, u15, u16, u17], defers := [] }) (by simp only [Act.put, List.setIfInBounds_toArray, List.set_cons_zero, List.set_cons_succ]) ?_)
            exact E7
          · refine oneW 5 (by rw [hO]; kernel_rfl) (opN (by rw [hO]; exact rfl) (by rw [hO]; rfl) #[true, true, true, true, true, true, true, false, false, false] rfl (N := 13) rfl (a' := { tmps := #[.func (.yield l) #[] #[], .pointer (some ⟨Bn, 0, none⟩), undef, .int .i64 ((k + 1 : Nat) : Int), .int .i64 ((k + 1 : Nat) : Int), .bool true, u6, u7, .int .i64 ((k + 1 : Nat) : Int), vs, .string p, .bool false, .bool false, undef, undef, u15, u16, u17], defers := [] }) (by simp only [Act.put, List.setIfInBounds_toArray, List.set_cons_zero, List.set_cons_succ]) ?_)
            exact E7
      have S1 : ∀ w1, Below wd.heap.size wd w1 → ∀ (f' : Nat) (l' : Array Bool) (x10 : Value), (∀ w2, Below wd.heap.size wd w2 → AnyW n Tryd.prog ops Q f' l' { tmps := #[.func (.yield l) #[] #[], .pointer (some ⟨Bn, 0, none⟩), undef, .int .i64 ((k + 1 : Nat) : Int), .int .i64 ((k + 1 : Nat) : Int), .bool true, u6, u7, .int .i64 ((k + 1 : Nat) : Int), vs, x10, u11, u12, u13, u14, u15, u16, u17], defers := [] } w2) →
          CallsIn Fence.wide (n - 1) Tryd.prog 51 #[.int .i64 ((k + 1 : Nat) : Int)] w1 fun e w' => ∃ v, e = .returned v ∧ AnyW n Tryd.prog ops Q f' l' { tmps := #[.func (.yield l) #[] #[], .pointer (some ⟨Bn, 0, none⟩), undef, .int .i64 ((k + 1 : Nat) : Int), .int .i64 ((k + 1 : Nat) : Int), .bool true, u6, u7, .int .i64 ((k + 1 : Nat) : Int), v, x10, u11, u12, u13, u14, u15, u16, u17], defers := [] } w' := by
        intro w1 h1 f' l' x10 hk
        refine (callsIn_wide.2 (numeral_calls (k + 1) (by have := HLT.out; omega) w1 (HSd.out.new h1))).mono ?_
        rintro e w' ⟨rfl, hb⟩
        exact ⟨_, rfl, by rw [← hvs]; exact hk w' (below_then h1 h1.size hb)⟩
      refine twoW 0 2 (by rw [hO]; kernel_rfl) (opW (by rw [hO]; exact rfl) (by rw [hO]; rfl) #[true, false, false, false, false, false, false, false, false, false] rfl (valW (fun c h => by cases h) (v := .int .i64 ((k + 1 : Nat) : Int)) (rfl) (N := 8) rfl (a' := { tmps := #[.func (.yield l) #[] #[], .pointer (some ⟨Bn, 0, none⟩), undef, .int .i64 ((k + 1 : Nat) : Int), .int .i64 ((k + 1 : Nat) : Int), .bool true, u6, u7, .int .i64 ((k + 1 : Nat) : Int), u9, u10, u11, u12, u13, u14, u15, u16, u17], defers := [] }) (by simp only [Act.put, List.setIfInBounds_toArray, List.set_cons_zero, List.set_cons_succ]) ?_)) (opW (by rw [hO]; exact rfl) (by rw [hO]; rfl) #[false, false, true, false, false, false, false, false, false, false] rfl (valW (fun c h => by cases h) (v := .string p) (by have hz : wd.cell? ⟨Bn, 0, none⟩ = some (.string p) := (blk_cell (((Below.refl wd.heap.size wd).block _ (blk_lt HBd.out)).trans HBd.out) 0).trans rfl; simp [go_sem, hz]) (N := 10) rfl (a' := { tmps := #[.func (.yield l) #[] #[], .pointer (some ⟨Bn, 0, none⟩), undef, .int .i64 ((k + 1 : Nat) : Int), .int .i64 ((k + 1 : Nat) : Int), .bool true, u6, u7, u8, u9, .string p, u11, u12, u13, u14, u15, u16, u17], defers := [] }) (by simp only [Act.put, List.setIfInBounds_toArray, List.set_cons_zero, List.set_cons_succ]) ?_))
      · refine twoW 1 2 (by rw [hO]; kernel_rfl) (opW (by rw [hO]; exact rfl) (by rw [hO]; rfl) #[true, true, false, false, false, false, false, false, false, false] rfl ?_) (opW (by rw [hO]; exact rfl) (by rw [hO]; rfl) #[true, false, true, false, false, false, false, false, false, false] rfl (valW (fun c h => by cases h) (v := .string p) (by have hz : wd.cell? ⟨Bn, 0, none⟩ = some (.string p) := (blk_cell (((Below.refl wd.heap.size wd).block _ (blk_lt HBd.out)).trans HBd.out) 0).trans rfl; simp [go_sem, hz]) (N := 10) rfl (a' := { tmps := #[.func (.yield l) #[] #[], .pointer (some ⟨Bn, 0, none⟩), undef, .int .i64 ((k + 1 : Nat) : Int), .int .i64 ((k + 1 : Nat) : Int), .bool true, u6, u7, .int .i64 ((k + 1 : Nat) : Int), u9, .string p, u11, u12, u13, u14, u15, u16, u17], defers := [] }) (by simp only [Act.put, List.setIfInBounds_toArray, List.set_cons_zero, List.set_cons_succ]) ?_))
        · refine callW (f := 51) (args := #[.int .i64 ((k + 1 : Nat) : Int)]) (fun c h => by cases h) (by kernel_rfl) ?_
          refine S1 wd (Below.refl _ _) 8 #[true, true, false, false, false, false, false, false, false, false] u10 ?_
          intro w2 h2
          refine oneW 2 (by rw [hO]; kernel_rfl) (opW (by rw [hO]; exact rfl) (by rw [hO]; rfl) #[true, true, true, false, false, false, false, false, false, false] rfl (valW (fun c h => by cases h) (v := .string p) (by have hz : w2.cell? ⟨Bn, 0, none⟩ = some (.string p) := (blk_cell (((h2).block _ (blk_lt HBd.out)).trans HBd.out) 0).trans rfl; simp [go_sem, hz]) (N := 10) rfl (a' := { tmps := #[.func (.yield l) #[] #[], .pointer (some ⟨Bn, 0, none⟩), undef, .int .i64 ((k + 1 : Nat) : Int), .int .i64 ((k + 1 : Nat) : Int), .bool true, u6, u7, .int .i64 ((k + 1 : Nat) : Int), vs, .string p, u11, u12, u13, u14, u15, u16, u17], defers := [] }) (by simp only [Act.put, List.setIfInBounds_toArray, List.set_cons_zero, List.set_cons_succ]) ?_))
          exact J3 w2 h2
        · refine oneW 1 (by rw [hO]; kernel_rfl) (opW (by rw [hO]; exact rfl) (by rw [hO]; rfl) #[true, true, true, false, false, false, false, false, false, false] rfl ?_)
          refine callW (f := 51) (args := #[.int .i64 ((k + 1 : Nat) : Int)]) (fun c h => by cases h) (by kernel_rfl) ?_
          exact S1 wd (Below.refl _ _) 7 #[true, true, true, false, false, false, false, false, false, false] (.string p) J3
      · refine oneW 0 (by rw [hO]; kernel_rfl) (opW (by rw [hO]; exact rfl) (by rw [hO]; rfl) #[true, false, true, false, false, false, false, false, false, false] rfl (valW (fun c h => by cases h) (v := .int .i64 ((k + 1 : Nat) : Int)) (rfl) (N := 8) rfl (a' := { tmps := #[.func (.yield l) #[] #[], .pointer (some ⟨Bn, 0, none⟩), undef, .int .i64 ((k + 1 : Nat) : Int), .int .i64 ((k + 1 : Nat) : Int), .bool true, u6, u7, .int .i64 ((k + 1 : Nat) : Int), u9, .string p, u11, u12, u13, u14, u15, u16, u17], defers := [] }) (by simp only [Act.put, List.setIfInBounds_toArray, List.set_cons_zero, List.set_cons_succ]) ?_))
        refine oneW 1 (by rw [hO]; kernel_rfl) (opW (by rw [hO]; exact rfl) (by rw [hO]; rfl) #[true, true, true, false, false, false, false, false, false, false] rfl ?_)
        refine callW (f := 51) (args := #[.int .i64 ((k + 1 : Nat) : Int)]) (fun c h => by cases h) (by kernel_rfl) ?_
        exact S1 wd (Below.refl _ _) 7 #[true, true, true, false, false, false, false, false, false, false] (.string p) J3
    · obtain rfl : k = 4999 := by omega
      have hd : decide (((4999 + 1 : Nat) : Int) ≤ 4999) = false := by simp
      gi_wp2
      go_end0
      exact ⟨⟨_, rfl⟩, .inl ⟨_, rfl, HJ.out⟩⟩
theorem numbers_stops (n : Nat) (hn : 1 ≤ n) (Bn n₀ : Nat) (p : ByteArray) (hp : p.size ≤ 9223372036854775807) (w0 w : World) (hn₀ : w0.heap.size ≤ n₀) (hS : SignsAt w0) (hw : Below w0.heap.size w0 w) (hn0 : n₀ ≤ w.heap.size)
    (hBn : w.heap[Bn]? = some (.cells #[.string p] 9 (0, 0))) :
    SeqStopsK Fence.wide n Tryd.prog 87 #[.pointer (some ⟨Bn, 0, none⟩)] encN (KpB n₀ Bn) (fun ys => ys = valuesP (intsOf p)) (fun pre => pre <+: valuesP (intsOf p)) (valuesP (intsOf p)).length w := fun l J Jx W hW hJ hJx hY h0 =>
  numbers1_in n hn l Bn n₀ p hp w0 hn₀ hS J Jx W hJ hJx hY (below_then hw hw.size hW) ((hW.block _ (blk_lt hBn)).trans hBn) (Nat.le_trans hn0 hW.size) h0
theorem values_len (p : List Int) : ∀ n, (valuesTo p n).length ≤ n
  | 0 => Nat.le_refl _
  | n + 1 => by
    have := values_len p n
    rw [valuesTo]
    split
    · rw [List.length_append, List.length_singleton]
      omega
    · omega
theorem values_range (p : List Int) {x : Int} (h : x ∈ valuesP p) : 1 ≤ x ∧ x ≤ 4999 := by
  obtain ⟨k, h1, h2, rfl, _⟩ := (SumPlain.mem_valuesTo _ _ _).1 h
  omega
end Go.Proofs.YtgfikondoehblaaDoor.Pr
end
section
namespace Go.Proofs.YtgfikondoehblaaDoor.Pr
open Go.RowKit Go.Shelf Go.Proofs.YtgfikondoehblaaDoorW.PrintWords Go.Proofs.YtgfikondoehblaaDoorW.PrintLast Go.Proofs.YtgfikondoehblaaDoorW.PrintMore
open SumPlain (numGo signsP numeralP fitsP valuesTo valuesP)
attribute [local go_sem] Oper.semAt_some
theorem keepsOthers_below {W W' : World} (h : Below W.heap.size W W') : KeepsOthers W W' := ⟨h.size, fun k o hk _ => (h.block k (blk_lt hk)).trans hk⟩
theorem blk_not_row {W : World} {g : Nat} {cs : Array Value} {t : TypeId} {base e size n : Nat} {v : Value} {xs : List Value} (h : W.heap[g]? = some (.cells cs t (0, 0))) (hr : W.ownsRow base e size v n xs) (hte : t ≠ e) : some g ≠ v.ownBlock := by
  intro hk
  obtain ⟨cells, hc⟩ := own_typed hr g hk.symm
  rw [h] at hc
  injection hc with hc
  injection hc with _ hc
  exact hte hc
theorem infoInt : (Tryd.prog.info? 3).map (fun i => (i.zero, i.size, i.bytes)) = some (some (.int .i64 0), 1, 8) := by kernel_rfl
set_option maxRecDepth 100000 in
set_option maxHeartbeats 4000000 in
theorem appendSeq_calls (p : ByteArray) (hp : p.size ≤ 9223372036854775807) (Bn : Nat) (w : World) (hS : SignsAt w) (hBn : w.heap[Bn]? = some (.cells #[.string p] 9 (0, 0))) :
    Calls Tryd.prog 94 #[.slice none 0 0, .func (.func 87) #[] #[.pointer (some ⟨Bn, 0, none⟩)]] w fun e w' => ∃ v, e = .returned v ∧ w'.ownsRow w.heap.size 3 1 v (valuesP (intsOf p)).length (nums .i64 (valuesP (intsOf p))) ∧ Below w.heap.size w w' := by
  have HS := Aside0.mk hS
  have HBn := Aside0.mk hBn
  clear hS hBn
  refine callsIn_wide (n := 10).1 ?_
  refine callsIn_of_wp_marks Tryd.func94 rfl trivial ?_ rfl
  simp only [Tryd.ntmps94, List.size_toArray, List.length_cons, List.length_nil, Nat.reduceAdd, Nat.reduceSub, Array.replicate_succ, Array.replicate_zero, List.push_toArray, List.append_toArray, List.nil_append, List.cons_append]
  gi_wp2_with (fail)
  obtain ⟨bo, hbo⟩ : ∃ bo, bo = w.heap.size := ⟨_, rfl⟩
  have bO := Boxed.new w 22 (.slice none 0 0)
  have hsz : (w.alloc (.cells #[.slice none 0 0] 22)).heap.size = bo + 1 := by simp [hbo]
  have hB0 : Below w.heap.size w (w.alloc (.cells #[.slice none 0 0] 22)) := below_alloc (Below.refl _ w) _
  have hL0 : (w.alloc (.cells #[.slice none 0 0] 22)).heap[Bn]? = some (.cells #[.string p] 9 (0, 0)) := blk_alloc HBn.out _
  have hlt : Bn < bo := by rw [hbo]; exact blk_lt HBn.out
  have hbw : w.heap.size = bo := hbo.symm
  rw [← hbo] at bO ⊢
  obtain ⟨W0, hW0⟩ : ∃ W0, W0 = (w.alloc (.cells #[.slice none 0 0] 22)) := ⟨_, rfl⟩
  rw [← hW0] at bO hsz hB0 hL0 ⊢
  clear hW0 hbo
  refine wpIn_rangeFunc_ownH rfl (by omega) (gf := 87) (lb := #[.pointer (some ⟨Bn, 0, none⟩)]) rfl trivial (enters_of Tryd.func87 (by kernel_rfl) rfl)
    (numbers_stops 9 (by omega) Bn w.heap.size p hp w W0 (Nat.le_refl _) HS.out hB0 (by omega) hL0) KpB_t (KpB_b (by omega)) (Below.refl _ _) (fun _ => rfl)
    (fun pre W => (∃ v, Boxed W bo 22 v ∧ W.ownsRow w.heap.size 3 1 v pre.length (nums .i64 pre) ∧ True) ∧ Below w.heap.size w W)
    (fun _ _ _ => False)
    (OwnFrom.and (Own.from (holdsRow_own w.heap.size bo 22 3 1 (fun pre => pre.length) (fun pre => nums .i64 pre) (fun _ _ => True)) _) (ownFrom_below (Nat.le_refl _) (by omega)))
    (fun _ _ _ _ _ hs _ _ => hs)
    ⟨⟨_, bO, World.ownsRow_nil _ _ _ _, trivial⟩, hB0⟩
    (fun x a' W => a' = { tmps := #[.slice none 0 0, .func (.func 87) #[] #[.pointer (some ⟨Bn, 0, none⟩)], .pointer (some ⟨bo, 0, none⟩), undef, .slice none 0 0, .int .i64 x, .func (.func 87) #[] #[.pointer (some ⟨Bn, 0, none⟩)], .int .i64 x, undef, undef, undef, undef, undef], defers := [] })
    (fun x a' _ X Y row hs hg hr => hs)
    ?assign ?body ?done ?stop
  case assign =>
    rintro l pre x W K hI hK
    dsimp only [encN]
    have HI := Aside0.mk hI
    have HK := Aside0.mk hK
    clear hI hK
    gi_wp2_with (fail)
    exact HK.out _ _ (KeepsFrom.refl _ _) (KpB.refl _ _ _) HI.out rfl
  case body =>
    rintro l pre x a' W hl ⟨r, hr⟩ ⟨⟨v, hv, hrow, _⟩, hB⟩ rfl hlt2
    obtain ⟨i0, hi, hz0, hz1, hz2⟩ := info_parts infoInt
    have hlen := values_len (intsOf p) 4999
    have HB := Aside0.mk hB
    have HL := Aside0.mk (show Bn < w.heap.size by omega)
    have hcO := hv.cell
    have hfO := hv.frozen
    have hltO : bo < W.heap.size := hv.lt
    have HCN := Aside0.mk (cell_one_new W (.int .i64 x) 3)
    clear hB
    gi_wp2_with (gi_at_builtin; go_loud (refine wpListIn_append_own _ rfl _ _ 22 rfl w.heap.size 3 i0 (.int .i64 0) 1 8 Tryd.underlying22 hi hz0 hz1 hz2 rfl (by decide) _ _ _ rfl (hrow.alloc _) ⟨W.heap.size, 0, none⟩ 1 1 [.int .i64 x] rfl rfl HCN.out (by simp [Value.oneCell']) (by unfold maxLen; unfold valuesP at hlt2; omega) (by unfold valuesP at hlt2; omega) (by have := HB.out.size; simp; omega) ?_); intro v' w3 hown' hgrow _; obtain ⟨g', cap', rfl⟩ := ownsRow_succ hown'; obtain ⟨hv1, hv2', hr2, hk2, hb2⟩ := hv.appended (by decide) hrow HB.out.size (by omega) hown' hgrow; have hc1 := hv1.cell; have hf1 := hv1.frozen)
    refine ⟨hk2.from _, ⟨hb2, fun o ho hc => ?_⟩, ⟨⟨_, hv2', ?_, trivial⟩, HB.out.trans hb2⟩⟩
    · exact (hb2.block _ HL.out).trans ho
    · simpa [nums] using hr2
  case done =>
    rintro D ys W hD rfl ⟨⟨v, hv, hrow, _⟩, hB⟩ hK
    have hc := hv.cell
    have HR := Aside0.mk hrow
    have HB := Aside0.mk hB
    have HKD := Aside0.mk hK
    clear hrow hB hK
    gi_wp2_with (fail)
    refine ⟨by simp, .inl ⟨_, _, rfl, run_takeDeferred HKD.out, ?_⟩⟩
    exact ⟨_, results_tmp rfl _ _ _, v, rfl, ownsRow_putObj HR.out _ HKD.out rfl, HB.out.trans (belowK_b (w := w) (Nat.le_refl _) W D _ _ (by omega) HKD.out rfl rfl)⟩
  case stop =>
    rintro D c pre W _ _ h _
    exact h.elim
theorem collect_calls (p : ByteArray) (hp : p.size ≤ 9223372036854775807) (Bn : Nat) (w : World) (hS : SignsAt w) (hBn : w.heap[Bn]? = some (.cells #[.string p] 9 (0, 0))) :
    Calls Tryd.prog 77 #[.func (.func 87) #[] #[.pointer (some ⟨Bn, 0, none⟩)]] w fun e w' => ∃ v, e = .returned v ∧ w'.ownsRow w.heap.size 3 1 v (valuesP (intsOf p)).length (nums .i64 (valuesP (intsOf p))) ∧ Below w.heap.size w w' := by
  go_enter Tryd.func77, Tryd.ntmps77
  go_wp2_with (go_at_call 94; refine (appendSeq_calls p hp Bn w hS hBn).mono ?_)
  rintro e w' ⟨v, rfl, hr, hb⟩
  go_wp2
  go_ret
  exact ⟨v, rfl, hr, hb⟩
end Go.Proofs.YtgfikondoehblaaDoor.Pr
end
