/- Part 16 of 21 of the proof of: SumsLess: for every slice of numbers, the law returns true: without the entries that Struck names an account made of them adds up, and without fewer ones, or as many that come before, it does not; no condition beyond the statement's own. -/
import Derived.Laws.EntriesVeiled
import Derived.Test.YtgfikondoehblaaDoorLE1
import Derived.Test.YtgfikondoehblaaDoorLE9
import Derived.Test.YtgfikondoehblaaDoorLE15
set_option linter.unusedVariables false
set_option linter.unusedSimpArgs false
set_option linter.unusedSectionVars false
section
namespace Go.Proofs.YtgfikondoehblaaDoor.Pr
open Go.RowKit Go.Shelf Go.Proofs.YtgfikondoehblaaDoorW.PrintWords Go.Proofs.YtgfikondoehblaaDoorW.PrintLast Go.Proofs.YtgfikondoehblaaDoorW.PrintMore Go.Proofs.SumKeep
open SumPlain (valuesP nextP May Ent readingsP)
theorem next_all (l : List S38) (A : Option Addr) (c : Nat) (wc : World) (nr m0 kf : Nat) (cap : Array Value) (Bl Bf Bm Bn gm cm : Nat) (vs : Array Value) (R : List (List Int)) (Inv : (Nat → Prop) → List (List Int) → World → Prop) (Stop : List PanicEntry → (Nat → Prop) → List (List Int) → World → Prop)
    (eg : ∀ args w, (callFunc kf args).run Tryd.prog w = .ok (.enter kf args) w) (hr : Kd.C k38 wc A l.length l) (hl8 : 1 ≤ l.length ∧ l.length ≤ 8) (hI : InvOk Inv) (hF : FoundOk wc nr m0 kf cap R Inv Stop) :
    ∀ d i, i + d = l.length → NextOk l A c wc nr m0 kf cap Bl Bf Bm Bn gm cm vs R Inv Stop i
  | 0, i, h => by
    obtain rfl : i = l.length := h
    intro O X w v bg since sum hB h0 hO hv hvO hbg hsi hsu hR
    rw [mayOf_end, nextP] at hR ⊢
    exact next_leaf l A c wc nr m0 kf cap Bl Bf Bm Bn gm cm vs R Inv Stop eg hl8 hI hF O X w v bg since sum hB h0 hO hv hvO hbg hR
  | d + 1, i, h => next_step l A c wc nr m0 kf cap Bl Bf Bm Bn gm cm vs R Inv Stop hr hl8 hI i (by omega) (next_all l A c wc nr m0 kf cap Bl Bf Bm Bn gm cm vs R Inv Stop eg hr hl8 hI hF d (i + 1) (by omega))
theorem makeRows (W : World) (n : Nat) (hn : n ≤ 8) : (Instr.makeSlice 32 (.int .i64 (n : Int)) (.int .i64 (n : Int))).run Tryd.prog W = .ok (.slice (some ⟨W.heap.size, 0, none⟩) n n) (W.alloc (.cells (madeCells #[.slice none 0 0] n) 22)) := by
  obtain ⟨i, h1, h2, h3, h4⟩ := info_parts (P := Tryd.prog) (e := 22) (z := .slice none 0 0) (size := 1) (bytes := 24) (by kernel_rfl)
  have h := run_makeSlice (P := Tryd.prog) W 32 22 i (.slice none 0 0) Tryd.underlying32 h1 h2 .i64 .i64 n n (by omega) (by omega) (by rw [h3]; omega) (by rw [h4]; omega) (by omega)
  rw [h3] at h
  rw [show (Value.slice none 0 0).cells = #[Value.slice none 0 0] from rfl] at h
  simpa using h
def Reads.T5 : Bool × List (List Nat × List Nat) := (true, [([], []), ([], []), ([], []), ([2], [2]), ([3], [3]), ([4, 4], [4]), ([0, 1, 0, 1, 2, 3, 4, 5], [0, 1]), ([6, 5, 5, 0, 1, 2, 3, 4, 5], [5, 6])])
def Reads.B5 : List Nat := [0, 0, 0, 4, 12, 28, 63, 127]
theorem Reads.tab5 : rtab .any (opsOf Tryd.f54 5) = Reads.T5 := by kernel_rfl
theorem Reads.bits5 : waitsOk Reads.T5.2 Reads.B5 = true := by kernel_rfl
structure ReadsMem (l : List S38) (A : Option Addr) (c kf : Nat) (cap : Array Value) (w : World) (j : Nat) (W : World) : Prop where
  below : Below w.heap.size w W
  bl : W.heap[w.heap.size]? = some (.cells #[.slice A l.length c] 25 (0, 0))
  bf : W.heap[w.heap.size + 1]? = some (.cells #[.func (.func kf) #[] cap] 85 (0, 0))
  bm : W.heap[w.heap.size + 1 + 1 + 1]? = some (.cells #[.slice (some ⟨w.heap.size + 1 + 1, 0, none⟩) l.length l.length] 32 (0, 0))
  gr : ∃ vs : Array Value, vs.size = l.length ∧ W.heap[w.heap.size + 1 + 1]? = some (.cells vs 22 (0, 0)) ∧ ∀ i, i < j → ∃ v, vs[i]? = some v ∧ OwnInts W w.heap.size v (valuesP (entAt l i).signs)
theorem ReadsMem.step {l : List S38} {A : Option Addr} {c kf : Nat} {cap : Array Value} {w : World} {j : Nat} {W W' : World} (h : ReadsMem l A c kf cap w j W) (hb : Below W.heap.size W W') : ReadsMem l A c kf cap w j W' := by
  obtain ⟨vs, h1, h2, h3⟩ := h.gr
  refine ⟨below_then h.below h.below.size hb, blk_below h.bl hb, blk_below h.bf hb, blk_below h.bm hb, vs, h1, blk_below h2 hb, fun i hi => ?_⟩
  obtain ⟨v, e1, e2⟩ := h3 i hi
  exact ⟨v, e1, pw_own_below e2 hb⟩
theorem ReadsMem.store {l : List S38} {A : Option Addr} {c kf : Nat} {cap : Array Value} {w : World} {j : Nat} {W : World} (h : ReadsMem l A c kf cap w j W) (hj : j < l.length) {v : Value} (hv : OwnInts W w.heap.size v (valuesP (entAt l j).signs)) :
    ReadsMem l A c kf cap w (j + 1) (W.setCell ⟨w.heap.size + 1 + 1, j, none⟩ v) := by
  obtain ⟨vs, h1, h2, h3⟩ := h.gr
  have hg : ∀ {v : Value} {xs : List Int}, OwnInts W w.heap.size v xs → OwnInts (W.setCell ⟨w.heap.size + 1 + 1, j, none⟩ v) w.heap.size v xs := fun h => own_setCell h (blk_not_row h2 h (by decide)) _
  have hg' : ∀ {u v : Value} {xs : List Int}, OwnInts W w.heap.size u xs → OwnInts (W.setCell ⟨w.heap.size + 1 + 1, j, none⟩ v) w.heap.size u xs := fun h => own_setCell h (blk_not_row h2 h (by decide)) _
  refine ⟨h.below.setCell (p := ⟨w.heap.size + 1 + 1, j, none⟩) (by simp; omega) v, blk_far h.bl (by simp; omega) v, blk_far h.bf (by simp) v, blk_far h.bm (by simp) v, vs.setIfInBounds j v, by simp [h1], blk_set h2 j v, fun i hi => ?_⟩
  rcases Nat.lt_or_eq_of_le (Nat.lt_succ_iff.1 hi) with hi | rfl
  · obtain ⟨u, e1, e2⟩ := h3 i hi
    exact ⟨u, by rw [Array.getElem?_setIfInBounds_ne (by omega)]; exact e1, hg' e2⟩
  · exact ⟨v, by rw [Array.getElem?_setIfInBounds_self_of_lt (by omega)], hg hv⟩
set_option maxRecDepth 100000 in
set_option maxHeartbeats 8000000 in
theorem readings_calls (l : List S38) (A : Option Addr) (c : Nat) (wc : World) (kf : Nat) (cap : Array Value) (Inv : (Nat → Prop) → List (List Int) → World → Prop) (Stop : List PanicEntry → (Nat → Prop) → List (List Int) → World → Prop)
    (eg : ∀ args w, (callFunc kf args).run Tryd.prog w = .ok (.enter kf args) w) (hr : Kd.C k38 wc A l.length l) (hs : ∀ i : Nat, i < l.length → (rd_T38 l (i : Int)).f1.size ≤ 9223372036854775807) (hS : SignsAt wc) (hl8 : 1 ≤ l.length ∧ l.length ≤ 8) (hI : InvOk Inv)
    (w : World) (hw : Below wc.heap.size wc w) (hF : ∀ m0, w.heap.size ≤ m0 → FoundOk wc w.heap.size m0 kf cap (readingsP (l.map toEnt)) Inv Stop) (O : Nat → Prop) (h0 : Inv O [] w) (hO : ∀ k, O k → wc.heap.size ≤ k ∧ k < w.heap.size) :
    Calls Tryd.prog 54 #[.slice A l.length c, .func (.func kf) #[] cap] w fun e w' => ∃ O' : Nat → Prop, (∀ k, O' k → O k ∨ w.heap.size ≤ k) ∧ Turns O w w' ∧
      ((e = .returned (.tuple #[]) ∧ Inv O' (readingsP (l.map toEnt)) w') ∨ (∃ ch pre, e = .panicked ch ∧ pre <+: readingsP (l.map toEnt) ∧ Stop ch O' pre w')) := by
  have HR := Aside0.mk hr
  have HS := Aside0.mk hS
  have HSZ := Aside0.mk hs
  have H8 := Aside0.mk hl8
  have HI := Aside0.mk hI
  have HW := Aside0.mk hw
  have HF := Aside0.mk hF
  have H0 := Aside0.mk h0
  have HO := Aside0.mk hO
  have EG := Aside0.mk eg
  have hmk : ∀ W : World, (Instr.makeSlice 32 (.int .i64 (l.length : Int)) (.int .i64 (l.length : Int))).run Tryd.prog W = _ := fun W => makeRows W l.length hl8.2
  have hmf : ∀ (fn : Fn) (first cap : Array Value) (w : World), (Instr.makeFunc fn first cap).run Tryd.prog w = .ok (.func fn first cap) w := fun _ _ _ _ => rfl
  clear hr hs hS hl8 hI hw hF h0 hO eg
  go_enter Tryd.func54, Tryd.ntmps54
  go_wp2_with (fail)
  obtain ⟨W0, hW0⟩ : ∃ W0, W0 = (((w.alloc (.cells #[.slice A l.length c] 25)).alloc (.cells #[.func (.func kf) #[] cap] 85)).alloc (.cells (madeCells #[.slice none 0 0] l.length) 22)).alloc (.cells #[.slice (some ⟨w.heap.size + 1 + 1, 0, none⟩) l.length l.length] 32) := ⟨_, rfl⟩
  have HM := Aside0.mk (show ReadsMem l A c kf cap w 0 W0 by
    rw [hW0]
    refine ⟨below_alloc (below_alloc (below_alloc (below_alloc (Below.refl _ _) _) _) _) _, blk_alloc (blk_alloc (blk_alloc (heap_alloc_new w _) _) _) _, blk_alloc (blk_alloc ?_ _) _, ?_, madeCells #[.slice none 0 0] l.length, size_madeCells _ _, blk_alloc ?_ _, fun i hi => absurd hi (by omega)⟩
    · have := heap_alloc_new (w.alloc (.cells #[.slice A l.length c] 25)) (.cells #[.func (.func kf) #[] cap] 85)
      rwa [World.size_alloc] at this
    · have := heap_alloc_new (((w.alloc (.cells #[.slice A l.length c] 25)).alloc (.cells #[.func (.func kf) #[] cap] 85)).alloc (.cells (madeCells #[.slice none 0 0] l.length) 22)) (.cells #[.slice (some ⟨w.heap.size + 1 + 1, 0, none⟩) l.length l.length] 32)
      rwa [World.size_alloc, World.size_alloc, World.size_alloc] at this
    · have := heap_alloc_new ((w.alloc (.cells #[.slice A l.length c] 25)).alloc (.cells #[.func (.func kf) #[] cap] 85)) (.cells (madeCells #[.slice none 0 0] l.length) 22)
      rwa [World.size_alloc, World.size_alloc] at this)
  rw [← hW0]
  clear hW0 hmk
  go_loopw [5, 6, 13, 14, 15, 16, 17, 18, 19, 20, 21, 22, 23, 24, 25] (fun _ _ jv _ _ _ _ _ _ _ _ _ _ _ _ wr => ∃ j : Nat, j ≤ l.length ∧ jv = .int .i64 (j : Int) ∧ Aside0 (ReadsMem l A c kf cap w j wr))
    (fun _ _ jv _ _ _ _ _ _ _ _ _ _ _ _ _ => l.length - (intOf jv).toNat)
  case atStart => exact ⟨0, Nat.zero_le _, rfl, HM⟩
  case round =>
    clear HM
    obtain ⟨j, hj, rfl, HM⟩ := hrel
    by_cases hlt : j < l.length
    · have hd : decide ((j : Int) < (l.length : Int)) = true := by simp; omega
      have hdn : decide (j < l.length) = true := by simp; omega
      have hj0 : (0 : Int) ≤ (j : Int) := by omega
      have hj1 : (j : Int) < (l.length : Int) := by omega
      obtain ⟨ad, e, hx0, hx1⟩ := at_T38 HR.out j (by omega) (by omega)
      cases e
      rw [Int.toNat_natCast] at hx0 hx1
      have hwr : Below wc.heap.size wc wr := HW.out.trans (HM.out.below.mono HW.out.size)
      replace hx0 := (hwr.cell (World.block_lt_of_cell? wc _ hx0)).trans hx0
      replace hx1 := (hwr.cell (World.block_lt_of_cell? wc _ hx1)).trans hx1
      obtain ⟨kd, hkd⟩ : ∃ kd, kd = (rd_T38 l (j : Int)).f0 := ⟨_, rfl⟩
      obtain ⟨sg, hsg⟩ : ∃ sg, sg = (rd_T38 l (j : Int)).f1 := ⟨_, rfl⟩
      rw [← hkd] at hx0
      rw [← hsg] at hx1
      have HEnt := Aside0.mk (show (entAt l j).signs = intsOf sg by rw [hsg]; rfl)
      have HSG := Aside0.mk (show sg.size ≤ 9223372036854775807 by rw [hsg]; exact HSZ.out j hlt)
      have HLT := Aside0.mk hlt
      have HSr := Aside0.mk (HS.out.new hwr)
      clear hkd hsg hwr hj
      go_upto_region 5 with (fail)
      clear hx0 hx1 hd hdn
      obtain ⟨W1, hW1⟩ : ∃ W1, W1 = wr.alloc (.cells #[.int .i64 kd, .string sg] 38) := ⟨_, rfl⟩
      obtain ⟨bx, hbx⟩ : ∃ bx, bx = wr.heap.size := ⟨_, rfl⟩
      have hX := heap_alloc_new wr (.cells #[.int .i64 kd, .string sg] 38)
      have hb1 : Below wr.heap.size wr W1 := by rw [hW1]; exact below_alloc (Below.refl _ _) _
      rw [← hW1, ← hbx] at hX
      rw [← hW1, ← hbx]
      have HM1 := Aside0.mk (HM.out.step hb1)
      have HS1 := Aside0.mk (HSr.out.new hb1)
      clear hW1 hbx hb1 HM HSr
      have q0 : W1.drew.cell? ⟨w.heap.size + 1 + 1 + 1, 0, none⟩ = some (.slice (some ⟨w.heap.size + 1 + 1, 0, none⟩) l.length l.length) := (blk_cell HM1.out.bm 0).trans rfl
      have q1 : W1.drew.cell? ⟨bx, 1, none⟩ = some (.string sg) := (blk_cell hX 1).trans rfl
      refine start_ (n := 8) (S := fun w' => w'.cell? ⟨w.heap.size + 1 + 1 + 1, 0, none⟩ = some (.slice (some ⟨w.heap.size + 1 + 1, 0, none⟩) l.length l.length) ∧ w'.cell? ⟨bx, 1, none⟩ = some (.string sg)) (ds := [7]) (ba 8 0) (by kernel_rfl) rfl rfl ⟨q0, q1⟩ (fun hHeld => ?_)
      refine with_tabW Reads.tab5 Reads.bits5 (fun HT_ HW_ => ?_)
      obtain ⟨wd, hwd⟩ : ∃ y_, y_ = W1.drew := ⟨_, rfl⟩
      have hbd : Below W1.heap.size W1 wd := by rw [hwd]; exact (Below.refl _ W1).drew
      rw [← hwd] at hHeld ⊢
      have HX := Aside0.mk (blk_below hX hbd)
      replace HM1 := Aside0.mk (HM1.out.step hbd)
      replace HS1 := Aside0.mk (HS1.out.new hbd)
      clear hwd hbd hX q0 q1
      refine tak_ 0 18 (ba 8 1) HT_.out HW_.out hHeld ?_ (v := .slice (some ⟨w.heap.size + 1 + 1, 0, none⟩) l.length l.length) (hv := by intro w2 h1; try (obtain ⟨h1, h2⟩ := h1); go_simp)
      refine pur_ 1 19 (ba 8 3) HT_.out ?_
      refine pur_ 2 20 (ba 8 7) HT_.out ?_
      refine tak_ 3 21 (ba 8 15) HT_.out HW_.out hHeld ?_ (v := .string sg) (hv := by intro w2 h1; try (obtain ⟨h1, h2⟩ := h1); go_simp)
      refine on_ 4 (some 22) (ba 8 31) HT_.out (fun K hK => ?_)
      refine goes_ Tryd.func69 (by kernel_rfl) rfl #[.string sg] (by rfl) rfl rfl (by (simp only [List.map_toArray, List.map_cons, List.map_nil]); rfl) ?_
      refine (numbers_calls sg wd).mono ?_
      rintro e w2 ⟨rfl, hw2⟩
      refine ⟨_, rfl, ?_⟩
      have hb2 : Below wd.heap.size wd w2 := by rw [hw2]; exact below_alloc (Below.refl _ _) _
      have HP := Aside0.mk (show w2.heap[wd.heap.size]? = some (.cells #[.string sg] 9 (0, 0)) by rw [hw2]; exact heap_alloc_new wd _)
      replace HX := Aside0.mk (blk_below HX.out hb2)
      replace HM1 := Aside0.mk (HM1.out.step hb2)
      replace HS1 := Aside0.mk (HS1.out.new hb2)
      refine hK.out _ _ ⟨(blk_cell HM1.out.bm 0).trans rfl, (blk_cell HX.out 1).trans rfl⟩ (fun hHeld => ?_)
      clear hK K hw2 hb2
      refine nrm_ ?_
      refine on_ 5 (some 23) (ba 8 63) HT_.out (fun K hK => ?_)
      refine goes_ Tryd.func77 (by kernel_rfl) rfl #[.func (.func 87) #[] #[.pointer (some ⟨wd.heap.size, 0, none⟩)]] (by rfl) rfl rfl (by (simp only [List.map_toArray, List.map_cons, List.map_nil]); rfl) ?_
      refine (collect_calls sg HSG.out wd.heap.size w2 HS1.out HP.out).mono ?_
      rintro e w3 ⟨v, rfl, hv, hb3⟩
      refine ⟨_, rfl, ?_⟩
      have HV := Aside0.mk (show OwnInts w3 w.heap.size v (valuesP (entAt l j).signs) by rw [HEnt.out]; exact own_base hv HM1.out.below.size)
      obtain ⟨av, cv, rfl⟩ : ∃ av cv, v = .slice av (valuesP (entAt l j).signs).length cv := by
        rcases own_shape HV.out with ⟨h1, h2⟩ | ⟨g, cap, h1, _⟩
        · exact ⟨none, 0, by rw [h1, h2]; rfl⟩
        · exact ⟨_, _, h1⟩
      replace HX := Aside0.mk (blk_below HX.out hb3)
      replace HM1 := Aside0.mk (HM1.out.step hb3)
      refine hK.out _ _ ⟨(blk_cell HM1.out.bm 0).trans rfl, (blk_cell HX.out 1).trans rfl⟩ (fun hHeld => ?_)
      clear hK K hv hb3
      refine nrm_ ?_
      refine pur_ 6 24 (ba 8 127) HT_.out ?_ (v := .pointer (some ⟨w.heap.size + 1 + 1, j, none⟩)) (hv := by intro w2; go_simp)
      refine las_ 7 none (ba 8 255) HT_.out (fun K hK => ?_)
      obtain ⟨vs, hv1, hv2, hv3⟩ := HM1.out.gr
      have hcl : ∃ u, w3.cell? ⟨w.heap.size + 1 + 1, j, none⟩ = some u := ⟨_, (blk_cell hv2 j).trans (Array.getElem?_eq_getElem (by have := HLT.out; omega))⟩
      obtain ⟨u, hu⟩ := hcl
      have hf := blk_frozen hv2 j
      refine skip_ (w1 := w3.setCell ⟨w.heap.size + 1 + 1, j, none⟩ (.slice av (valuesP (entAt l j).signs).length cv)) (by rfl) rfl ?_ ?_
      · first | (go_simp; done) | (go_simp; rfl)
      refine hK.out _ _ ?_
      clear hK K
      refine don_ HT_.out ?_
      have HM2 := Aside0.mk (HM1.out.store HLT.out HV.out)
      obtain ⟨w4, hw4⟩ : ∃ y_, y_ = w3.setCell ⟨w.heap.size + 1 + 1, j, none⟩ (.slice av (valuesP (entAt l j).signs).length cv) := ⟨_, rfl⟩
      rw [← hw4] at HM2 ⊢
      clear hw4 hu hf hv1 hv2 hv3 hHeld
      go_wp2
      go_roundw
      case rel => exact ⟨j + 1, HLT.out, by rw [w_up HLT.out (by have := H8.out; omega)], HM2⟩
      case measure => exact meas_up HLT.out (by have := H8.out; omega)
    · obtain rfl : j = l.length := by omega
      have hd : decide ((l.length : Int) < (l.length : Int)) = false := by simp
      have hdn : decide (l.length < l.length) = false := by simp
      clear hj hlt
      go_upto_region 8 with (fail)
      clear hd hdn
      obtain ⟨bn, hbn⟩ : ∃ bn, bn = wr.heap.size := ⟨_, rfl⟩
      obtain ⟨W1, hW1⟩ : ∃ W1, W1 = wr.alloc (.cells #[.nilFunc] 110) := ⟨_, rfl⟩
      have hX := heap_alloc_new wr (.cells #[.nilFunc] 110)
      have hb1 : Below wr.heap.size wr W1 := by rw [hW1]; exact below_alloc (Below.refl _ _) _
      have HBN := Aside0.mk (show w.heap.size + 1 + 1 + 1 < bn by rw [hbn]; exact blk_lt HM.out.bm)
      have HZ := Aside0.mk (show W1.heap.size = bn + 1 by rw [hW1, hbn]; simp)
      rw [← hW1, ← hbn] at hX
      rw [← hW1, ← hbn]
      have HM1 := Aside0.mk (HM.out.step hb1)
      have hu : W1.cell? ⟨bn, 0, none⟩ = some .nilFunc := (blk_cell hX 0).trans rfl
      have hf : W1.frozen? ⟨bn, 0, none⟩ = false := blk_frozen hX 0
      have hlt2 : bn < W1.heap.size := blk_lt hX
      clear hW1 hbn hb1 HM
      go_upto_region 9 with (fail)
      obtain ⟨W2, hW2⟩ : ∃ W2, W2 = W1.setCell ⟨bn, 0, none⟩ (.func (.func 78) #[] #[.pointer (some ⟨w.heap.size, 0, none⟩), .pointer (some ⟨w.heap.size + 1, 0, none⟩), .pointer (some ⟨w.heap.size + 1 + 1 + 1, 0, none⟩), .pointer (some ⟨bn, 0, none⟩)]) := ⟨_, rfl⟩
      have hb2 : Below w.heap.size w W2 := by rw [hW2]; exact HM1.out.below.setCell (p := ⟨bn, 0, none⟩) (by have := HBN.out; simp; omega) _
      have HBB := Aside0.mk hb2
      obtain ⟨vs, hv1, hv2, hv3⟩ := HM1.out.gr
      have hnb : ∀ {g : Nat} {cs : Array Value} {t : TypeId}, g < bn → W1.heap[g]? = some (.cells cs t (0, 0)) → W2.heap[g]? = some (.cells cs t (0, 0)) := fun hg h => by rw [hW2]; exact blk_far h (by simp; omega) _
      have HB := Aside0.mk (show NextBase l A c wc w.heap.size (bn + 1) kf cap w.heap.size (w.heap.size + 1) (w.heap.size + 1 + 1 + 1) bn (w.heap.size + 1 + 1) l.length vs W2 from
        ⟨HW.out.trans (hb2.mono HW.out.size), by rw [hW2]; simp [World.setCell, HZ.out], hnb (by have := HBN.out; omega) HM1.out.bl, hnb (by have := HBN.out; omega) HM1.out.bf, hnb HBN.out HM1.out.bm, by rw [hW2]; exact (blk_set hX 0 _).trans rfl, hnb (by have := HBN.out; omega) hv2, fun j hj => by
          obtain ⟨v, e1, e2⟩ := hv3 j hj
          refine ⟨v, e1, ?_, fun k hk => by have := (e2.lt k hk).2; have := HZ.out; omega⟩
          rw [hW2]
          exact own_setCell e2 (blk_not_row hX e2 (by decide)) _, by have := HW.out.size; have := HBN.out; omega⟩)
      rw [← hW2]
      have hc := (blk_cell HB.out.bn 0).trans rfl
      clear hW2 hb2 hv1 hv2 hv3 hnb hX hu hf hlt2 HM1
      go_wp2_with (go_at_call 78; refine (next_all l A c wc w.heap.size (bn + 1) kf cap w.heap.size (w.heap.size + 1) (w.heap.size + 1 + 1 + 1) bn (w.heap.size + 1 + 1) l.length vs _ Inv Stop EG.out HR.out H8.out HI.out (HF.out (bn + 1) (by have := HBN.out; omega)) l.length 0 (Nat.zero_add _) O [] _ (.slice none 0 0) [] 0 0 HB.out ?_ ?_ (World.ownsRow_nil _ _ _ _) (fun k hk => by cases hk) rfl (by simp) (by simp) ?_).mono ?_)
      · exact HI.out.keep _ _ _ _ H0.out (Turns.of_new (O := fun k => ¬ O k) HBB.out)
      · exact fun k hk => .inl (HO.out k hk)
      · exact List.prefix_refl _
      · rintro e w3 ⟨O', h1, h2, h3⟩
        have H1 := Aside0.mk (show ∀ k, O' k → O k ∨ w.heap.size ≤ k from fun k hk => by
          rcases h1 k hk with h | h
          · exact .inl h
          · exact .inr (Nat.le_trans HBB.out.size h))
        have H2 := Aside0.mk (show Turns O w w3 from (Turns.of_new HBB.out).then h2 fun k _ h => by
          rcases h with h | h
          · exact h
          · cases h)
        rcases h3 with ⟨rfl, _, h5⟩ | ⟨ch, pre, rfl, h4, h5⟩
        · have H5 := Aside0.mk h5
          clear h1 h2 h5 hc hmf
          go_wp2
          go_end0
          exact ⟨O', H1.out, H2.out, .inl ⟨rfl, H5.out⟩⟩
        · exact ⟨rfl, O', H1.out, H2.out, .inr ⟨ch, pre, rfl, h4, h5⟩⟩
abbrev readsL (l : List S38) : List (List Int) := readingsP (l.map toEnt)
theorem checkL_len {l : List S38} (h : checkL l = 0) : 1 ≤ l.length ∧ l.length ≤ 8 := by
  have := SumPlain.check_len h
  rwa [List.length_map] at this
theorem readsL_many {l : List S38} (h : checkL l = 0) : (readsL l).length ≤ 3121877499950004999 := SumPlain.readings_many h
def countL (l : List S38) : Int × Int := if checkL l = 0 then ((readsL l).length, 0) else (0, checkL l)
theorem count1_calls (v : Value) (bc : Nat) (n : Int) (w : World) (hb : w.heap[bc]? = some (.cells #[.int .i64 n] 3 (0, 0))) :
    Calls Tryd.prog 57 #[v, .pointer (some ⟨bc, 0, none⟩)] w fun e w' => e = .returned (.tuple #[]) ∧ w' = w.setCell ⟨bc, 0, none⟩ (.int .i64 (wrap64 (n + 1))) := by
  have hc : w.cell? ⟨bc, 0, none⟩ = some (.int .i64 n) := (blk_cell hb 0).trans rfl
  have hf := blk_frozen hb 0
  go_enter Tryd.func57, Tryd.ntmps57
  go_wp2
  go_end0
  exact ⟨rfl, rfl⟩
def CountInv (bc : Nat) (O : Nat → Prop) (X : List (List Int)) (w : World) : Prop := (∀ k, O k ↔ k = bc) ∧ w.heap[bc]? = some (.cells #[.int .i64 (X.length : Int)] 3 (0, 0))
theorem countInv_ok (bc : Nat) : InvOk (CountInv bc) where
  keep := fun O X w w' h ht => ⟨h.1, (ht.block bc (blk_lt h.2) (fun hn => hn ((h.1 bc).2 rfl))).trans h.2⟩
  lt := fun O X w h k hk => by
    rw [(h.1 k).1 hk]
    exact blk_lt h.2
theorem count_found {l : List S38} (h0 : checkL l = 0) (wc : World) (bc nr m0 : Nat) : FoundOk wc nr m0 57 #[.pointer (some ⟨bc, 0, none⟩)] (readsL l) (CountInv bc) (fun _ _ _ _ => False) := by
  intro O X w v r hI hO hX hm hv hvO
  refine (count1_calls v bc _ w hI.2).mono ?_
  rintro e w' ⟨rfl, rfl⟩
  have hlen := hX.length_le
  have hmany := readsL_many h0
  rw [List.length_append, List.length_singleton] at hlen
  refine ⟨O, fun k h => .inl h, (Turns.refl _ _).setCell ⟨bc, 0, none⟩ _ (fun _ => .inl ((hI.1 bc).2 rfl)), .inl ⟨rfl, hI.1, ?_⟩⟩
  rw [blk_set hI.2 0, w_up (k := X.length) (n := 9223372036854775807) (by omega) (by omega), List.length_append, List.length_singleton]
  rfl
theorem countFn_enters : ∀ args w, (callFunc 57 args).run Tryd.prog w = .ok (.enter 57 args) w := enters_ Tryd.func57 (by kernel_rfl) rfl
set_option maxRecDepth 100000 in
set_option maxHeartbeats 4000000 in
theorem count_calls (A : Option Addr) (c : Nat) (l : List S38) (w : World) (hr : Kd.C k38 w A l.length l) (hs : ∀ i : Nat, i < l.length → (rd_T38 l (i : Int)).f1.size ≤ 9223372036854775807) (hS : SignsAt w) :
    Calls Tryd.prog 16 #[.slice A l.length c] w fun e w' => e = .returned (.tuple #[.int .i64 (countL l).1, .int .i64 (countL l).2]) ∧ Below w.heap.size w w' := by
  have HC := check_calls A c l w hr hs hS
  have HR := Aside0.mk hr
  have HS := Aside0.mk hS
  have HSZ := Aside0.mk hs
  have hmf : ∀ (fn : Fn) (first cap : Array Value) (w : World), (Instr.makeFunc fn first cap).run Tryd.prog w = .ok (.func fn first cap) w := fun _ _ _ _ => rfl
  clear hr hs hS
  obtain ⟨ck, hck⟩ : ∃ ck, ck = checkL l := ⟨_, rfl⟩
  rw [← hck] at HC
  have HCK := Aside0.mk hck
  go_enter Tryd.func16, Tryd.ntmps16
  go_wp2_with (go_at_call 38; refine HC.mono ?_)
  clear HC
  rintro e w1 ⟨rfl, hb1⟩
  by_cases h0 : ck = 0
  · have hne : (ck != 0) = false := by simp [h0]
    have H0 := Aside0.mk (show checkL l = 0 by rw [← hck]; exact h0)
    have HB1 := Aside0.mk hb1
    clear hck h0 hb1
    go_upto_region 5 with (fail)
    obtain ⟨bc, hbc⟩ : ∃ bc, bc = w1.heap.size := ⟨_, rfl⟩
    obtain ⟨W2, hW2⟩ : ∃ W2, W2 = w1.alloc (.cells #[.int .i64 0] 3) := ⟨_, rfl⟩
    have hX := heap_alloc_new w1 (.cells #[.int .i64 0] 3)
    have HB2 := Aside0.mk (show Below w.heap.size w W2 by rw [hW2]; exact below_alloc HB1.out _)
    have HBC := Aside0.mk (show w.heap.size ≤ bc by rw [hbc]; exact HB1.out.size)
    rw [← hW2, ← hbc] at hX
    rw [← hW2, ← hbc]
    have HX := Aside0.mk hX
    clear hW2 hbc hX HB1 hne
    go_wp2_with (go_at_call 54; refine (readings_calls l A c w 57 #[.pointer (some ⟨bc, 0, none⟩)] (CountInv bc) (fun _ _ _ _ => False) countFn_enters HR.out HSZ.out HS.out (checkL_len H0.out) (countInv_ok bc) W2 HB2.out (fun m0 _ => count_found H0.out w bc _ m0) (fun k => k = bc) ⟨fun k => Iff.rfl, HX.out⟩ (fun k hk => by have := HBC.out; have := blk_lt HX.out; omega)).mono ?_)
    rintro e w3 ⟨O', h1, h2, h3⟩
    rcases h3 with ⟨rfl, h4, h5⟩ | ⟨ch, pre, rfl, _, h5⟩
    · have hc : w3.cell? ⟨bc, 0, none⟩ = some (.int .i64 ((readsL l).length : Int)) := (blk_cell h5 0).trans rfl
      have HB3 := Aside0.mk (show Below w.heap.size w w3 from HB2.out.trans (h2.below (fun k hk => by rw [hk]; exact HBC.out) HB2.out.size))
      clear h1 h2 h4 h5
      go_wp2
      rw [countL, if_pos H0.out]
      go_ret2
      exact ⟨rfl, HB3.out⟩
    · exact h5.elim
  · have hne : (ck != 0) = true := by simp [h0]
    have H0 := Aside0.mk (show ¬ checkL l = 0 by rw [← hck]; exact h0)
    have HB1 := Aside0.mk hb1
    clear h0 hb1
    go_wp2
    rw [countL, if_neg H0.out, ← hck]
    go_ret2
    exact ⟨rfl, HB1.out⟩
end Go.Proofs.YtgfikondoehblaaDoor.Pr
end
section
namespace Go.Proofs.YtgfikondoehblaaDoor.Pr
open Go.RowKit Go.Shelf Go.Proofs.YtgfikondoehblaaDoorW.PrintWords Go.Proofs.YtgfikondoehblaaDoorW.PrintLast Go.Proofs.YtgfikondoehblaaDoorW.PrintMore Go.Proofs.SumKeep
open SumPlain (numeralP)
def numAt (n : Int) (k : Nat) : Int := (numeralP n.toNat).getD k 0
theorem index_num (n : Int) (k : Nat) (h : k < (numeralP n.toNat).length) (w : World) : (Instr.index 9 (.string (strOf (numeralP n.toNat))) (.int .i64 (k : Int))).run Tryd.prog w = .ok (.int .u8 (numAt n k)) w := by
  have hs : k < (strOf (numeralP n.toNat)).size := by rw [strOf_size]; exact h
  rw [index_str _ k hs w]
  have h1 := ints_get hs
  rw [numeral_ints, List.getElem?_eq_getElem h] at h1
  rw [show ((strOf (numeralP n.toNat))[k].toNat : Int) = numAt n k from by
    unfold numAt
    rw [List.getD_eq_getElem?_getD, List.getElem?_eq_getElem h]
    exact (Option.some.inj h1).symm]
set_option maxRecDepth 100000 in
set_option maxHeartbeats 4000000 in
theorem print1_calls (n : Int) (k : Nat) (c : Int) (hn : 0 ≤ n ∧ n ≤ 4999) (hk : k < (numeralP n.toNat).length) (bk bc : Nat) (w : World) (hS : SignsAt w)
    (hbk : w.heap[bk]? = some (.cells #[.int .i64 (k : Int)] 3 (0, 0))) (hbc : w.heap[bc]? = some (.cells #[.int .u8 c] 5 (0, 0))) :
    Calls Tryd.prog 53 #[.int .i64 n, .pointer (some ⟨bk, 0, none⟩), .pointer (some ⟨bc, 0, none⟩)] w fun e w' => e = .returned (.bool (numAt n k != c)) ∧ Below w.heap.size w w' := by
  have HS := Aside0.mk hS
  have HBK := Aside0.mk hbk
  have HBC := Aside0.mk hbc
  have HK := Aside0.mk hk
  obtain ⟨m, rfl⟩ : ∃ m : Nat, n = (m : Int) := ⟨n.toNat, by omega⟩
  have HN := Aside0.mk (show m ≤ 4999 by omega)
  have hc0 : w.cell? ⟨bk, 0, none⟩ = some (.int .i64 (k : Int)) := (blk_cell hbk 0).trans rfl
  have hc1 : w.cell? ⟨bc, 0, none⟩ = some (.int .u8 c) := (blk_cell hbc 0).trans rfl
  have hix := fun w => index_num (m : Int) k hk w
  rw [Int.toNat_natCast] at hix
  clear hS hbk hbc hn hk
  go_enter Tryd.func53, Tryd.ntmps53
  go_wp2_with (fail)
  go_region_held3 (fun w' => w'.cell? ⟨bk, 0, none⟩ = some (.int .i64 (k : Int)) ∧ w'.cell? ⟨bc, 0, none⟩ = some (.int .u8 c)) (go_keep)
    (((with_reducible refine (numeral_calls m HN.out _ (HS.out.new (Below.refl _ w).drew)).mono ?_)
      rintro e w3 ⟨rfl, hb⟩
      have HB3 := Aside0.mk (show Below w.heap.size w w3 from below_then (Below.refl _ w).drew (Nat.le_refl _) hb)
      have hc0' : w3.cell? ⟨bk, 0, none⟩ = some (.int .i64 (k : Int)) := (blk_cell (blk_below HBK.out HB3.out) 0).trans rfl
      have hc1' : w3.cell? ⟨bc, 0, none⟩ = some (.int .u8 c) := (blk_cell (blk_below HBC.out HB3.out) 0).trans rfl
      clear hb))
  go_wp2
  go_ret
  exact ⟨rfl, HB3.out⟩
theorem print1_enters : ∀ args w, (callFunc 53 args).run Tryd.prog w = .ok (.enter 53 args) w := enters_ Tryd.func53 (by kernel_rfl) rfl
def otherAt (col : List Int) (k : Nat) (c : Int) : Bool := col.any fun n => numAt n k != c
set_option maxRecDepth 100000 in
set_option maxHeartbeats 4000000 in
theorem indexFunc_calls (col : List Int) (k : Nat) (c : Int) (hcol : ∀ n ∈ col, 0 ≤ n ∧ n ≤ 4999 ∧ k < (numeralP n.toNat).length) (hlen : col.length ≤ 5000) (A : Option Addr) (cp : Nat) (bk bc : Nat) (w : World) (hS : SignsAt w) (hC : Kd.C (Kd.int .i64) w A col.length col)
    (hbk : w.heap[bk]? = some (.cells #[.int .i64 (k : Int)] 3 (0, 0))) (hbc : w.heap[bc]? = some (.cells #[.int .u8 c] 5 (0, 0))) :
    Calls Tryd.prog 76 #[.slice A col.length cp, .func (.func 53) #[] #[.pointer (some ⟨bk, 0, none⟩), .pointer (some ⟨bc, 0, none⟩)]] w fun e w' => (∃ i : Int, e = .returned (.int .i64 i) ∧ decide (i ≥ 0) = otherAt col k c) ∧ Below w.heap.size w w' := by
  have HS := Aside0.mk hS
  have HBK := Aside0.mk hbk
  have HBC := Aside0.mk hbc
  have HC := Aside0.mk hC
  have HCOL := Aside0.mk hcol
  have HLEN := Aside0.mk hlen
  clear hS hbk hbc hcol hC hlen
  go_enter Tryd.func76, Tryd.ntmps76
  go_wp2_with (fail)
  go_loopw [5, 8, 9, 10, 11, 12, 13, 14, 15, 16, 17, 18] (fun _ jv _ _ _ _ _ _ _ _ _ _ wr => ∃ j : Nat, j ≤ col.length ∧ jv = .int .i64 (j : Int) ∧ Aside0 (∀ i, i < j → numAt (col.getD i 0) k = c) ∧ Aside0 (Below w.heap.size w wr))
    (fun _ jv _ _ _ _ _ _ _ _ _ _ _ => col.length - (intOf jv).toNat)
  case atStart => exact ⟨0, Nat.zero_le _, rfl, ⟨fun i hi => absurd hi (by omega)⟩, ⟨Below.refl _ _⟩⟩
  case round =>
    obtain ⟨j, hj, rfl, HE, HB⟩ := hrel
    by_cases hlt : j < col.length
    · have hd : decide ((j : Int) < (col.length : Int)) = true := by simp; omega
      have hdn : decide (j < col.length) = true := by simp; omega
      have hj0 : (0 : Int) ≤ (j : Int) := by omega
      have hj1 : (j : Int) < (col.length : Int) := by omega
      have HLT := Aside0.mk hlt
      obtain ⟨x, hx⟩ : ∃ x, x = col.getD j 0 := ⟨_, rfl⟩
      obtain ⟨ad, rfl, hx0⟩ := Kd.at_int HC.out (j : Int) (by omega) (by omega)
      rw [Int.toNat_natCast, show rd col (j : Int) = col.getD j 0 from rfl, ← hx] at hx0
      have HX := Aside0.mk hx
      have HXM := Aside0.mk (show x ∈ col by rw [hx, List.getD_eq_getElem?_getD, List.getElem?_eq_getElem hlt]; exact List.getElem_mem hlt)
      replace hx0 := (HB.out.cell (World.block_lt_of_cell? w _ hx0)).trans hx0
      have HBK2 := Aside0.mk (blk_below HBK.out HB.out)
      clear hx hlt hj
      have hm := HCOL.out x HXM.out
      have HP := Aside0.mk (print1_calls x k c ⟨hm.1, hm.2.1⟩ hm.2.2 bk bc wr (HS.out.new HB.out) HBK2.out (blk_below HBC.out HB.out))
      clear hm
      by_cases hq : numAt x k = c
      · have hqb : (numAt x k != c) = false := by simp [hq]
        rw [hqb] at HP
        have HQ := Aside0.mk hq
        clear hq hqb
        go_wp2_with (go_at_call 53; refine HP.out.mono ?_; rintro e w3 ⟨rfl, hb3⟩; have HB3 := Aside0.mk hb3; clear hb3)
        go_roundw
        case rel => exact ⟨j + 1, HLT.out, by rw [w_up HLT.out (by have := HLEN.out; omega)], ⟨fun i hi => by
            rcases Nat.lt_or_eq_of_le (Nat.lt_succ_iff.1 hi) with hi | rfl
            · exact HE.out i hi
            · rw [← HX.out]; exact HQ.out⟩, ⟨below_then HB.out HB.out.size HB3.out⟩⟩
        case measure => exact meas_up HLT.out (by have := HLEN.out; omega)
      · have hqb : (numAt x k != c) = true := by simp [hq]
        rw [hqb] at HP
        have HQ := Aside0.mk hqb
        clear hq hqb
        go_wp2_with (go_at_call 53; refine HP.out.mono ?_; rintro e w3 ⟨rfl, hb3⟩; have HB3 := Aside0.mk hb3; clear hb3)
        go_ret
        refine ⟨⟨_, rfl, ?_⟩, below_then HB.out HB.out.size HB3.out⟩
        rw [show otherAt col k c = true from List.any_eq_true.2 ⟨x, HXM.out, HQ.out⟩]
        exact decide_eq_true (by omega)
    · obtain rfl : j = col.length := by omega
      have hd : decide ((col.length : Int) < (col.length : Int)) = false := by simp
      have hdn : decide (col.length < col.length) = false := by simp
      clear hj hlt
      go_wp2_with (fail)
      go_ret
      refine ⟨⟨_, rfl, ?_⟩, HB.out⟩
      rw [show otherAt col k c = false from by
        unfold otherAt
        rw [List.any_eq_false]
        intro x hx
        obtain ⟨i, hi, rfl⟩ := List.getElem_of_mem hx
        have := HE.out i hi
        rw [List.getD_eq_getElem?_getD, List.getElem?_eq_getElem hi] at this
        simp at this
        simp [this]]
      rfl
set_option maxRecDepth 100000 in
set_option maxHeartbeats 4000000 in
theorem containsFunc_calls (col : List Int) (k : Nat) (c : Int) (hcol : ∀ n ∈ col, 0 ≤ n ∧ n ≤ 4999 ∧ k < (numeralP n.toNat).length) (hlen : col.length ≤ 5000) (A : Option Addr) (cp : Nat) (bk bc : Nat) (w : World) (hS : SignsAt w) (hC : Kd.C (Kd.int .i64) w A col.length col)
    (hbk : w.heap[bk]? = some (.cells #[.int .i64 (k : Int)] 3 (0, 0))) (hbc : w.heap[bc]? = some (.cells #[.int .u8 c] 5 (0, 0))) :
    Calls Tryd.prog 52 #[.slice A col.length cp, .func (.func 53) #[] #[.pointer (some ⟨bk, 0, none⟩), .pointer (some ⟨bc, 0, none⟩)]] w fun e w' => e = .returned (.bool (otherAt col k c)) ∧ Below w.heap.size w w' := by
  have HI := Aside0.mk (indexFunc_calls col k c hcol hlen A cp bk bc w hS hC hbk hbc)
  clear hcol hlen hS hC hbk hbc
  go_enter Tryd.func52, Tryd.ntmps52
  go_wp2_with (go_at_call 76; refine HI.out.mono ?_; rintro e w3 ⟨⟨i, rfl, hi⟩, hb3⟩; have HB3 := Aside0.mk hb3; clear hb3)
  go_ret
  refine ⟨?_, HB3.out⟩
  rw [← hi]
  rfl
def numeralL (n : Int) : ByteArray × Int := if 1 ≤ n ∧ n ≤ 4999 then (strOf (numeralP n.toNat), 0) else (⟨#[]⟩, 1)
set_option maxRecDepth 100000 in
theorem numeralL_calls (n : Int) (w : World) (hS : SignsAt w) : Calls Tryd.prog 24 #[.int .i64 n] w fun e w' => e = .returned (.tuple #[.string (numeralL n).1, .int .i64 (numeralL n).2]) ∧ Below w.heap.size w w' := by
  have HS := Aside0.mk hS
  clear hS
  by_cases h1 : n < 1
  · have c1 : decide (n < 1) = true := decide_eq_true h1
    have HN := Aside0.mk (show numeralL n = (⟨#[]⟩, 1) from if_neg (by omega))
    clear h1
    go_enter Tryd.func24, Tryd.ntmps24
    go_wp2
    go_ret2
    exact ⟨by first | (rw [HN.out]; done) | (rw [HN.out]; rfl), Below.refl _ _⟩
  · have c1 : decide (n < 1) = false := decide_eq_false h1
    by_cases h2 : n > 4999
    · have c2 : decide (n > 4999) = true := decide_eq_true h2
      have HN := Aside0.mk (show numeralL n = (⟨#[]⟩, 1) from if_neg (by omega))
      clear h1 h2
      go_enter Tryd.func24, Tryd.ntmps24
      go_wp2
      go_ret2
      exact ⟨by first | (rw [HN.out]; done) | (rw [HN.out]; rfl), Below.refl _ _⟩
    · have c2 : decide (n > 4999) = false := decide_eq_false h2
      obtain ⟨m, rfl⟩ : ∃ m : Nat, n = (m : Int) := ⟨n.toNat, by omega⟩
      have HN := Aside0.mk (show numeralL (m : Int) = (strOf (numeralP m), 0) from (if_pos (by omega)).trans (by rw [Int.toNat_natCast]))
      have HM := Aside0.mk (show m ≤ 4999 by omega)
      clear h1 h2
      go_enter Tryd.func24, Tryd.ntmps24
      go_wp2_with (go_at_call 51; refine (numeral_calls m HM.out w HS.out).mono ?_; rintro e w1 ⟨rfl, hb⟩; have HB := Aside0.mk hb; clear hb)
      go_ret2
      exact ⟨by first | (rw [HN.out]; done) | (rw [HN.out]; rfl), HB.out⟩
end Go.Proofs.YtgfikondoehblaaDoor.Pr
end
