/- Part 20 of 21 of the proof of: SumsLess: for every slice of numbers, the law returns true: without the entries that Struck names an account made of them adds up, and without fewer ones, or as many that come before, it does not; no condition beyond the statement's own. -/
import Derived.Laws.IdiomStrings
import Derived.Lib.ConvBytes
import Derived.Test.YtgfikondoehblaaDoorLE1
import Derived.Test.YtgfikondoehblaaDoorLE9
import Derived.Test.YtgfikondoehblaaDoorLE15
import Derived.Test.YtgfikondoehblaaDoorLE16
import Derived.Test.YtgfikondoehblaaDoorLE19
set_option linter.unusedVariables false
set_option linter.unusedSimpArgs false
set_option linter.unusedSectionVars false
section
namespace Go.Proofs.YtgfikondoehblaaDoor.Pr
open Go.RowKit Go.Shelf Go.Proofs.YtgfikondoehblaaDoorW.PrintWords Go.Proofs.YtgfikondoehblaaDoorW.PrintLast Go.Proofs.YtgfikondoehblaaDoorW.PrintMore Go.Proofs.SumKeep
open SumPlain (numeralP valuesP columnP readingsP Ent fitsP)
def sameAt (col : List Int) (k : Nat) : Bool := !otherAt col k (numAt (col.getD 0 0) k)
def printCell (col : List Int) (k : Nat) (c : Int) : Int := if c = 63 ∧ sameAt col k = true then numAt (col.getD 0 0) k + 32 else c
def printRow (col : List Int) (s : List Int) : List Int := (List.range s.length).map fun k => printCell col k (s.getD k 0)
def printL (l : List S38) : List ByteArray × Int :=
  if (choL l).2 = 0 then ((List.range l.length).map (fun i => strOf (printRow ((choL l).1.getD i []) (entAt l i).signs)), 0) else ([], (choL l).2)
theorem num_range (n : Int) (k : Nat) (h : k < (numeralP n.toNat).length) : 67 ≤ numAt n k ∧ numAt n k ≤ 88 := by
  have hm : numAt n k ∈ numeralP n.toNat := by
    unfold numAt
    rw [List.getD_eq_getElem?_getD, List.getElem?_eq_getElem h]
    exact List.getElem_mem h
  obtain ⟨p, hp, e⟩ := numGo_mem _ _ _ hm
  have hs : ∀ p ∈ SumPlain.signsP, 67 ≤ p.1 ∧ p.1 ≤ 88 := by decide
  rw [← e]
  exact hs p hp
theorem one_CS {W : World} {g : Nat} {v : ByteArray} (h : W.cell? ⟨g, 0, none⟩ = some (.string v)) : Kd.C (Kd.string) W (some ⟨g, 0, none⟩) 1 [v] := by
  refine ⟨rfl, by simp, fun _ => ⟨_, rfl, fun j p hp => ?_⟩⟩
  cases j with
  | zero =>
    simp at hp
    subst hp
    refine ⟨[.string v], rfl, rfl, fun i u hu => ?_⟩
    cases i with
    | zero =>
      simp at hu
      subst hu
      exact h
    | succ i => simp at hu
  | succ j => simp at hp
def BytesAt (W : World) (b n : Nat) (f : Nat → Int) : Prop := ∃ (vs : Array Value) (m : Nat), W.heap[b]? = some (.cells vs 5 (m, m + 1)) ∧ n ≤ m ∧ vs.size = m ∧ ∀ j, j < n → vs[j]? = some (.int .u8 (f j))
theorem BytesAt.below {W W' : World} {b n : Nat} {f : Nat → Int} (h : BytesAt W b n f) (hb : Below W.heap.size W W') : BytesAt W' b n f := by
  obtain ⟨vs, m, h1, h2⟩ := h
  exact ⟨vs, m, blk_below h1 hb, h2⟩
theorem BytesAt.lt {W : World} {b n : Nat} {f : Nat → Int} (h : BytesAt W b n f) : b < W.heap.size := by
  obtain ⟨vs, m, h1, h2⟩ := h
  exact blk_lt h1
theorem BytesAt.cell {W : World} {b n : Nat} {f : Nat → Int} (h : BytesAt W b n f) {j : Nat} (hj : j < n) : W.cell? ⟨b, j, none⟩ = some (.int .u8 (f j)) := by
  obtain ⟨vs, m, h1, h2, h3, h4⟩ := h
  exact (cell_of_row W b j vs _ _ h1).trans (h4 j hj)
theorem BytesAt.frozen {W : World} {b n : Nat} {f : Nat → Int} (h : BytesAt W b n f) {j : Nat} (hj : j < n) : W.frozen? ⟨b, j, none⟩ = false := by
  obtain ⟨vs, m, h1, h2, h3, h4⟩ := h
  simp [World.frozen?, h1]
  omega
theorem BytesAt.set {W : World} {b n : Nat} {f : Nat → Int} (h : BytesAt W b n f) {j : Nat} (hj : j < n) (c : Int) : BytesAt (W.setCell ⟨b, j, none⟩ (.int .u8 c)) b n (fun i => if i = j then c else f i) := by
  obtain ⟨vs, m, h1, h2, h3, h4⟩ := h
  refine ⟨vs.setIfInBounds j (.int .u8 c), m, by simp [World.setCell, Array.getElem?_modify, h1], h2, by simp [h3], fun i hi => ?_⟩
  by_cases hij : i = j
  · subst hij
    dsimp only
    rw [Array.getElem?_setIfInBounds_self_of_lt (by omega), if_pos rfl]
  · dsimp only
    rw [Array.getElem?_setIfInBounds_ne (by omega), if_neg hij]
    exact h4 i hi
theorem BytesAt.congr {W : World} {b n : Nat} {f g : Nat → Int} (h : BytesAt W b n f) (he : ∀ j, j < n → f j = g j) : BytesAt W b n g := by
  obtain ⟨vs, m, h1, h2, h3, h4⟩ := h
  exact ⟨vs, m, h1, h2, h3, fun j hj => by rw [h4 j hj, he j hj]⟩
theorem BytesAt.made (W : World) (s : ByteArray) : BytesAt (Lib.bytesWorld W 5 s) W.heap.size s.size (fun j => (intsOf s).getD j 0) := by
  have hg := grownCap_ge W s.size 0 5
  have hsz : (Lib.bytesCells W 5 s).size = grownCap W s.size 0 5 := by
    simp only [Lib.bytesCells, Array.size_append, Array.size_map, Array.size_replicate]
    have : s.data.size = s.size := rfl
    omega
  refine ⟨_, _, Lib.bytesWorld_at_new W _ s, by rw [hsz]; exact hg, rfl, fun j hj => ?_⟩
  have hj' : j < s.data.size := hj
  simp [Lib.bytesCells, Array.getElem?_append, intsOf, hj, hj', List.getD_eq_getElem?_getD]
theorem bytesWorld_below {B : Nat} {w W : World} (h : Below B w W) (hB : B ≤ W.heap.size) (s : ByteArray) : Below B w (Lib.bytesWorld W 5 s) :=
  h.trans ⟨rfl, rfl, rfl, by rw [Lib.bytesWorld_size]; omega, fun k hk => Lib.bytesWorld_at_old W _ s k (by omega)⟩
theorem byteOf_nat {c : Int} (h : 0 ≤ c ∧ c < 256) : ((byteOf c).toNat : Int) = c := by
  simp only [byteOf]
  rw [UInt8.toNat_ofNat', Nat.mod_eq_of_lt (by omega)]
  omega
theorem BytesAt.back {W : World} {b : Nat} {L : List Int} {f : Nat → Int} (h : BytesAt W b L.length f) (hf : ∀ j, j < L.length → f j = L.getD j 0) (hL : ∀ c ∈ L, 0 ≤ c ∧ c < 256) (cap : Nat) :
    (convert 41 9 (.slice (some ⟨b, 0, none⟩) L.length cap)).run Tryd.prog W = .ok (.string (strOf L)) W := by
  have := run_convert_bytes_back (P := Tryd.prog) W 41 9 5 ⟨b, 0, none⟩ cap (L.map byteOf) Tryd.underlying41 Tryd.underlying5 Tryd.underlying9 (fun j hj => by
    rw [List.length_map] at hj
    rw [Addr.add_lit, Nat.zero_add, h.cell hj, hf j hj, List.getElem_map, byteOf_nat (hL _ (List.getElem_mem hj)), List.getD_eq_getElem?_getD, List.getElem?_eq_getElem hj]
    rfl)
  rw [List.length_map] at this
  exact this
theorem rowI_at {w : World} {A : Option Addr} {n : Nat} {xs : List (List Int)} (h : (Kd.slice 3 (Kd.int .i64)).C w A n xs) {j : Nat} (hj : j < n) :
    ∃ ad A' c', A = some ad ∧ w.cell? (ad.add j) = some (.slice A' (xs.getD j []).length c') ∧ (Kd.int .i64).C w A' (xs.getD j []).length (xs.getD j []) := by
  obtain ⟨ad, c, e, h1, ⟨A', c', h2, h3, h4⟩, h5⟩ := Kd.C_get h [] (j : Int) (by omega) (by omega)
  rw [Int.toNat_natCast] at h2 h3 h4 h5
  subst h2
  refine ⟨ad, A', c', e, ?_, h4⟩
  have := h5 0 _ rfl
  rw [show (Kd.slice 3 (Kd.int .i64)).sz = 1 from rfl] at this
  simpa using this
theorem cho_getD {l : List S38} (h0 : (choL l).2 = 0) : checkL l = 0 ∧ readsL l ≠ [] ∧ (choL l).1 = (List.range l.length).map (columnP (readsL l)) := by
  unfold choL at h0 ⊢
  by_cases h1 : checkL l = 0
  · rw [if_pos h1] at h0 ⊢
    by_cases h2 : readsL l = []
    · rw [if_pos h2] at h0
      cases h0
    · rw [if_neg h2]
      exact ⟨h1, h2, rfl⟩
  · rw [if_neg h1] at h0
    exact absurd h0 h1
theorem col_facts {l : List S38} (h0 : (choL l).2 = 0) {i : Nat} (hi : i < l.length) : 0 < ((choL l).1.getD i []).length ∧ ((choL l).1.getD i []).length ≤ 5000 ∧ ∀ n ∈ (choL l).1.getD i [], 0 ≤ n ∧ n ≤ 4999 ∧ (numeralP n.toNat).length = (entAt l i).signs.length := by
  obtain ⟨h1, h2, h3⟩ := cho_getD h0
  have e : (choL l).1.getD i [] = columnP (readsL l) i := by rw [h3]; simp [List.getD_eq_getElem?_getD, hi]
  rw [e]
  refine ⟨?_, col_len _ _, fun n hn => ?_⟩
  · obtain ⟨r, hr⟩ := List.exists_mem_of_ne_nil _ h2
    exact List.length_pos_of_mem (SumPlain.reading_in_column hr i (by rw [List.length_map]; exact hi))
  · obtain ⟨_, hn2⟩ := List.mem_filter.1 hn
    obtain ⟨r, hr, he⟩ := List.any_eq_true.1 hn2
    have he' : r.getD i (-1) = n := by simpa using he
    have hrr := (SumPlain.mem_readings _ r).1 hr
    have hl := hrr.length
    rw [List.length_map, List.length_map] at hl
    have hm := hrr.mem i (by omega) (by rw [List.length_map, List.length_map]; exact hi)
    have e2 : r.getD i (-1) = r[i]'(by omega) := by rw [List.getD_eq_getElem?_getD, List.getElem?_eq_getElem (by omega)]; rfl
    rw [← e2, he'] at hm
    simp only [List.getElem_map] at hm
    have e3 : toEnt l[i] = entAt l i := by
      have := entAt_get hi
      rw [List.getElem?_map, List.getElem?_eq_getElem hi] at this
      exact Option.some.inj this
    rw [e3] at hm
    obtain ⟨k, h1, h2, h3, h4⟩ := (SumPlain.mem_valuesTo _ _ _).1 hm
    refine ⟨by omega, by omega, ?_⟩
    rw [h3, Int.toNat_natCast]
    exact ((SumPlain.fits_iff _ _).1 h4).1
def PrintR.T12 : Bool × List (List Nat × List Nat) := (true, [([], []), ([], []), ([0, 1], [0, 1]), ([2], [2]), ([3], [3]), ([4], [4]), ([5], [5]), ([], []), ([6, 7], [6, 7]), ([], []), ([9, 8, 6, 0, 1, 2, 3, 4, 5, 6, 7, 8, 9], [8, 9])])
def PrintR.B12 : List Nat := [0, 0, 3, 7, 15, 31, 63, 0, 255, 0, 1023]
theorem PrintR.tab12 : rtab .any (opsOf Tryd.f14 12) = PrintR.T12 := by kernel_rfl
theorem PrintR.bits12 : waitsOk PrintR.T12.2 PrintR.B12 = true := by kernel_rfl
set_option maxRecDepth 100000 in
set_option maxHeartbeats 8000000 in
theorem print_calls (A : Option Addr) (c : Nat) (l : List S38) (w : World) (hr : Kd.C k38 w A l.length l) (hs : ∀ i : Nat, i < l.length → (rd_T38 l (i : Int)).f1.size ≤ 9223372036854775807) (hS : SignsAt w) :
    Calls Tryd.prog 14 #[.slice A l.length c] w fun e w' => ∃ v, e = .returned (.tuple #[v, .int .i64 (printL l).2]) ∧ Kd.R Kd.string 9 w' w.heap.size (fun _ => True) v (printL l).1 ∧ Below w.heap.size w w' := by
  have HC := Aside0.mk (choices_calls A c l w hr hs hS)
  have HR := Aside0.mk hr
  have HS := Aside0.mk hS
  have HSZ := Aside0.mk hs
  have hcv : ∀ (W : World) (s : ByteArray), (convert 9 41 (.string s)).run Tryd.prog W = .ok (.slice (some ⟨W.heap.size, 0, none⟩) s.size (grownCap W s.size 0 5)) (Lib.bytesWorld W 5 s) := fun W s => Lib.run_convert_string_bytes W _ _ _ s Tryd.underlying9 Tryd.underlying41 Tryd.underlying5
  have hmf : ∀ (fn : Fn) (first cap : Array Value) (w : World), (Instr.makeFunc fn first cap).run Tryd.prog w = .ok (.func fn first cap) w := fun _ _ _ _ => rfl
  clear hr hs hS
  obtain ⟨ck, hck⟩ : ∃ ck, ck = (choL l).2 := ⟨_, rfl⟩
  rw [← hck] at HC
  have HCK := Aside0.mk hck
  go_enter Tryd.func14, Tryd.ntmps14
  by_cases h0 : ck = 0
  · have hne : (ck != 0) = false := by simp [h0]
    have H0 := Aside0.mk (show (choL l).2 = 0 by rw [← hck]; exact h0)
    have H8 := Aside0.mk (checkL_len (cho_getD H0.out).1)
    have HL := Aside0.mk (show (choL l).1.length = l.length by rw [(cho_getD H0.out).2.2]; simp)
    clear hck h0
    go_wp2_with (go_at_call 15; refine HC.out.mono ?_; rintro e w1 ⟨v, rfl, hs1, hb1⟩; obtain ⟨A4, c4, hv4⟩ := Kd.S_slice hs1; subst hv4; have HB1 := Aside0.mk hb1; have HCC := Aside0.mk (Kd.S_reads' hs1).2.2; clear hs1 hb1)
    go_loopw [6, 7, 8, 9, 10, 11, 12, 23, 24, 25, 26, 27, 28, 29, 30, 31, 32, 33, 34, 35, 36, 37, 38, 39, 40, 41, 42, 43, 44, 45, 46, 47, 48, 49, 50, 51, 52, 53, 54, 55, 56, 57, 58, 59, 60, 61, 62, 63, 64, 65, 66, 67, 68, 69, 70, 71, 72] (fun v6 _ _ _ _ _ _ jv _ _ _ _ _ _ _ _ _ _ _ _ _ _ _ _ _ _ _ _ _ _ _ _ _ _ _ _ _ _ _ _ _ _ _ _ _ _ _ _ _ _ _ _ _ _ _ _ _ wr => ∃ j : Nat, j ≤ l.length ∧ jv = .int .i64 (j : Int) ∧ Aside0 (Kd.R Kd.string 9 wr w1.heap.size (fun _ => True) v6 ((List.range j).map (fun i => strOf (printRow ((choL l).1.getD i []) (entAt l i).signs)))) ∧ Aside0 (Below w1.heap.size w1 wr))
      (fun _ _ _ _ _ _ _ jv _ _ _ _ _ _ _ _ _ _ _ _ _ _ _ _ _ _ _ _ _ _ _ _ _ _ _ _ _ _ _ _ _ _ _ _ _ _ _ _ _ _ _ _ _ _ _ _ _ _ => l.length - (intOf jv).toNat)
    case atStart => exact ⟨0, Nat.zero_le _, rfl, ⟨Kd.R_nil _ _ _ _ _⟩, ⟨Below.refl _ _⟩⟩
    case round =>
      obtain ⟨j, hj, rfl, HO, HB⟩ := hrel
      by_cases hlt : j < l.length
      · have hd : decide ((j : Int) < (l.length : Int)) = true := by simp; omega
        have hdn : decide (j < l.length) = true := by simp; omega
        have hj0 : (0 : Int) ≤ (j : Int) := by omega
        have hj1 : (j : Int) < (l.length : Int) := by omega
        have HLT := Aside0.mk hlt
        obtain ⟨ad, rfl, hx0, hx1⟩ := at_T38 HR.out j (by omega) (by omega)
        rw [Int.toNat_natCast] at hx0 hx1
        have HBW := Aside0.mk (show Below w.heap.size w wr from below_then HB1.out HB1.out.size HB.out)
        replace hx0 := (HBW.out.cell (World.block_lt_of_cell? w _ hx0)).trans hx0
        replace hx1 := (HBW.out.cell (World.block_lt_of_cell? w _ hx1)).trans hx1
        obtain ⟨kd, hkd⟩ : ∃ kd, kd = (rd_T38 l (j : Int)).f0 := ⟨_, rfl⟩
        obtain ⟨sg, hsg⟩ : ∃ sg, sg = (rd_T38 l (j : Int)).f1 := ⟨_, rfl⟩
        rw [← hkd] at hx0
        rw [← hsg] at hx1
        have HEnt := Aside0.mk (show (entAt l j).signs = intsOf sg by rw [hsg]; rfl)
        have HSG := Aside0.mk (show sg.size ≤ 9223372036854775807 by rw [hsg]; exact HSZ.out j hlt)
        obtain ⟨ad4, A', c', hA4, hrow, hcin⟩ := rowI_at HCC.out (j := j) (by rw [HL.out]; exact hlt)
        subst hA4
        have hcf := col_facts H0.out hlt
        obtain ⟨col, hcol⟩ : ∃ col, col = (choL l).1.getD j [] := ⟨_, rfl⟩
        rw [← hcol] at hrow hcin hcf
        obtain ⟨ad5, hA5, hcell0⟩ := Kd.at_int hcin 0 (Int.le_refl _) (by omega)
        subst hA5
        have hx00 : rd col 0 = col.getD 0 0 := rfl
        have hmem : col.getD 0 0 ∈ col := by rw [List.getD_eq_getElem?_getD, List.getElem?_eq_getElem hcf.1]; exact List.getElem_mem hcf.1
        obtain ⟨m0, hm0⟩ : ∃ m0 : Nat, col.getD 0 0 = (m0 : Int) := ⟨(col.getD 0 0).toNat, by have := hcf.2.2 _ hmem; omega⟩
        rw [hx00, hm0] at hcell0
        have HM0 := Aside0.mk hm0
        have HM4 := Aside0.mk (show m0 ≤ 4999 ∧ (numeralP m0).length = sg.size by have := hcf.2.2 _ hmem; rw [hm0, HEnt.out, intsOf_length, Int.toNat_natCast] at this; omega)
        have HCOLF := Aside0.mk (show ∀ n ∈ col, 0 ≤ n ∧ n ≤ 4999 ∧ (numeralP n.toNat).length = sg.size from fun n hn => by have := hcf.2.2 n hn; rw [HEnt.out, intsOf_length] at this; exact this)
        have HCL := Aside0.mk hcf.1
        have HCL2 := Aside0.mk hcf.2.1
        have HROW := Aside0.mk hrow
        have HCELL := Aside0.mk (show w1.cell? ad5 = some (.int .i64 (m0 : Int)) from hcell0)
        have HCIN := Aside0.mk hcin
        have HCOL := Aside0.mk hcol
        have HJL := Aside0.mk (show j < (choL l).1.length by rw [HL.out]; exact hlt)
        clear hrow hcell0 hcin hcol hx00 hmem hm0 hcf
        clear hkd hsg hj hlt
        go_upto_region 9 with (fail)
        obtain ⟨cb, hcb⟩ : ∃ cb, cb = grownCap (wr.alloc (.cells #[.int .i64 kd, .string sg] 38)) sg.size 0 5 := ⟨_, rfl⟩
        obtain ⟨W2, hW2⟩ : ∃ W2, W2 = Lib.bytesWorld (wr.alloc (.cells #[.int .i64 kd, .string sg] 38)) 5 sg := ⟨_, rfl⟩
        rw [← hcb, ← hW2]
        obtain ⟨b, hb⟩ : ∃ b, b = wr.heap.size + 1 := ⟨_, rfl⟩
        have HBA := Aside0.mk (show BytesAt W2 b sg.size (fun k => (intsOf sg).getD k 0) by
          have := BytesAt.made (wr.alloc (.cells #[.int .i64 kd, .string sg] 38)) sg
          rw [hW2, hb]
          rwa [World.size_alloc] at this)
        have HB2 := Aside0.mk (show Below wr.heap.size wr W2 by rw [hW2]; exact bytesWorld_below (below_alloc (Below.refl _ _) _) (by simp) sg)
        have HBB := Aside0.mk (show wr.heap.size ≤ b by omega)
        rw [← hb]
        clear hx0 hx1 hd hdn hcb hW2 hb
        obtain ⟨Wi, rfl⟩ : ∃ Wi, Wi = wr := ⟨_, rfl⟩
        go_wp2_with (fail)
        go_loopw [10, 11, 12, 33, 34, 35, 36, 37, 38, 39, 40, 41, 42, 43, 44, 45, 46, 47, 48, 49, 50, 51, 52, 53, 54, 55, 56, 57, 58, 59, 60, 61, 62, 63, 64, 65, 66] (fun _ _ _ kv _ _ _ _ _ _ _ _ _ _ _ _ _ _ _ _ _ _ _ _ _ _ _ _ _ _ _ _ _ _ _ _ _ wr => ∃ k : Nat, k ≤ sg.size ∧ kv = .int .i64 (k : Int) ∧ Aside0 (BytesAt wr b sg.size (fun i => if i < k then printCell col i ((intsOf sg).getD i 0) else (intsOf sg).getD i 0)) ∧ Aside0 (Below Wi.heap.size Wi wr))
          (fun _ _ _ kv _ _ _ _ _ _ _ _ _ _ _ _ _ _ _ _ _ _ _ _ _ _ _ _ _ _ _ _ _ _ _ _ _ _ => sg.size - (intOf kv).toNat)
        case atStart => exact ⟨0, Nat.zero_le _, rfl, ⟨HBA.out.congr (fun i hi => by simp)⟩, HB2⟩
        case round =>
          clear HBA HB2
          obtain ⟨k, hk, rfl, HBA, HBI⟩ := hrel
          by_cases hlt : k < sg.size
          · have hd : decide ((k : Int) < (sg.size : Int)) = true := by simp; omega
            have hdn : decide (k < sg.size) = true := by simp; omega
            have HKT := Aside0.mk hlt
            have hk0 : (0 : Int) ≤ (k : Int) := by omega
            have hk1 : (k : Int) < (sg.size : Int) := by omega
            clear hlt hk
            go_upto_region 12 with (fail)
            obtain ⟨bk, hbk⟩ : ∃ bk, bk = wr.heap.size := ⟨_, rfl⟩
            obtain ⟨W3, hW3⟩ : ∃ W3, W3 = wr.alloc (.cells #[.int .i64 (k : Int)] 3) := ⟨_, rfl⟩
            have HK3 := Aside0.mk (show W3.heap[bk]? = some (.cells #[.int .i64 (k : Int)] 3 (0, 0)) by rw [hW3, hbk]; exact heap_alloc_new wr _)
            have HBA3 := Aside0.mk (HBA.out.below (show Below wr.heap.size wr W3 by rw [hW3]; exact below_alloc (Below.refl _ _) _))
            have HBI3 := Aside0.mk (show Below Wi.heap.size Wi W3 by rw [hW3]; exact below_alloc HBI.out _)
            rw [← hW3, ← hbk]
            have HB13 := Aside0.mk (show Below w1.heap.size w1 W3 from below_then HB.out HB.out.size HBI3.out)
            clear hW3 hbk HBA HBI hd hdn
            go_cut [11, 36, 37, 38, 39, 40, 41, 42, 43, 44] (fun v11 _ _ _ _ _ _ _ _ _ wc => ∃ bc : Nat, v11 = .pointer (some ⟨bc, 0, none⟩) ∧ Aside0 (wc.heap[bc]? = some (.cells #[.int .u8 (numAt (col.getD 0 0) k)] 5 (0, 0))) ∧ Aside0 (Below W3.heap.size W3 wc))
            case first =>
              have q0 : W3.drew.cell? (ad4.add j) = some (.slice (some ad5) col.length c') := (HB13.out.cell (World.block_lt_of_cell? w1 _ HROW.out)).trans HROW.out
              have q1 : W3.drew.cell? ad5 = some (.int .i64 (m0 : Int)) := (HB13.out.cell (World.block_lt_of_cell? w1 _ HCELL.out)).trans HCELL.out
              have q2 : W3.drew.cell? ⟨bk, 0, none⟩ = some (.int .i64 (k : Int)) := (blk_cell HK3.out 0).trans rfl
              have hix := fun w => index_num (m0 : Int) k (by rw [Int.toNat_natCast, HM4.out.2]; exact HKT.out) w
              rw [Int.toNat_natCast] at hix
              have hl0 : (0 : Int) < (col.length : Int) := by have := HCL.out; omega
              have hl1 : 0 < col.length := HCL.out
              have hjl : (j : Int) < ((choL l).1.length : Int) := by have := HJL.out; omega
              refine start_ (n := 11) (S := fun w' => w'.cell? (ad4.add j) = some (.slice (some ad5) col.length c') ∧ w'.cell? ad5 = some (.int .i64 (m0 : Int)) ∧ w'.cell? ⟨bk, 0, none⟩ = some (.int .i64 (k : Int))) (ds := [10]) (ba 11 0) (by kernel_rfl) rfl rfl ⟨q0, q1, q2⟩ (fun hHeld => ?_)
              refine with_tabW PrintR.tab12 PrintR.bits12 (fun HT_ HW_ => ?_)
              obtain ⟨wd, hwd⟩ : ∃ y_, y_ = W3.drew := ⟨_, rfl⟩
              have HBD := Aside0.mk (show Below W3.heap.size W3 wd by rw [hwd]; exact (Below.refl _ W3).drew)
              rw [← hwd] at hHeld ⊢
              clear hwd q0 q1 q2
              refine pur_ 0 36 (ba 11 1) HT_.out ?_
              refine pur_ 1 37 (ba 11 3) HT_.out ?_
              refine pur_ 2 38 (ba 11 7) HT_.out ?_
              refine tak_ 3 39 (ba 11 15) HT_.out HW_.out hHeld ?_
              refine pur_ 4 40 (ba 11 31) HT_.out ?_
              refine tak_ 5 41 (ba 11 63) HT_.out HW_.out hHeld ?_
              refine tak_ 7 43 (ba 11 191) HT_.out HW_.out hHeld ?_
              refine twos_ 6 9 42 11 (ba 11 255) (ba 11 703) HT_.out (fun K hK => ?_) (fun K hK => ?_)
              · refine goes_ Tryd.func51 (by kernel_rfl) rfl #[.int .i64 (m0 : Int)] (by rfl) rfl rfl (by (simp only [List.map_toArray, List.map_cons, List.map_nil]); rfl) ?_
                refine (numeral_calls m0 HM4.out.1 wd (HS.out.new (below_then HB1.out HB1.out.size (below_then HB13.out HB13.out.size HBD.out)))).mono ?_
                rintro e w4 ⟨rfl, hb4⟩
                refine ⟨_, rfl, ?_⟩
                have HB4 := Aside0.mk (below_then HBD.out HBD.out.size hb4)
                have g0 := (hb4.cell (World.block_lt_of_cell? _ _ hHeld.1)).trans hHeld.1
                have g1 := (hb4.cell (World.block_lt_of_cell? _ _ hHeld.2.1)).trans hHeld.2.1
                have g2 := (hb4.cell (World.block_lt_of_cell? _ _ hHeld.2.2)).trans hHeld.2.2
                refine hK.out _ _ ⟨g0, g1, g2⟩ (fun hHeld => ?_)
                clear hK K hb4 g0 g1 g2
                refine nrm_ ?_
                refine pur_ 8 44 (ba 11 511) HT_.out ?_ (v := .int .u8 (numAt (m0 : Int) k)) (hv := by intro w2; go_simp)
                refine on_ 9 (some 11) (ba 11 1023) HT_.out (fun K hK => ?_)
                obtain ⟨bc, hbc⟩ : ∃ bc, bc = w4.heap.size := ⟨_, rfl⟩
                refine value_ (w1 := w4.alloc (.cells #[.int .u8 0] 5)) (v := .pointer (some ⟨bc, 0, none⟩)) (by rfl) rfl ?_ ?_
                · rw [hbc]
                  first | (go_simp; done) | (go_simp; rfl)
                obtain ⟨w5, hw5⟩ : ∃ w5, w5 = w4.alloc (.cells #[.int .u8 0] 5) := ⟨_, rfl⟩
                have hX := heap_alloc_new w4 (.cells #[.int .u8 0] 5)
                have hb5 : Below w4.heap.size w4 w5 := by rw [hw5]; exact below_alloc (Below.refl _ _) _
                rw [← hw5, ← hbc] at hX
                rw [← hw5]
                have HB5 := Aside0.mk (below_then HB4.out HB4.out.size hb5)
                have HBCL := Aside0.mk (show W3.heap.size ≤ bc by rw [hbc]; exact HB4.out.size)
                have g0 := (hb5.cell (World.block_lt_of_cell? _ _ hHeld.1)).trans hHeld.1
                have g1 := (hb5.cell (World.block_lt_of_cell? _ _ hHeld.2.1)).trans hHeld.2.1
                have g2 := (hb5.cell (World.block_lt_of_cell? _ _ hHeld.2.2)).trans hHeld.2.2
                refine hK.out _ _ ⟨g0, g1, g2⟩ (fun hHeld => ?_)
                clear hK K hb5 g0 g1 g2 hw5 hbc
                refine nrm_ ?_
                refine las_ 10 none (ba 11 2047) HT_.out (fun K hK => ?_)
                have hu : w5.cell? ⟨bc, 0, none⟩ = some (.int .u8 0) := (blk_cell hX 0).trans rfl
                have hf := blk_frozen hX 0
                have hlt5 := blk_lt hX
                refine skip_ (w1 := w5.setCell ⟨bc, 0, none⟩ (.int .u8 (numAt (m0 : Int) k))) (by rfl) rfl ?_ ?_
                · first | (go_simp; done) | (go_simp; rfl)
                refine hK.out _ _ ?_
                clear hK K
                refine don_ HT_.out ?_
                have hX6 := Aside0.mk (blk_set hX 0 (.int .u8 (numAt (m0 : Int) k)))
                have HB6 := Aside0.mk (HB5.out.setCell (p := ⟨bc, 0, none⟩) HBCL.out (.int .u8 (numAt (m0 : Int) k)))
                obtain ⟨w6, hw6⟩ : ∃ w6, w6 = w5.setCell ⟨bc, 0, none⟩ (.int .u8 (numAt (m0 : Int) k)) := ⟨_, rfl⟩
                rw [← hw6] at hX6 HB6 ⊢
                clear hw6 hX hu hf hlt5 hHeld
                go_wp2
                go_meet
                case rel => exact ⟨bc, rfl, ⟨by rw [HM0.out]; exact hX6.out⟩, HB6⟩
              · refine value_ (w1 := wd.alloc (.cells #[.int .u8 0] 5)) (v := .pointer (some ⟨wd.heap.size, 0, none⟩)) (by rfl) rfl ?_ ?_
                · first | (go_simp; done) | (go_simp; rfl)
                obtain ⟨bc, hbc⟩ : ∃ bc, bc = wd.heap.size := ⟨_, rfl⟩
                obtain ⟨w4, hw4⟩ : ∃ w4, w4 = wd.alloc (.cells #[.int .u8 0] 5) := ⟨_, rfl⟩
                have hX := heap_alloc_new wd (.cells #[.int .u8 0] 5)
                have hb4 : Below wd.heap.size wd w4 := by rw [hw4]; exact below_alloc (Below.refl _ _) _
                rw [← hw4, ← hbc] at hX
                rw [← hw4, ← hbc]
                have HB4 := Aside0.mk (below_then HBD.out HBD.out.size hb4)
                have HBCL := Aside0.mk (show W3.heap.size ≤ bc by rw [hbc]; exact HBD.out.size)
                have g0 := (hb4.cell (World.block_lt_of_cell? _ _ hHeld.1)).trans hHeld.1
                have g1 := (hb4.cell (World.block_lt_of_cell? _ _ hHeld.2.1)).trans hHeld.2.1
                have g2 := (hb4.cell (World.block_lt_of_cell? _ _ hHeld.2.2)).trans hHeld.2.2
                refine hK.out _ _ ⟨g0, g1, g2⟩ (fun hHeld => ?_)
                clear hK K hb4 g0 g1 g2 hw4 hbc
                refine nrm_ ?_
                refine on_ 6 (some 42) (ba 11 767) HT_.out (fun K hK => ?_)
                refine goes_ Tryd.func51 (by kernel_rfl) rfl #[.int .i64 (m0 : Int)] (by rfl) rfl rfl (by (simp only [List.map_toArray, List.map_cons, List.map_nil]); rfl) ?_
                refine (numeral_calls m0 HM4.out.1 w4 (HS.out.new (below_then HB1.out HB1.out.size (below_then HB13.out HB13.out.size HB4.out)))).mono ?_
                rintro e w5 ⟨rfl, hb5⟩
                refine ⟨_, rfl, ?_⟩
                have HB5 := Aside0.mk (below_then HB4.out HB4.out.size hb5)
                replace hX := blk_below hX hb5
                have g0 := (hb5.cell (World.block_lt_of_cell? _ _ hHeld.1)).trans hHeld.1
                have g1 := (hb5.cell (World.block_lt_of_cell? _ _ hHeld.2.1)).trans hHeld.2.1
                have g2 := (hb5.cell (World.block_lt_of_cell? _ _ hHeld.2.2)).trans hHeld.2.2
                refine hK.out _ _ ⟨g0, g1, g2⟩ (fun hHeld => ?_)
                clear hK K hb5 g0 g1 g2
                refine nrm_ ?_
                refine pur_ 8 44 (ba 11 1023) HT_.out ?_ (v := .int .u8 (numAt (m0 : Int) k)) (hv := by intro w2; go_simp)
                refine las_ 10 none (ba 11 2047) HT_.out (fun K hK => ?_)
                have hu : w5.cell? ⟨bc, 0, none⟩ = some (.int .u8 0) := (blk_cell hX 0).trans rfl
                have hf := blk_frozen hX 0
                have hlt5 := blk_lt hX
                refine skip_ (w1 := w5.setCell ⟨bc, 0, none⟩ (.int .u8 (numAt (m0 : Int) k))) (by rfl) rfl ?_ ?_
                · first | (go_simp; done) | (go_simp; rfl)
                refine hK.out _ _ ?_
                clear hK K
                refine don_ HT_.out ?_
                have hX6 := Aside0.mk (blk_set hX 0 (.int .u8 (numAt (m0 : Int) k)))
                have HB6 := Aside0.mk (HB5.out.setCell (p := ⟨bc, 0, none⟩) HBCL.out (.int .u8 (numAt (m0 : Int) k)))
                obtain ⟨w6, hw6⟩ : ∃ w6, w6 = w5.setCell ⟨bc, 0, none⟩ (.int .u8 (numAt (m0 : Int) k)) := ⟨_, rfl⟩
                rw [← hw6] at hX6 HB6 ⊢
                clear hw6 hX hu hf hlt5 hHeld
                go_wp2
                go_meet
                case rel => exact ⟨bc, rfl, ⟨by rw [HM0.out]; exact hX6.out⟩, HB6⟩
            case rest =>
              obtain ⟨bc, rfl, HX, HBC⟩ := hcut
              obtain ⟨y, hy⟩ : ∃ y, y = numAt (col.getD 0 0) k := ⟨_, rfl⟩
              rw [← hy] at HX
              have HY := Aside0.mk hy
              have HYR := Aside0.mk (show (y - 65 + 97) % 256 = y + 32 by
                have := num_range (m0 : Int) k (by rw [Int.toNat_natCast, HM4.out.2]; exact HKT.out)
                rw [← HM0.out, ← hy] at this
                omega)
              obtain ⟨ob, hob⟩ : ∃ ob, ob = otherAt col k y := ⟨_, rfl⟩
              have HSA := Aside0.mk (show sameAt col k = !ob by rw [hob, hy]; rfl)
              have HB1C := Aside0.mk (below_then HB13.out HB13.out.size HBC.out)
              have HKC := Aside0.mk (blk_below HK3.out HBC.out)
              have HBAC := Aside0.mk (HBA3.out.below HBC.out)
              have HBIC := Aside0.mk (below_then HBI3.out HBI3.out.size HBC.out)
              have HP := Aside0.mk (containsFunc_calls col k y (fun n hn => by have := HCOLF.out n hn; exact ⟨this.1, this.2.1, by rw [this.2.2]; exact HKT.out⟩) HCL2.out (some ad5) c' bk bc wc (HS.out.new (below_then HB1.out HB1.out.size HB1C.out)) (Kd.C_below HCIN.out HB1C.out) HKC.out HX.out)
              rw [← hob] at HP
              clear hy hob
              have q0 : wc.cell? (ad4.add j) = some (.slice (some ad5) col.length c') := (HB1C.out.cell (World.block_lt_of_cell? w1 _ HROW.out)).trans HROW.out
              have hjl : (j : Int) < ((choL l).1.length : Int) := by have := HJL.out; omega
              clear HBA3 HBI3 HB13 HK3
              go_upto_region 14 with (go_at_call 52; refine HP.out.mono ?_; rintro e w7 ⟨rfl, hb7⟩; have HB7 := Aside0.mk hb7; clear hb7)
              clear q0
              have HX7 := Aside0.mk (blk_below HX.out HB7.out)
              have HK7 := Aside0.mk (blk_below HKC.out HB7.out)
              have HBA7 := Aside0.mk (HBAC.out.below HB7.out)
              have HBI7 := Aside0.mk (below_then HBIC.out HBIC.out.size HB7.out)
              have HBCK := Aside0.mk (show bk ≠ b ∧ bc ≠ b from by
                obtain ⟨vs, m, z1, z2⟩ := HBA7.out
                refine ⟨fun e => ?_, fun e => ?_⟩
                · have h1 := HK7.out
                  rw [e, z1] at h1
                  injection h1 with h1
                  injection h1 with _ _ h1
                  simp at h1
                · have h1 := HX7.out
                  rw [e, z1] at h1
                  injection h1 with h1
                  injection h1 with _ _ h1
                  simp at h1)
              clear HX HKC HBAC HBIC HP HBC HB1C
              obtain ⟨x, hx⟩ : ∃ x, x = (intsOf sg).getD k 0 := ⟨_, rfl⟩
              have hck : w7.cell? ⟨bk, 0, none⟩ = some (.int .i64 (k : Int)) := (blk_cell HK7.out 0).trans rfl
              have hcc : w7.cell? ⟨bc, 0, none⟩ = some (.int .u8 y) := (blk_cell HX7.out 0).trans rfl
              have hcb : w7.cell? ⟨b, k, none⟩ = some (.int .u8 x) := by
                have := HBA7.out.cell HKT.out
                rw [if_neg (Nat.lt_irrefl _)] at this
                rw [hx]
                exact this
              have hfb := HBA7.out.frozen HKT.out
              have hlb := HBA7.out.lt
              have HXE := Aside0.mk hx
              clear hx
              by_cases hq : x = 63
              · subst hq
                cases ob with
                | false =>
                  go_wp2_with (fail)
                  rw [HYR.out]
                  have hset := Aside0.mk ((HBA7.out.set HKT.out (y + 32)).congr (g := fun i => if i < k + 1 then printCell col i ((intsOf sg).getD i 0) else (intsOf sg).getD i 0) fun i hi => by
                    try dsimp only
                    by_cases hik : i = k
                    · subst hik
                      rw [if_pos rfl, if_pos (Nat.lt_succ_self _), ← HXE.out, printCell, if_pos ⟨rfl, by rw [HSA.out]; rfl⟩, HY.out]
                    · rw [if_neg hik]
                      by_cases hlt : i < k
                      · rw [if_pos hlt, if_pos (by omega)]
                      · rw [if_neg hlt, if_neg (by omega)])
                  go_roundw
                  case rel => exact ⟨k + 1, HKT.out, by rw [w_up HKT.out (by have := HSG.out; omega)], hset, ⟨HBI7.out.setCell (p := ⟨b, k, none⟩) HBB.out _⟩⟩
                  case measure => exact meas_up HKT.out (by have := HSG.out; omega)
                | true =>
                  have hset := Aside0.mk (HBA7.out.congr (g := fun i => if i < k + 1 then printCell col i ((intsOf sg).getD i 0) else (intsOf sg).getD i 0) fun i hi => by
                    try dsimp only
                    by_cases hik : i = k
                    · subst hik
                      rw [if_neg (Nat.lt_irrefl _), if_pos (Nat.lt_succ_self _), printCell, if_neg (fun h => by rw [HSA.out] at h; exact absurd h.2 (by decide))]
                    · by_cases hlt : i < k
                      · rw [if_pos hlt, if_pos (by omega)]
                      · rw [if_neg hlt, if_neg (by omega)])
                  go_wp2_with (fail)
                  go_roundw
                  case rel => exact ⟨k + 1, HKT.out, by rw [w_up HKT.out (by have := HSG.out; omega)], hset, HBI7⟩
                  case measure => exact meas_up HKT.out (by have := HSG.out; omega)
              · have hqb : (x == 63) = false := by simp [hq]
                have HQ := Aside0.mk hq
                have hset := Aside0.mk (HBA7.out.congr (g := fun i => if i < k + 1 then printCell col i ((intsOf sg).getD i 0) else (intsOf sg).getD i 0) fun i hi => by
                    try dsimp only
                    by_cases hik : i = k
                    · subst hik
                      rw [if_neg (Nat.lt_irrefl _), if_pos (Nat.lt_succ_self _), printCell, if_neg (fun h => by rw [← HXE.out] at h; exact HQ.out h.1)]
                    · by_cases hlt : i < k
                      · rw [if_pos hlt, if_pos (by omega)]
                      · rw [if_neg hlt, if_neg (by omega)])
                clear hq
                go_wp2_with (fail)
                go_roundw
                case rel => exact ⟨k + 1, HKT.out, by rw [w_up HKT.out (by have := HSG.out; omega)], hset, HBI7⟩
                case measure => exact meas_up HKT.out (by have := HSG.out; omega)
          · obtain rfl : k = sg.size := by omega
            have hd : decide ((sg.size : Int) < (sg.size : Int)) = false := by simp
            have hdn : decide (sg.size < sg.size) = false := by simp
            have hrow := Aside0.mk (show (printRow col (intsOf sg)).length = sg.size by unfold printRow; rw [List.length_map, List.length_range, intsOf_length])
            obtain ⟨Tx, hTx⟩ : ∃ Tx, Tx = strOf (printRow col (intsOf sg)) := ⟨_, rfl⟩
            have hbk : (convert 41 9 (.slice (some ⟨b, 0, none⟩) sg.size cb)).run Tryd.prog wr = .ok (.string Tx) wr := by
              have := BytesAt.back (L := printRow col (intsOf sg)) (b := b) (W := wr) (by rw [hrow.out]; exact HBA.out) (fun i hi => by
                rw [hrow.out] at hi
                rw [if_pos hi]
                unfold printRow
                rw [intsOf_length]
                simp [List.getD_eq_getElem?_getD, hi]) (fun c hc => by
                obtain ⟨i, hi, rfl⟩ := List.mem_map.1 hc
                rw [List.mem_range, intsOf_length] at hi
                have hi2 : (intsOf sg).getD i 0 = ((sg[i]'hi).toNat : Int) := by
                  rw [List.getD_eq_getElem?_getD, ints_get hi]
                  rfl
                have h255 := (sg[i]'hi).toNat_lt
                unfold printCell
                split
                · have := num_range (col.getD 0 0) i (by rw [HM0.out, Int.toNat_natCast, HM4.out.2]; exact hi)
                  omega
                · rw [hi2]
                  omega) cb
              rw [hrow.out, ← hTx] at this
              exact this
            have HTX := Aside0.mk hTx
            clear hTx
            clear hlt hk
            obtain ⟨W9, rfl⟩ : ∃ W9, W9 = wr := ⟨_, rfl⟩
            go_upto_region 18 with (at_builtin; refine Kd.R_append_row Value.string ByteArray.empty (w0 := w1) w1.heap.size rfl (.tmp 67) (.tmp 70) 28 9 (.string ⟨#[]⟩) 16 rfl Tryd.underlying28 (by kernel_rfl) rfl (by decide) u6 ((List.range j).map (fun i => strOf (printRow ((choL l).1.getD i []) (entAt l i).signs))) [Tx] (some ⟨W9.heap.size, 0, none⟩) 1 1 (fun _ => True) rfl rfl (fun _ _ => trivial) (Kd.R_below HO.out (below_alloc HBI.out _)) (one_CS ((World.cell?_alloc_at _ _ _ _ rfl).trans rfl)) (below_alloc (below_then HB.out HB.out.size HBI.out) _) (by have := (below_then HB.out HB.out.size HBI.out).size; simp; omega) (by have := HLT.out; have := H8.out; simp; omega) ?_; intro v1 w10 r10 b10 g10 at10)
            have HR9 := Aside0.mk (show Kd.R Kd.string 9 w10 w1.heap.size (fun _ => True) v1 ((List.range (j + 1)).map (fun i => strOf (printRow ((choL l).1.getD i []) (entAt l i).signs))) from by
              rw [List.range_succ, List.map_append, List.map_singleton, ← HCOL.out, HEnt.out, ← HTX.out]
              exact r10)
            have HB9 := Aside0.mk b10
            clear r10 b10 g10 at10 hbk hd hdn
            go_wp2_with (fail)
            go_roundw
            case rel => exact ⟨j + 1, HLT.out, by rw [w_up HLT.out (by have := H8.out; omega)], HR9, HB9⟩
            case measure => exact meas_up HLT.out (by have := H8.out; omega)
      · obtain rfl : j = l.length := by omega
        have hd : decide ((l.length : Int) < (l.length : Int)) = false := by simp
        have hdn : decide (l.length < l.length) = false := by simp
        clear hj hlt
        go_wp2_with (fail)
        rw [printL, if_pos H0.out]
        refine bodyPost_ret (results_tmp2 rfl _ _ _) rfl ?_
        exact ⟨_, rfl, Kd.R_lower HO.out HB1.out.size, below_then HB1.out HB1.out.size HB.out⟩
  · have hne : (ck != 0) = true := by simp [h0]
    have H0 := Aside0.mk (show ¬ (choL l).2 = 0 by rw [← hck]; exact h0)
    clear h0
    go_wp2_with (go_at_call 15; refine HC.out.mono ?_; rintro e w1 ⟨v, rfl, hs1, hb1⟩; have HB1 := Aside0.mk hb1; clear hs1 hb1)
    rw [printL, if_neg H0.out, ← hck]
    refine bodyPost_ret (results_tmp2 rfl _ _ _) rfl ?_
    exact ⟨_, rfl, Kd.R_nil _ _ _ _ _, HB1.out⟩
end Go.Proofs.YtgfikondoehblaaDoor.Pr
end
section
namespace Go.Proofs.YtgfikondoehblaaDoor.Pr
open Go.RowKit Go.Shelf Go.Proofs.YtgfikondoehblaaDoorW.PrintWords Go.Proofs.YtgfikondoehblaaDoorW.PrintLast Go.Proofs.YtgfikondoehblaaDoorW.PrintMore Go.Proofs.SumKeep
open SumPlain (Ent AccSo SignSo KindOk lostSum lostP numeralP maysP stepS stepW)
theorem R_turn {α : Type} {d : Kd α} {e base g : Nat} {w w1 : World} {v : Value} {xs : List α} (h : d.R e w base (fun _ => True) v xs) (ht : Turns (fun k => k = g ∨ w.heap.size ≤ k) w w1) (hg : g < base) : d.R e w1 base (fun _ => True) v xs :=
  Kd.R_mono (Kd.R_step (Kd.R_bound h) (fun k hk hlt => ht.block k hlt (fun e => by rcases e with rfl | e; (have := hk.2.1; omega); omega))) (fun _ _ => trivial)
theorem R_urn {α : Type} {d : Kd α} {e base g : Nat} {w w1 : World} {v : Value} {xs : List α} (h : d.R e w base (fun _ => True) v xs) (ht : UrnT g w w1) (hg : g < base) : d.R e w1 base (fun _ => True) v xs := R_turn h (ht.mono (fun _ _ => .inl)) hg
structure AccAt (w : World) (g E lost0 : Nat) (cnt d : Nat) (xs : List S38) (vals : List Int) (sum whole : Int) (v10 v11 : Value) (wr : World) : Prop where
  many : cnt + xs.length = E
  le8 : E ≤ 8
  so : AccSo (xs.map toEnt) vals sum whole
  lost : lostSum (xs.map toEnt) + d ≤ lost0
  l5 : lost0 ≤ 5
  r10 : Kd.R k38 38 wr w.heap.size (fun _ => True) v10 xs
  r11 : Kd.R (Kd.int .i64) 3 wr w.heap.size (fun _ => True) v11 vals
  urn : UrnAt wr g
  turn : UrnT g w wr
  lt : g < w.heap.size
theorem AccAt.next {w : World} {g E lost0 cnt d : Nat} {xs : List S38} {vals : List Int} {sum whole : Int} {v10 v11 : Value} {wr w' : World} (h : AccAt w g E lost0 cnt d xs vals sum whole v10 v11 wr) (hu : UrnAt w' g) (ht : UrnT g wr w') : AccAt w g E lost0 cnt d xs vals sum whole v10 v11 w' :=
  ⟨h.many, h.le8, h.so, h.lost, h.l5, R_urn h.r10 ht h.lt, R_urn h.r11 ht h.lt, hu, h.turn.trans ht, h.lt⟩
theorem AccAt.next2 {w : World} {g E lost0 cnt d : Nat} {xs : List S38} {vals : List Int} {sum whole : Int} {v10 v11 : Value} {wr w' : World} (h : AccAt w g E lost0 cnt d xs vals sum whole v10 v11 wr) (hu : UrnAt w' g) (ht : Turns (fun k => k = g ∨ wr.heap.size ≤ k) wr w') : AccAt w g E lost0 cnt d xs vals sum whole v10 v11 w' :=
  ⟨h.many, h.le8, h.so, h.lost, h.l5, R_turn h.r10 ht h.lt, R_turn h.r11 ht h.lt, hu, h.turn.then ht (fun i hi e => by rcases e with e | e; exact e; have := h.turn.size; omega), h.lt⟩
theorem AccAt.alloc {w : World} {g E lost0 cnt d : Nat} {xs : List S38} {vals : List Int} {sum whole : Int} {v10 v11 : Value} {wr : World} (h : AccAt w g E lost0 cnt d xs vals sum whole v10 v11 wr) (o : Obj) : AccAt w g E lost0 cnt d xs vals sum whole v10 v11 (wr.alloc o) :=
  ⟨h.many, h.le8, h.so, h.lost, h.l5, Kd.R_alloc h.r10 o, Kd.R_alloc h.r11 o, h.urn.below (below_alloc (Below.refl _ _) o), h.turn.alloc o, h.lt⟩
theorem any3_calls (g : Nat) (a b c : Int) (w : World) (hU : UrnAt w g) : Calls Tryd.prog 49 #[.pointer (some ⟨g, 0, none⟩), .slice (some ⟨w.heap.size, 0, none⟩) 3 3] (w.alloc (.cells #[.int .i64 a, .int .i64 b, .int .i64 c] 3)) fun e w' => (∃ v, e = .returned (.int .i64 v) ∧ v ∈ [a, b, c]) ∧ UrnAt w' g ∧ UrnT g (w.alloc (.cells #[.int .i64 a, .int .i64 b, .int .i64 c] 3)) w' :=
  any_calls g [a, b, c] (by simp) (some ⟨w.heap.size, 0, none⟩) 3 _ (hU.below (below_alloc (Below.refl _ _) _)) (C_lit (enc := fun n : Int => Value.int .i64 n) [a, b, c] _ w.heap.size 3 (heap_alloc_new w _) (by simp)) (fun ad e => by cases e; have := hU.lt; show w.heap.size ≠ g; omega)
theorem BytesAt.turn {W W' : World} {b n g : Nat} {f : Nat → Int} (h : BytesAt W b n f) (ht : UrnT g W W') (hne : g ≠ b) : BytesAt W' b n f := by
  have hlt := h.lt
  obtain ⟨vs, m, h1, h2⟩ := h
  exact ⟨vs, m, (ht.block b hlt (fun e => hne e.symm)).trans h1, h2⟩
theorem BytesAt.grown {W W' : World} {b n : Nat} {f : Nat → Int} {row : Option Nat} (h : BytesAt W b n f) (hg : W.grownBy W' row) (hne : some b ≠ row) : BytesAt W' b n f := by
  have hlt := h.lt
  obtain ⟨vs, m, h1, h2⟩ := h
  exact ⟨vs, m, (hg.block b hlt hne).trans h1, h2⟩
theorem numeral_bytes (n : Nat) : ∀ c ∈ numeralP n, 0 ≤ c ∧ c < 256 := fun c hc => by
  have h1 := SumPlain.numGo_mem SumPlain.signsP n c hc
  have : ∀ x ∈ SumPlain.signsP.map (·.1), (0 : Int) ≤ x ∧ x < 256 := by decide
  exact this c h1
def PickOk (kd n sum whole : Int) (item : Int) : Prop := (kd = 1 ∧ 1 ≤ n ∧ n ≤ max 40 item) ∨ (kd = 2 ∧ n = sum ∧ 0 < sum) ∨ (kd = 3 ∧ n = whole ∧ 0 < whole)
set_option maxRecDepth 100000 in
set_option maxHeartbeats 8000000 in
theorem accountOf_calls (g : Nat) (entries item lost : Int) (he : 1 ≤ entries ∧ entries ≤ 8) (hi : 1 ≤ item ∧ item ≤ 4999) (hl : 0 ≤ lost ∧ lost ≤ 5) (w : World) (hU : UrnAt w g) :
    Calls Tryd.prog 13 #[.pointer (some ⟨g, 0, none⟩), .int .i64 entries, .int .i64 item, .int .i64 lost] w fun e w' => ∃ (v10 v11 : Value) (xs : List S38) (vals : List Int) (sum whole : Int),
      e = .returned (.tuple #[v10, v11]) ∧ (1 ≤ xs.length ∧ xs.length ≤ entries.toNat) ∧ AccSo (xs.map toEnt) vals sum whole ∧ lostSum (xs.map toEnt) ≤ lost.toNat ∧
      Kd.R k38 38 w' w.heap.size (fun _ => True) v10 xs ∧ Kd.R (Kd.int .i64) 3 w' w.heap.size (fun _ => True) v11 vals ∧ UrnAt w' g ∧ UrnT g w w' := by
  have HU := Aside0.mk hU
  have HLT := Aside0.mk hU.lt
  have HE := Aside0.mk he
  have HI := Aside0.mk hi
  have HL := Aside0.mk hl
  have hw1 : wrap64 (lost + 1) = lost + 1 := by unfold wrap64; omega
  clear hU he hi hl
  have hcv : ∀ (W : World) (s : ByteArray), (convert 9 41 (.string s)).run Tryd.prog W = .ok (.slice (some ⟨W.heap.size, 0, none⟩) s.size (grownCap W s.size 0 5)) (Lib.bytesWorld W 5 s) := fun W s => Lib.run_convert_string_bytes W _ _ _ s Tryd.underlying9 Tryd.underlying41 Tryd.underlying5
  go_enter Tryd.func13, Tryd.ntmps13
  go_wp2_with (first
    | (go_at_call 18; with_reducible refine (up_calls g (lost + 1) (by have := HL.out; omega) w HU.out).mono ?_; rintro e w1 ⟨⟨d0, rfl, hd0, hd1⟩, hu, ht⟩; have HU1 := Aside0.mk hu; have HT1 := Aside0.mk ht; have HD := Aside0.mk (And.intro hd0 hd1); clear hu ht hd0 hd1)
    | (go_at_call 25; with_reducible refine (from_calls g 1 entries (by have := HE.out; omega) w1 HU1.out).mono ?_; rintro e w2 ⟨⟨c0, rfl, hc0, hc1⟩, hu, ht⟩; have HU2 := Aside0.mk hu; have HT2 := Aside0.mk (HT1.out.trans ht); have HC := Aside0.mk (And.intro hc0 hc1); clear hu ht hc0 hc1))
  obtain ⟨E, rfl⟩ : ∃ E : Nat, c0 = (E : Int) := ⟨c0.toNat, by have := HC.out; omega⟩
  obtain ⟨D, rfl⟩ : ∃ D : Nat, d0 = (D : Int) := ⟨d0.toNat, by have := HD.out; omega⟩
  obtain ⟨L0, rfl⟩ : ∃ L0 : Nat, lost = (L0 : Int) := ⟨lost.toNat, by have := HL.out; omega⟩
  go_loopw [3, 10, 11, 12, 13, 14, 15, 16, 17, 18, 26, 27, 28, 29, 30, 31, 32, 33, 34, 35, 36, 37, 38, 39, 40, 41, 42, 43, 44, 45, 46, 47, 48, 49, 50, 51, 52, 53, 54, 55, 56, 57, 58, 59, 60, 61, 62, 63, 64, 65, 66, 67, 68, 69, 70, 71, 72, 73, 74, 75, 76, 77, 78, 79, 80, 81, 82, 83, 84, 85, 86, 87, 88, 89, 90, 91, 92, 93, 94, 95, 96, 97, 98, 99, 100, 101, 102, 103, 104, 105, 106, 107] (fun v3 v10 v11 v12 v13 v14 _ _ _ _ _ _ _ _ _ _ _ _ _ _ _ _ _ _ _ _ _ _ _ _ _ _ _ _ _ _ _ _ _ _ _ _ _ _ _ _ _ _ _ _ _ _ _ _ _ _ _ _ _ _ _ _ _ _ _ _ _ _ _ _ _ _ _ _ _ _ _ _ _ _ _ _ _ _ _ _ _ _ _ _ _ _ wr => ∃ (cnt d : Nat) (xs : List S38) (vals : List Int) (sum whole : Int), v14 = .int .i64 (cnt : Int) ∧ v3 = .int .i64 (d : Int) ∧ v12 = .int .i64 sum ∧ v13 = .int .i64 whole ∧ Aside0 (AccAt w g E L0 cnt d xs vals sum whole v10 v11 wr))
    (fun _ _ _ _ _ v14 _ _ _ _ _ _ _ _ _ _ _ _ _ _ _ _ _ _ _ _ _ _ _ _ _ _ _ _ _ _ _ _ _ _ _ _ _ _ _ _ _ _ _ _ _ _ _ _ _ _ _ _ _ _ _ _ _ _ _ _ _ _ _ _ _ _ _ _ _ _ _ _ _ _ _ _ _ _ _ _ _ _ _ _ _ _ _ => (intOf v14).toNat)
  case atStart => exact ⟨E, D, [], [], 0, 0, rfl, rfl, rfl, rfl, ⟨⟨by simp, by have := HC.out; have := HE.out; omega, AccSo.nil, by have := HD.out; simp [lostSum]; omega, by have := HL.out; omega, Kd.R_nil _ _ _ _ _, Kd.R_nil _ _ _ _ _, HU2.out, HT2.out, HLT.out⟩⟩⟩
  case round =>
    obtain ⟨cnt, d, xs, vals, sum, whole, rfl, rfl, rfl, rfl, HA⟩ := hrel
    by_cases hlt : 0 < cnt
    · have hd1 : decide (0 < cnt) = true := decide_eq_true hlt
      have hd2 : decide ((cnt : Int) > 0) = true := by simp; omega
      have HLT2 := Aside0.mk hlt
      clear hlt HU1 HU2 HT1 HT2
      go_upto_region 8 with (fail)
      go_cut [15, 16] (fun v15 v16 wc => v15 = .int .i64 1 ∧ ∃ n : Int, v16 = .int .i64 n ∧ 1 ≤ n ∧ n ≤ max 40 item ∧ Aside0 (AccAt w g E L0 cnt d xs vals sum whole u10 u11 wc))
      case first =>
        go_wp2_with (first
          | (go_at_call 25; with_reducible refine (from_calls g 1 9 (by omega) wr HA.out.urn).mono ?_; rintro e w3 ⟨⟨p1, rfl, h1a, h1b⟩, hu, ht⟩; have HA3 := Aside0.mk (HA.out.next hu ht); have H1 := Aside0.mk (And.intro h1a h1b); clear hu ht h1a h1b)
          | (go_at_call 25; with_reducible refine (from_calls g 1 40 (by omega) w3 HA3.out.urn).mono ?_; rintro e w4 ⟨⟨p2, rfl, h1a, h1b⟩, hu, ht⟩; have HA4 := Aside0.mk (HA3.out.next hu ht); have H2 := Aside0.mk (And.intro h1a h1b); clear hu ht h1a h1b)
          | (go_at_call 25; with_reducible refine (from_calls g 1 item (by have := HI.out; omega) w4 HA4.out.urn).mono ?_; rintro e w5 ⟨⟨p3, rfl, h1a, h1b⟩, hu, ht⟩; have HA5 := Aside0.mk (HA4.out.next hu ht); have H3 := Aside0.mk (And.intro h1a h1b); clear hu ht h1a h1b)
          | (go_at_call 49; with_reducible refine (any3_calls g p1 p2 p3 w5 HA5.out.urn).mono ?_; rintro e w6 ⟨⟨n, rfl, hn⟩, hu, ht⟩; have HA6 := Aside0.mk ((HA5.out.alloc (.cells #[.int .i64 p1, .int .i64 p2, .int .i64 p3] 3)).next hu ht); have HN := Aside0.mk hn; clear hu ht hn))
        go_meet
        case rel =>
          refine ⟨rfl, n, rfl, ?_, ?_, HA6⟩
          · have h := HN.out
            have := H1.out
            have := H2.out
            have := H3.out
            simp only [List.mem_cons, List.not_mem_nil, or_false] at h
            rcases h with h | h | h <;> omega
          · have h := HN.out
            have := H1.out
            have := H2.out
            have := H3.out
            simp only [List.mem_cons, List.not_mem_nil, or_false] at h
            rcases h with h | h | h <;> omega
      case rest =>
        obtain ⟨rfl, n, rfl, hn1, hn2, HA2⟩ := hcut
        have HN := Aside0.mk (And.intro hn1 hn2)
        clear HA hn1 hn2
        go_upto_region 9 with (fail)
        go_cut [45] (fun v45 wc => ∃ b : Bool, v45 = .bool b ∧ (b = true → 0 < sum) ∧ Aside0 (AccAt w g E L0 cnt d xs vals sum whole u10 u11 wc))
        case first =>
          by_cases hs : 0 < sum
          · have c1 : decide (sum > 0) = true := decide_eq_true hs
            have HS := Aside0.mk hs
            clear hs
            go_wp2_with (go_at_call 26; with_reducible refine (odds_calls g 2 5 (by omega) wc HA2.out.urn).mono ?_; rintro e w3 ⟨⟨b, rfl⟩, hu, ht⟩; have HA3 := Aside0.mk (HA2.out.next hu ht); clear hu ht)
            go_meet
            case rel => exact ⟨b, rfl, fun _ => HS.out, HA3⟩
          · have c1 : decide (sum > 0) = false := decide_eq_false hs
            clear hs
            go_wp2_with (fail)
            go_meet
            case rel => exact ⟨false, rfl, (fun h => by cases h), HA2⟩
        case rest =>
          obtain ⟨b, rfl, hb, HA3⟩ := hcut
          have HSB := Aside0.mk hb
          clear HA2 hb
          go_upto_if 45 with (fail)
          go_cut [15, 16] (fun v15 v16 wc => ∃ kd n : Int, v15 = .int .i64 kd ∧ v16 = .int .i64 n ∧ Aside0 (PickOk kd n sum whole item) ∧ Aside0 (AccAt w g E L0 cnt d xs vals sum whole u10 u11 wc))
          case first =>
            cases b with
            | true =>
              go_wp2_with (fail)
              go_meet
              case rel => exact ⟨_, _, rfl, rfl, ⟨.inr (.inl ⟨rfl, rfl, (by have h := HSB.out; simpa using h)⟩)⟩, HA3⟩
            | false =>
              go_wp2_with (fail)
              go_meet
              case rel => exact ⟨_, _, rfl, rfl, ⟨.inl ⟨rfl, HN.out⟩⟩, HA3⟩
          case rest =>
            clear HA3 HSB HN
            obtain ⟨kd, n, rfl, rfl, HP, HA4⟩ := hcut
            go_upto_region 11 with (fail)
            go_cut [52] (fun v52 wc => ∃ b : Bool, v52 = .bool b ∧ (b = true → 0 < whole) ∧ Aside0 (AccAt w g E L0 cnt d xs vals sum whole u10 u11 wc))
            case first =>
              by_cases hs : 0 < whole
              · have c1 : decide (whole > 0) = true := decide_eq_true hs
                have HS := Aside0.mk hs
                clear hs
                go_wp2_with (go_at_call 26; with_reducible refine (odds_calls g 1 5 (by omega) wc HA4.out.urn).mono ?_; rintro e w3 ⟨⟨b, rfl⟩, hu, ht⟩; have HA5 := Aside0.mk (HA4.out.next hu ht); clear hu ht)
                go_meet
                case rel => exact ⟨b, rfl, fun _ => HS.out, HA5⟩
              · have c1 : decide (whole > 0) = false := decide_eq_false hs
                clear hs
                go_wp2_with (fail)
                go_meet
                case rel => exact ⟨false, rfl, (fun h => by cases h), HA4⟩
            case rest =>
              obtain ⟨b, rfl, hb, HA5⟩ := hcut
              have HSB := Aside0.mk hb
              clear HA4 hb
              go_upto_if 52 with (fail)
              go_cut [15, 16] (fun v15 v16 wc => ∃ kd n : Int, v15 = .int .i64 kd ∧ v16 = .int .i64 n ∧ Aside0 (PickOk kd n sum whole item) ∧ Aside0 (AccAt w g E L0 cnt d xs vals sum whole u10 u11 wc))
              case first =>
                cases b with
                | true =>
                  go_wp2_with (fail)
                  go_meet
                  case rel => exact ⟨_, _, rfl, rfl, ⟨.inr (.inr ⟨rfl, rfl, (by have h := HSB.out; simpa using h)⟩)⟩, HA5⟩
                | false =>
                  go_wp2_with (fail)
                  go_meet
                  case rel => exact ⟨_, _, rfl, rfl, HP, HA5⟩
              case rest =>
                clear HA5 HSB HP
                obtain ⟨kd, n, rfl, rfl, HP, HA6⟩ := hcut
                have hnn := HA6.out.so.nn
                have hww : wrap64 (whole + n) = whole + n := by
                  have hP := HP.out
                  have := HI.out
                  unfold PickOk at hP
                  unfold wrap64
                  omega
                by_cases hbr : n > 4999 ∨ kd = 1 ∧ whole + n > 4999
                · have HNE := Aside0.mk (show 1 ≤ xs.length from by
                    rcases xs with _ | ⟨x, xs⟩
                    · exfalso
                      have hf := HA6.out.so.fin_
                      have hv : vals = [] := List.eq_nil_of_length_eq_zero (by have := HA6.out.so.len; simpa using this.symm)
                      subst hv
                      simp only [List.map_nil, maysP, SumPlain.fin, Prod.mk.injEq] at hf
                      have hP := HP.out
                      have := HI.out
                      unfold PickOk at hP
                      omega
                    · simp)
                  by_cases h1 : n > 4999
                  · have c1 : decide (n > 4999) = true := decide_eq_true h1
                    clear hbr h1 hnn
                    go_wp2_with (fail)
                    go_ret2
                    exact ⟨_, _, xs, vals, sum, whole, rfl, ⟨HNE.out, by have := HA6.out.many; have := HC.out; omega⟩, HA6.out.so, by have := HA6.out.lost; omega, HA6.out.r10, HA6.out.r11, HA6.out.urn, HA6.out.turn⟩
                  · have c1 : decide (n > 4999) = false := decide_eq_false h1
                    have h2 : kd = 1 ∧ whole + n > 4999 := by omega
                    obtain ⟨rfl, h2⟩ := h2
                    have c2 : decide (whole + n > 4999) = true := decide_eq_true h2
                    clear hbr h1 h2 hnn
                    go_wp2_with (fail)
                    go_ret2
                    exact ⟨_, _, xs, vals, sum, whole, rfl, ⟨HNE.out, by have := HA6.out.many; have := HC.out; omega⟩, HA6.out.so, by have := HA6.out.lost; omega, HA6.out.r10, HA6.out.r11, HA6.out.urn, HA6.out.turn⟩
                · have HK := Aside0.mk (show KindOk kd n sum whole from by
                    have hP := HP.out
                    unfold PickOk at hP
                    unfold KindOk
                    omega)
                  have c1 : decide (n > 4999) = false := by simp; omega
                  go_upto_region 13 with (fail)
                  go_cut [65] (fun v65 wc => v65 = .bool false ∧ Aside0 (AccAt w g E L0 cnt d xs vals sum whole u10 u11 wc))
                  case first =>
                    by_cases h1 : kd = 1
                    · subst h1
                      have c2 : decide (whole + n > 4999) = false := by simp; omega
                      clear hbr hnn
                      go_wp2_with (fail)
                      go_meet
                      case rel => exact ⟨rfl, HA6⟩
                    · have c2 : (kd == 1) = false := by simpa using h1
                      clear hbr hnn h1
                      go_wp2_with (fail)
                      go_meet
                      case rel => exact ⟨rfl, HA6⟩
                  case rest =>
                    obtain ⟨rfl, HA7⟩ := hcut
                    clear HA6 HP hbr c1
                    have hws : wrap64 (sum + n) = sum + n := by
                      have hP := HK.out
                      unfold KindOk at hP
                      unfold wrap64
                      omega
                    have HWT := Aside0.mk (fun h : kd = 1 => show wrap64 (whole + n) = whole + n by
                      have hP := HK.out
                      unfold KindOk at hP
                      unfold wrap64
                      omega)
                    clear hnn
                    go_upto_block 2 with (fail)
                    go_cut [12, 13] (fun v12 v13 wc => v12 = .int .i64 (stepS kd n sum) ∧ v13 = .int .i64 (stepW kd n whole) ∧ Aside0 (AccAt w g E L0 cnt d xs vals sum whole u10 u11 wc))
                    case first =>
                      have hk := HK.out
                      unfold KindOk at hk
                      rcases hk with ⟨rfl, h1, h2⟩ | ⟨rfl, h1, h2⟩ | ⟨rfl, h1, h2⟩
                      · clear h1 h2
                        go_wp2_with (fail)
                        go_meet
                        case rel => exact ⟨rfl, by first | rfl | (rw [HWT.out rfl]; rfl), HA7⟩
                      · clear h1 h2
                        go_wp2_with (fail)
                        go_meet
                        case rel => exact ⟨rfl, rfl, HA7⟩
                      · clear h1 h2
                        go_wp2_with (fail)
                        go_meet
                        case rel => exact ⟨rfl, rfl, HA7⟩
                    case rest =>
                      obtain ⟨rfl, rfl, HA8⟩ := hcut
                      clear HA7 hws HWT hww
                      obtain ⟨s2, hs2⟩ : ∃ s2, s2 = stepS kd n sum := ⟨_, rfl⟩
                      obtain ⟨t2, ht2⟩ : ∃ t2, t2 = stepW kd n whole := ⟨_, rfl⟩
                      rw [← hs2, ← ht2]
                      have HST := Aside0.mk (And.intro hs2 ht2)
                      clear hs2 ht2
                      obtain ⟨m, rfl⟩ : ∃ m : Nat, n = (m : Int) := ⟨n.toNat, by have hP := HK.out; unfold KindOk at hP; omega⟩
                      have HM := Aside0.mk (show m ≤ 4999 from by have hP := HK.out; have := HA8.out.so.nn; unfold KindOk at hP; omega)
                      go_upto_region 20 with (go_at_call 50; with_reducible refine (numeralOf_calls m HM.out wc).mono ?_; rintro e w9 ⟨rfl, hb9⟩; have HB9 := Aside0.mk hb9; clear hb9)
                      obtain ⟨cb, hcb⟩ : ∃ cb, cb = grownCap w9 (strOf (numeralP m)).size 0 5 := ⟨_, rfl⟩
                      obtain ⟨W2, hW2⟩ : ∃ W2, W2 = Lib.bytesWorld w9 5 (strOf (numeralP m)) := ⟨_, rfl⟩
                      rw [← hcb, ← hW2]
                      obtain ⟨b, hb⟩ : ∃ b, b = w9.heap.size := ⟨_, rfl⟩
                      obtain ⟨ln, hln⟩ : ∃ ln, ln = (strOf (numeralP m)).size := ⟨_, rfl⟩
                      have HLN := Aside0.mk (show (numeralP m).length = ln by rw [hln, strOf_size])
                      have HL19 := Aside0.mk (show ln ≤ 19 from by
                        have h2 : (numeralP m).length ≤ 19 := (SumPlain.numeral_len_all ⟨m, by have := HM.out; omega⟩).1
                        have := HLN.out
                        omega)
                      have HBA := Aside0.mk (show BytesAt W2 b ln (fun j => (numeralP m).getD j 0) by
                        have := BytesAt.made w9 (strOf (numeralP m))
                        rw [numeral_ints] at this
                        rw [hW2, hb, hln]
                        exact this)
                      have HT2 := Aside0.mk (show Turns (fun k => k = g ∨ wc.heap.size ≤ k) wc W2 by
                        rw [hW2]
                        exact Turns.of_new (HB9.out.trans (bytesWorld_below (Below.refl _ _) (by have := HB9.out.size; omega) _)))
                      have HU2 := Aside0.mk (show UrnAt W2 g from HA8.out.urn.below (by rw [hW2]; exact HB9.out.trans (bytesWorld_below (Below.refl _ _) (by have := HB9.out.size; omega) _)))
                      have HBB := Aside0.mk (show g ≠ b ∧ wc.heap.size ≤ b by have := HA8.out.urn.lt; have := HB9.out.size; omega)
                      rw [← hb, ← hln]
                      clear hcb hW2 hb hln HB9 hcv
                      go_wp2_with (fail)
                      go_loopw [3, 18, 80, 81, 82, 83, 84, 85, 86, 87, 88, 89, 90, 91, 92, 93, 94, 95, 96] (fun v3 v18 _ _ _ _ _ _ _ _ _ _ _ _ _ _ _ _ _ wr => ∃ (k d2 dd : Nat) (cs : List Int), k ≤ ln ∧ v18 = .int .i64 (k : Int) ∧ v3 = .int .i64 (d2 : Int) ∧ Aside0 (d2 + dd = d) ∧ Aside0 (SignSo m k cs dd) ∧ Aside0 (cs.length = ln) ∧ Aside0 (∀ c ∈ cs, 0 ≤ c ∧ c < 256) ∧ Aside0 (BytesAt wr b ln (fun j => cs.getD j 0)) ∧ Aside0 (UrnAt wr g) ∧ Aside0 (Turns (fun k => k = g ∨ wc.heap.size ≤ k) wc wr))
                        (fun _ v18 _ _ _ _ _ _ _ _ _ _ _ _ _ _ _ _ _ _ => ln - (intOf v18).toNat)
                      case atStart => exact ⟨0, d, 0, numeralP m, Nat.zero_le _, rfl, rfl, ⟨rfl⟩, ⟨SignSo.start m⟩, HLN, ⟨numeral_bytes m⟩, HBA, HU2, HT2⟩
                      case round =>
                        clear HBA HU2 HT2
                        obtain ⟨k, d2, dd, cs, hk, rfl, rfl, HDD, HSS, HCS, HCB, HBA, HU3, HT3⟩ := hrel
                        by_cases hlt : k < ln
                        · have hd1 : decide ((k : Int) < (ln : Int)) = true := by simp; omega
                          have hd2 : decide (k < ln) = true := by simp; omega
                          have HKT := Aside0.mk hlt
                          have hk0 : (0 : Int) ≤ (k : Int) := by omega
                          have hk1 : (k : Int) < (ln : Int) := by omega
                          clear hlt hk
                          go_upto_region 23 with (fail)
                          go_cut [91] (fun v91 wd => ∃ o : Bool, v91 = .bool o ∧ (o = true → 0 < d2) ∧ Aside0 (BytesAt wd b ln (fun j => cs.getD j 0)) ∧ Aside0 (UrnAt wd g) ∧ Aside0 (Turns (fun k => k = g ∨ wc.heap.size ≤ k) wc wd))
                          case first =>
                            by_cases hs : 0 < d2
                            · have c1 : decide ((d2 : Int) > 0) = true := by simp; omega
                              have c2 : decide (0 < d2) = true := decide_eq_true hs
                              have HS := Aside0.mk hs
                              clear hs hd1 hd2 hk0 hk1
                              go_wp2_with (go_at_call 26; with_reducible refine (odds_calls g 1 3 (by omega) wr HU3.out).mono ?_; rintro e w3 ⟨⟨o, rfl⟩, hu, ht⟩; have HU4 := Aside0.mk hu; have HT4 := Aside0.mk (HT3.out.trans (ht.mono (fun _ _ => .inl))); have HBA4 := Aside0.mk (HBA.out.turn ht HBB.out.1); clear hu ht)
                              go_meet
                              case rel => exact ⟨o, rfl, fun _ => HS.out, HBA4, HU4, HT4⟩
                            · have c1 : decide ((d2 : Int) > 0) = false := by simp; omega
                              have c2 : decide (0 < d2) = false := decide_eq_false hs
                              clear hs hd1 hd2 hk0 hk1
                              go_wp2_with (fail)
                              go_meet
                              case rel => exact ⟨false, rfl, (fun h => by cases h), HBA, HU3, HT3⟩
                          case rest =>
                            obtain ⟨o, rfl, ho, HBA4, HU4, HT4⟩ := hcut
                            have HOO := Aside0.mk ho
                            clear HBA HU3 HT3 ho
                            cases o with
                            | false =>
                              go_wp2_with (fail)
                              go_roundw
                              case rel => exact ⟨k + 1, d2, dd, cs, HKT.out, by rw [w_up HKT.out (by have := HL19.out; omega)], rfl, HDD, ⟨HSS.out.skip⟩, HCS, HCB, HBA4, HU4, HT4⟩
                              case measure => exact meas_up HKT.out (by have := HL19.out; omega)
                            | true =>
                              obtain ⟨d3, rfl⟩ : ∃ d3, d2 = d3 + 1 := ⟨d2 - 1, by have h := HOO.out; simp at h; omega⟩
                              have hcb := HBA4.out.cell HKT.out
                              have hfb := HBA4.out.frozen HKT.out
                              have hlb := HBA4.out.lt
                              have hwd : wrap64 (((d3 + 1 : Nat) : Int) - 1) = (d3 : Int) := by
                                have := HA8.out.lost
                                have := HA8.out.l5
                                have := HDD.out
                                unfold wrap64
                                omega
                              have hwe : IntKind.i64.wrap (((d3 + 1 : Nat) : Int) - 1) = (d3 : Int) := by rw [i64_w]; exact hwd
                              go_upto_region 24 with (fail)
                              go_wp2_with (fail)
                              go_roundw
                              case rel =>
                                refine ⟨k + 1, d3, dd + 1, cs.set k 63, HKT.out, by rw [w_up HKT.out (by have := HL19.out; omega)], by first | rfl | (rw [show wrap64 (d3 : Int) = (d3 : Int) from by have := HA8.out.lost; have := HA8.out.l5; have := HDD.out; unfold wrap64; omega]), ⟨by have := HDD.out; omega⟩, ⟨HSS.out.strike (by rw [HCS.out]; exact HKT.out)⟩, ⟨by rw [List.length_set]; exact HCS.out⟩, ⟨fun c hc => ?_⟩, ⟨(HBA4.out.set HKT.out 63).congr (fun j hj => ?_)⟩, ⟨HU4.out.keep (Below.heap_setCell _ _ _ _ HBB.out.1)⟩, ⟨HT4.out.setCell _ _ (fun _ => .inr HBB.out.2)⟩⟩
                                · rcases List.mem_or_eq_of_mem_set hc with h | rfl
                                  · exact HCB.out c h
                                  · omega
                                · by_cases hjk : j = k
                                  · subst hjk
                                    rw [if_pos rfl, List.getD_eq_getElem?_getD, List.getElem?_set_self (by rw [HCS.out]; exact hj)]
                                    rfl
                                  · rw [if_neg hjk, List.getD_eq_getElem?_getD, List.getD_eq_getElem?_getD, List.getElem?_set_ne (Ne.symm hjk)]
                              case measure => exact meas_up HKT.out (by have := HL19.out; omega)
                        · obtain rfl : k = ln := by omega
                          have hd1 : decide ((k : Int) < (k : Int)) = false := by simp
                          have hd2 : decide (k < k) = false := by simp
                          clear hlt hk
                          go_upto_region 25 with (fail)
                          clear hd1 hd2
                          have HA9 := Aside0.mk (HA8.out.next2 HU3.out HT3.out)
                          clear HA8 HU3 HT3
                          have HXL := Aside0.mk (show xs.length ≤ 8 from by have := HA9.out.many; have := HA9.out.le8; omega)
                          have HVL := Aside0.mk (show vals.length ≤ 8 from by have h := HA9.out.so.len; rw [List.length_map] at h; have := HXL.out; omega)
                          have HCK := HCS.out
                          subst HCK
                          have hcb := fun cap => BytesAt.back HBA.out (fun _ _ => rfl) HCB.out cap
                          obtain ⟨a10, c10, hv10⟩ := Kd.R_slice HA9.out.r10
                          subst hv10
                          obtain ⟨a11, c11, hv11⟩ := Kd.R_slice HA9.out.r11
                          subst hv11
                          have HZB := Aside0.mk (show w.heap.size ≤ wr.heap.size from HA9.out.turn.size)
                          have HM38 := Aside0.mk (fun (W : World) => show Kd.M k38 W w.heap.size (fun _ => False) (⟨kd, strOf cs⟩ : S38) [.int .i64 kd, .string (strOf cs)] from k38_mkM _ _ _ _)
                          go_wp2_with (first
                            | (at_builtin; refine Kd.R_append k38 (w0 := wr) w.heap.size rfl (.tmp 97) (.tmp 102) 25 38 (.agg #[(.int .i64 0), (.string ⟨#[]⟩)]) 24 rfl Tryd.underlying25 info38 rfl (by decide) (by decide) (.slice a10 xs.length c10) xs (⟨kd, strOf cs⟩ : S38) [.int .i64 kd, .string (strOf cs)] (fun _ => True) (fun _ => False) rfl rfl (HM38.out _) (fun k hk => hk.elim) (fun _ _ => trivial) HA9.out.r10 (Below.refl _ _) HZB.out (by have := HXL.out; omega) ?_; intro v103 w5 hr5 hb5 hg5 hat5; have H103 := Aside0.mk hr5; have HB5 := Aside0.mk hb5; have H11 := Aside0.mk (Kd.R_over HA9.out.r11 HA9.out.r10 (by decide) hg5); clear hr5 hb5 hg5 hat5)
                            | (at_builtin; refine Kd.R_append (Kd.int .i64) (w0 := wr) w.heap.size rfl (.tmp 104) (.tmp 106) 22 3 (.int .i64 0) 8 rfl Tryd.underlying22 info3 rfl (by decide) (by decide) (.slice a11 vals.length c11) vals (m : Int) [.int .i64 (m : Int)] (fun _ => True) (fun _ => False) rfl rfl rfl (fun k hk => hk.elim) (fun _ _ => trivial) H11.out HB5.out (Nat.le_trans HZB.out HB5.out.size) (by have := HVL.out; omega) ?_; intro v107 w6 hr6 hb6 hg6 hat6; have H107 := Aside0.mk hr6; have HB6 := Aside0.mk hb6; have HX103 := Aside0.mk (Kd.R_over H103.out H11.out (by decide) hg6); clear hr6 hb6 hg6 hat6))
                          go_roundw
                          case rel =>
                            obtain ⟨rfl, rfl⟩ := HST.out
                            have hcn : wrap64 ((cnt : Int) - 1) = ((cnt - 1 : Nat) : Int) := by
                              have := HLT2.out
                              have := HA9.out.many
                              have := HA9.out.le8
                              unfold wrap64
                              omega
                            have hent : toEnt (⟨kd, strOf cs⟩ : S38) = ⟨kd, cs⟩ := by
                              show (⟨kd, intsOf (strOf cs)⟩ : Ent) = _
                              rw [strOf_ints HCB.out]
                            refine ⟨cnt - 1, d2, xs ++ [⟨kd, strOf cs⟩], vals ++ [(m : Int)], _, _, by rw [hcn], rfl, rfl, rfl, ⟨⟨?_, HA9.out.le8, ?_, ?_, HA9.out.l5, HX103.out, H107.out, HA9.out.urn.keep (HB6.out.block g (by have := HLT.out; omega)), HA9.out.turn.then (Turns.of_below HB6.out) (fun i h1 h2 => by omega), HLT.out⟩⟩⟩
                            · have := HA9.out.many
                              have := HLT2.out
                              rw [List.length_append, List.length_singleton]
                              omega
                            · rw [List.map_append, List.map_singleton, hent]
                              exact HA9.out.so.step HK.out (by rw [Int.toNat_natCast]; exact HSS.out.fits)
                            · rw [List.map_append, List.map_singleton, hent, SumPlain.lostSum_snoc]
                              have := HA9.out.lost
                              have := HSS.out.lost
                              have := HDD.out
                              show _ + lostP cs + d2 ≤ L0
                              omega
                          case measure =>
                            have := HLT2.out
                            have := HA9.out.many
                            have := HA9.out.le8
                            have hcn : wrap64 ((cnt : Int) - 1) = ((cnt - 1 : Nat) : Int) := by
                              unfold wrap64
                              omega
                            rw [hcn]
                            simp [intOf]
                            omega
    · obtain rfl : cnt = 0 := by omega
      have hd1 : decide (0 < 0) = false := by simp
      have hd2 : decide (((0 : Nat) : Int) > 0) = false := by simp
      clear hlt
      go_wp2_with (fail)
      go_ret2
      exact ⟨_, _, xs, vals, sum, whole, rfl, ⟨by have := HA.out.many; have := HC.out; omega, by have := HA.out.many; have := HC.out; omega⟩, HA.out.so, by have := HA.out.lost; omega, HA.out.r10, HA.out.r11, HA.out.urn, HA.out.turn⟩
end Go.Proofs.YtgfikondoehblaaDoor.Pr
end
section
namespace Go.Proofs.YtgfikondoehblaaDoor.Pr
open Go.RowKit Go.Shelf Go.Proofs.YtgfikondoehblaaDoorW.PrintWords Go.Proofs.YtgfikondoehblaaDoorW.PrintLast Go.Proofs.YtgfikondoehblaaDoorW.PrintMore Go.Proofs.SumKeep
def accA : List S38 := [⟨1, ⟨#[88, 63]⟩⟩, ⟨1, ⟨#[86, 63, 63]⟩⟩, ⟨2, ⟨#[88, 88, 63, 73]⟩⟩]
def accB : List S38 := [⟨1, ⟨#[63]⟩⟩, ⟨1, ⟨#[73]⟩⟩, ⟨2, ⟨#[63, 73]⟩⟩]
def accC : List S38 := [⟨1, ⟨#[88]⟩⟩, ⟨1, ⟨#[86]⟩⟩, ⟨2, ⟨#[88, 88]⟩⟩]
set_option maxRecDepth 100000 in
theorem checkA0 : checkL accA = 0 ∧ checkL accB = 0 ∧ checkL accC = 0 := by decide +kernel
set_option maxRecDepth 100000 in
theorem readsA : readsL accA = [[15, 7, 22]] := by decide +kernel
set_option maxRecDepth 100000 in
theorem choA : choL accA = ([[15], [7], [22]], 0) := by
  unfold choL
  rw [if_pos checkA0.1, readsA]
  decide +kernel
set_option maxRecDepth 100000 in
theorem printA : printL accA = ([⟨#[88, 118]⟩, ⟨#[86, 105, 105]⟩, ⟨#[88, 88, 105, 73]⟩], 0) := by
  unfold printL
  rw [choA]
  decide +kernel
set_option maxRecDepth 100000 in
theorem countB : countL accB = (7, 0) := by decide +kernel
set_option maxRecDepth 100000 in
theorem struckC : struckL accC = ([2], 0) := by decide +kernel
theorem lits3 (w : World) (a b c : Int) : (Kd.slice 3 (Kd.int .i64)).C ((((w.alloc (.cells #[.int .i64 a] 3)).alloc (.cells #[.int .i64 b] 3)).alloc (.cells #[.int .i64 c] 3)).alloc (.cells #[.slice (some ⟨w.heap.size, 0, none⟩) 1 1, .slice (some ⟨w.heap.size + 1, 0, none⟩) 1 1, .slice (some ⟨w.heap.size + 1 + 1, 0, none⟩) 1 1] 22)) (some ⟨w.heap.size + 1 + 1 + 1, 0, none⟩) 3 [[a], [b], [c]] := by
  obtain ⟨W, hW⟩ : ∃ W, W = (((w.alloc (.cells #[.int .i64 a] 3)).alloc (.cells #[.int .i64 b] 3)).alloc (.cells #[.int .i64 c] 3)).alloc (.cells #[.slice (some ⟨w.heap.size, 0, none⟩) 1 1, .slice (some ⟨w.heap.size + 1, 0, none⟩) 1 1, .slice (some ⟨w.heap.size + 1 + 1, 0, none⟩) 1 1] 22) := ⟨_, rfl⟩
  have h0 : W.heap[w.heap.size]? = some (.cells #[.int .i64 a] 3 (0, 0)) := by rw [hW]; exact blk_alloc (blk_alloc (blk_alloc (heap_alloc_new w _) _) _) _
  have h1 : W.heap[w.heap.size + 1]? = some (.cells #[.int .i64 b] 3 (0, 0)) := by
    rw [hW]
    have := heap_alloc_new (w.alloc (.cells #[.int .i64 a] 3)) (.cells #[.int .i64 b] 3)
    rw [World.size_alloc] at this
    exact blk_alloc (blk_alloc this _) _
  have h2 : W.heap[w.heap.size + 1 + 1]? = some (.cells #[.int .i64 c] 3 (0, 0)) := by
    rw [hW]
    have := heap_alloc_new ((w.alloc (.cells #[.int .i64 a] 3)).alloc (.cells #[.int .i64 b] 3)) (.cells #[.int .i64 c] 3)
    rw [World.size_alloc, World.size_alloc] at this
    exact blk_alloc this _
  have h3 : W.heap[w.heap.size + 1 + 1 + 1]? = some (.cells #[.slice (some ⟨w.heap.size, 0, none⟩) 1 1, .slice (some ⟨w.heap.size + 1, 0, none⟩) 1 1, .slice (some ⟨w.heap.size + 1 + 1, 0, none⟩) 1 1] 22 (0, 0)) := by
    rw [hW]
    have := heap_alloc_new (((w.alloc (.cells #[.int .i64 a] 3)).alloc (.cells #[.int .i64 b] 3)).alloc (.cells #[.int .i64 c] 3)) (.cells #[.slice (some ⟨w.heap.size, 0, none⟩) 1 1, .slice (some ⟨w.heap.size + 1, 0, none⟩) 1 1, .slice (some ⟨w.heap.size + 1 + 1, 0, none⟩) 1 1] 22)
    rwa [World.size_alloc, World.size_alloc, World.size_alloc] at this
  rw [← hW]
  refine ⟨rfl, by simp, fun _ => ⟨_, rfl, fun j p hp => ?_⟩⟩
  have hc : ∀ (x : Int) (g : Nat), W.heap[g]? = some (.cells #[.int .i64 x] 3 (0, 0)) → (Kd.int .i64).C W (some ⟨g, 0, none⟩) 1 [x] := fun x g h => C_lit [x] W g 3 h (by simp)
  rcases j with _ | _ | _ | j
  · obtain rfl : [a] = p := by simpa using hp
    refine ⟨[.slice (some ⟨w.heap.size, 0, none⟩) 1 1], rfl, ⟨_, 1, rfl, by simp, hc a _ h0⟩, fun i u hu => ?_⟩
    rcases i with _ | i
    · rw [← hu]; exact (blk_cell h3 0).trans rfl
    · simp at hu
  · obtain rfl : [b] = p := by simpa using hp
    refine ⟨[.slice (some ⟨w.heap.size + 1, 0, none⟩) 1 1], rfl, ⟨_, 1, rfl, by simp, hc b _ h1⟩, fun i u hu => ?_⟩
    rcases i with _ | i
    · rw [← hu]; exact (blk_cell h3 1).trans rfl
    · simp at hu
  · obtain rfl : [c] = p := by simpa using hp
    refine ⟨[.slice (some ⟨w.heap.size + 1 + 1, 0, none⟩) 1 1], rfl, ⟨_, 1, rfl, by simp, hc c _ h2⟩, fun i u hu => ?_⟩
    rcases i with _ | i
    · rw [← hu]; exact (blk_cell h3 2).trans rfl
    · simp at hu
  · simp at hp
theorem acc_small : (∀ i : Nat, i < accA.length → (rd_T38 accA (i : Int)).f1.size ≤ 9223372036854775807) ∧ (∀ i : Nat, i < accB.length → (rd_T38 accB (i : Int)).f1.size ≤ 9223372036854775807) ∧ (∀ i : Nat, i < accC.length → (rd_T38 accC (i : Int)).f1.size ≤ 9223372036854775807) := by
  refine ⟨fun i hi => ?_, fun i hi => ?_, fun i hi => ?_⟩
  all_goals
    have hi' : i < 3 := hi
    rcases i with _ | _ | _ | i
    all_goals first | (exfalso; omega) | decide
set_option maxRecDepth 100000 in
set_option maxHeartbeats 8000000 in
theorem alert_calls (w : World) (hS : SignsAt w) : Calls Tryd.prog 21 #[] w fun e w' => e = .returned (.bool true) ∧ Below w.heap.size w w' := by
  have HS := Aside0.mk hS
  clear hS
  have HF := fun W => cippuslaw03_first.calls accA W rfl
  have HG := fun W => cippuslaw03_second.calls accB W rfl
  have HH := fun W => cippuslaw03_third.calls ⟨#[88, 88]⟩ accC W rfl
  go_enter Tryd.func21, Tryd.ntmps21
  go_upto_region 2 with (first | (go_at_call 43; refine (HF w).mono ?_; rintro e w1 ⟨v, rfl, hr, hb⟩; obtain ⟨A1, c1, hv, _, hC⟩ := Kd.R_reads hr; subst hv; have HB1 := Aside0.mk hb; have HC1 := Aside0.mk (choices_calls A1 c1 accA w1 hC acc_small.1 (HS.out.new hb)); clear hr hb hC) | (go_at_call 15; refine HC1.out.mono ?_; rintro e w2 ⟨v, rfl, hr, hb⟩; rw [choA] at hr; rw [choA]; obtain ⟨A2, c2, hv⟩ := Kd.S_slice hr; subst hv; have HB2 := Aside0.mk (below_then HB1.out HB1.out.size hb); have HR2 := Aside0.mk (Kd.S_reads' hr).2.2; clear hr hb))
  go_upto_region 3 with (first | (go_at_call 43; refine (HF w2).mono ?_; rintro e w3 ⟨v, rfl, hr, hb⟩; obtain ⟨A3, c3, hv, _, hC⟩ := Kd.R_reads hr; subst hv; have R23 := Aside0.mk (Kd.C_below HR2.out hb); have HB3 := Aside0.mk (below_then HB2.out HB2.out.size hb); have HC3 := Aside0.mk (print_calls A3 c3 accA w3 hC acc_small.1 (HS.out.new (below_then HB2.out HB2.out.size hb))); clear hr hb hC) | (go_at_call 14; refine HC3.out.mono ?_; rintro e w4 ⟨v, rfl, hr, hb⟩; rw [printA] at hr; rw [printA]; obtain ⟨A4, c4, hv, _, hC⟩ := Kd.R_reads hr; subst hv; have HB4 := Aside0.mk (below_then HB3.out HB3.out.size hb); have HR4 := Aside0.mk hC; have R24 := Aside0.mk (Kd.C_below R23.out hb); clear hr hb hC))
  go_upto_region 4 with (first | (go_at_call 44; refine (HG w4).mono ?_; rintro e w5 ⟨v, rfl, hr, hb⟩; obtain ⟨A5, c5, hv, _, hC⟩ := Kd.R_reads hr; subst hv; have R25 := Aside0.mk (Kd.C_below R24.out hb); have R45 := Aside0.mk (Kd.C_below HR4.out hb); have HB5 := Aside0.mk (below_then HB4.out HB4.out.size hb); have HC5 := Aside0.mk (count_calls A5 c5 accB w5 hC acc_small.2.1 (HS.out.new (below_then HB4.out HB4.out.size hb))); clear hr hb hC) | (go_at_call 16; refine HC5.out.mono ?_; rintro e w6 ⟨rfl, hb⟩; rw [countB]; have R26 := Aside0.mk (Kd.C_below R25.out hb); have R46 := Aside0.mk (Kd.C_below R45.out hb); have HB6 := Aside0.mk (below_then HB5.out HB5.out.size hb); clear hb))
  go_upto_region 5 with (first | (go_at_call 45; refine (HH w6).mono ?_; rintro e w7 ⟨v, rfl, hr, hb⟩; obtain ⟨A7, c7, hv, _, hC⟩ := Kd.R_reads hr; subst hv; have R27 := Aside0.mk (Kd.C_below R26.out hb); have R47 := Aside0.mk (Kd.C_below R46.out hb); have HB7 := Aside0.mk (below_then HB6.out HB6.out.size hb); have HC7 := Aside0.mk (struck_calls A7 c7 accC w7 hC acc_small.2.2 (HS.out.new (below_then HB6.out HB6.out.size hb))); clear hr hb hC) | (go_at_call 27; refine HC7.out.mono ?_; rintro e w8 ⟨v, rfl, hr, hb⟩; rw [struckC] at hr; rw [struckC]; obtain ⟨A8, c8, hv, _, hC⟩ := Kd.R_reads hr; subst hv; have HB8 := Aside0.mk (below_then HB7.out HB7.out.size hb); have HR8 := Aside0.mk hC; have R28 := Aside0.mk (Kd.C_below R27.out hb); have R48 := Aside0.mk (Kd.C_below R47.out hb); clear hr hb hC))
  go_wp2_with (first | (go_at_call 19; refine (sameGrids_calls [[15], [7], [22]] [[15], [7], [22]] A2 (some ⟨w8.heap.size + 1 + 1 + 1, 0, none⟩) c2 3 _ (Kd.C_below R28.out (below_alloc (below_alloc (below_alloc (below_alloc (Below.refl _ _) _) _) _) _)) (lits3 w8 15 7 22)).mono ?_; rintro e w9 ⟨rfl, hb⟩; have HB89 := Aside0.mk (below_then (below_alloc (below_alloc (below_alloc (below_alloc (Below.refl w8.heap.size w8) _) _) _) _) (by simp; omega) hb); clear hb; rw [decide_eq_true rfl]) | (go_at_call 46; refine (sameTexts_calls [⟨#[88, 118]⟩, ⟨#[86, 105, 105]⟩, ⟨#[88, 88, 105, 73]⟩] [⟨#[88, 118]⟩, ⟨#[86, 105, 105]⟩, ⟨#[88, 88, 105, 73]⟩] A4 (some ⟨w9.heap.size, 0, none⟩) c4 3 _ (Kd.C_below R48.out (below_alloc HB89.out _)) (C_lit _ _ w9.heap.size 9 (heap_alloc_new w9 _) (by simp))).mono ?_; rintro e w10 ⟨rfl, hb⟩; have HB810 := Aside0.mk (below_then (below_alloc HB89.out _) (by have := HB89.out.size; simp; omega) hb); clear hb; rw [decide_eq_true rfl]) | (go_at_call 22; refine (sameInts_calls [2] [2] A8 (some ⟨w10.heap.size, 0, none⟩) c8 1 _ (Kd.C_below HR8.out (below_alloc HB810.out _)) (C_lit _ _ w10.heap.size 3 (heap_alloc_new w10 _) (by simp))).mono ?_; rintro e w11 ⟨rfl, hb⟩; have HB811 := Aside0.mk (below_then (below_alloc HB810.out _) (by have := HB810.out.size; simp; omega) hb); clear hb; rw [decide_eq_true rfl]))
  go_ret
  exact ⟨rfl, below_then HB8.out HB8.out.size HB811.out⟩
end Go.Proofs.YtgfikondoehblaaDoor.Pr
end
section
namespace Go.Proofs.YtgfikondoehblaaDoor.Pr
open Go.RowKit Go.Shelf Go.Proofs.YtgfikondoehblaaDoorW.PrintWords Go.Proofs.YtgfikondoehblaaDoorW.PrintLast Go.Proofs.YtgfikondoehblaaDoorW.PrintMore Go.Proofs.SumKeep
open SumPlain (Ent AccSo lostSum)
def EntsAt (W : World) (b : Nat) (l : List S38) : Prop := ∃ cells : Array Value, W.heap[b]? = some (.cells cells 38 (0, 0)) ∧ l.length ≤ 9223372036854775807 ∧ ∀ i x, l[i]? = some x → cells[i * 2]? = some (.int .i64 x.f0) ∧ cells[i * 2 + 1]? = some (.string x.f1)
section
variable {W W' : World} {b : Nat} {l : List S38}
theorem EntsAt.lt (h : EntsAt W b l) : b < W.heap.size := by
  obtain ⟨c, h1, _⟩ := h
  exact blk_lt h1
theorem EntsAt.keep (h : EntsAt W b l) (hk : W'.heap[b]? = W.heap[b]?) : EntsAt W' b l := by
  obtain ⟨c, h1, h2⟩ := h
  exact ⟨c, hk.trans h1, h2⟩
theorem EntsAt.below (h : EntsAt W b l) (hb : Below W.heap.size W W') : EntsAt W' b l := h.keep (hb.block b h.lt)
theorem EntsAt.turn {g : Nat} (h : EntsAt W b l) (ht : UrnT g W W') (hne : b ≠ g) : EntsAt W' b l := h.keep (ht.block b h.lt hne)
theorem EntsAt.c0 (h : EntsAt W b l) {i : Nat} {x : S38} (hi : l[i]? = some x) : W.cell? ⟨b, i * 2, none⟩ = some (.int .i64 x.f0) := by
  obtain ⟨c, h1, _, h2⟩ := h
  rw [blk_cell h1]
  exact (h2 i x hi).1
theorem EntsAt.c1 (h : EntsAt W b l) {i : Nat} {x : S38} (hi : l[i]? = some x) : W.cell? ⟨b, i * 2 + 1, none⟩ = some (.string x.f1) := by
  obtain ⟨c, h1, _, h2⟩ := h
  rw [blk_cell h1]
  exact (h2 i x hi).2
theorem EntsAt.frozen (h : EntsAt W b l) (n : Nat) : W.frozen? ⟨b, n, none⟩ = false := by
  obtain ⟨c, h1, _⟩ := h
  exact blk_frozen h1 n
theorem EntsAt.C (h : EntsAt W b l) : Kd.C k38 W (some ⟨b, 0, none⟩) l.length l := by
  obtain ⟨c, h1, hl, h2⟩ := h
  refine ⟨rfl, hl, fun _ => ⟨_, rfl, fun j p hp => ⟨[.int .i64 p.f0, .string p.f1], rfl, k38_mk W p, fun i u hu => ?_⟩⟩⟩
  obtain ⟨g0, g1⟩ := h2 j p hp
  rw [Addr.add_lit, Nat.zero_add, blk_cell h1]
  rcases i with _ | _ | i
  · simp at hu
    subst hu
    exact g0
  · simp at hu
    subst hu
    exact g1
  · simp at hu
theorem EntsAt.set1 (h : EntsAt W b l) {i : Nat} {x : S38} (hi : l[i]? = some x) (s : ByteArray) : EntsAt (W.setCell ⟨b, i * 2 + 1, none⟩ (.string s)) b (l.set i ⟨x.f0, s⟩) := by
  obtain ⟨c, h1, hl, h2⟩ := h
  refine ⟨_, blk_set h1 _ _, by rw [List.length_set]; exact hl, fun j y hj => ?_⟩
  by_cases hij : i = j
  · subst hij
    have hlt : i < l.length := (List.getElem?_eq_some_iff.1 hi).1
    rw [List.getElem?_set_self hlt] at hj
    obtain rfl := Option.some.inj hj
    obtain ⟨g0, g1⟩ := h2 i x hi
    have hs : i * 2 + 1 < c.size := (Array.getElem?_eq_some_iff.1 g1).1
    refine ⟨?_, ?_⟩
    · rw [Array.getElem?_setIfInBounds_ne (by omega)]
      exact g0
    · rw [Array.getElem?_setIfInBounds_self_of_lt hs]
  · rw [List.getElem?_set_ne hij] at hj
    obtain ⟨g0, g1⟩ := h2 j y hj
    rw [Array.getElem?_setIfInBounds_ne (by omega), Array.getElem?_setIfInBounds_ne (by omega)]
    exact ⟨g0, g1⟩
theorem EntsAt.set0 (h : EntsAt W b l) {i : Nat} {x : S38} (hi : l[i]? = some x) (n : Int) : EntsAt (W.setCell ⟨b, i * 2, none⟩ (.int .i64 n)) b (l.set i ⟨n, x.f1⟩) := by
  obtain ⟨c, h1, hl, h2⟩ := h
  refine ⟨_, blk_set h1 _ _, by rw [List.length_set]; exact hl, fun j y hj => ?_⟩
  by_cases hij : i = j
  · subst hij
    have hlt : i < l.length := (List.getElem?_eq_some_iff.1 hi).1
    rw [List.getElem?_set_self hlt] at hj
    obtain rfl := Option.some.inj hj
    obtain ⟨g0, g1⟩ := h2 i x hi
    have hs : i * 2 < c.size := (Array.getElem?_eq_some_iff.1 g0).1
    refine ⟨?_, ?_⟩
    · rw [Array.getElem?_setIfInBounds_self_of_lt hs]
    · rw [Array.getElem?_setIfInBounds_ne (by omega)]
      exact g1
  · rw [List.getElem?_set_ne hij] at hj
    obtain ⟨g0, g1⟩ := h2 j y hj
    rw [Array.getElem?_setIfInBounds_ne (by omega), Array.getElem?_setIfInBounds_ne (by omega)]
    exact ⟨g0, g1⟩
theorem EntsAt.set (h : EntsAt W b l) {i : Nat} (hi : i < l.length) (y : S38) : EntsAt ((W.setCell ⟨b, i * 2, none⟩ (.int .i64 y.f0)).setCell ⟨b, i * 2 + 1, none⟩ (.string y.f1)) b (l.set i y) := by
  have h1 := h.set0 (List.getElem?_eq_getElem hi) y.f0
  have h2 := h1.set1 (List.getElem?_set_self hi) y.f1
  rw [List.set_set] at h2
  exact h2
theorem ents_of_R {base : Nat} {ok : Nat → Prop} {v : Value} (h : Kd.R k38 38 W base ok v l) (hp : 1 ≤ l.length) : ∃ b cap, v = .slice (some ⟨b, 0, none⟩) l.length cap ∧ base ≤ b ∧ l.length ≤ cap ∧ EntsAt W b l := by
  obtain ⟨g, cap, hv, hb, hl, cells, hc⟩ := Kd.R_form h hp
  subst hv
  obtain ⟨_, hcap, hC⟩ := Kd.R_reads' h
  refine ⟨g, cap, rfl, hb, hcap, cells, hc, Kd.C_max hC, fun i x hi => ?_⟩
  have hlt : i < l.length := (List.getElem?_eq_some_iff.1 hi).1
  obtain ⟨ad, he, h0, h1⟩ := at_T38 hC i (by omega) (by omega)
  obtain rfl := Option.some.inj he
  have hrd : rd_T38 l (i : Int) = x := by
    unfold rd_T38
    rw [Int.toNat_natCast, List.getD_eq_getElem?_getD, hi]
    rfl
  rw [Int.toNat_natCast, Addr.add_lit, Nat.zero_add, hrd] at h0 h1
  rw [blk_cell hc] at h0
  have h1' : W.cell? ⟨g, i * 2 + 1, none⟩ = some (.string x.f1) := h1
  rw [blk_cell hc] at h1'
  exact ⟨h0, h1'⟩
theorem rd_get {i : Nat} (h : i < l.length) : l[i]? = some (rd_T38 l (i : Int)) := by
  unfold rd_T38
  rw [Int.toNat_natCast, List.getD_eq_getElem?_getD, List.getElem?_eq_getElem h]
  rfl
theorem check_sizes (h : checkL l = 0) : ∀ i : Nat, i < l.length → (rd_T38 l (i : Int)).f1.size ≤ 9223372036854775807 := fun i hi => by
  obtain ⟨_, _, h3, _⟩ := SumPlain.checkA_zero.1 h
  have hm : toEnt (rd_T38 l (i : Int)) ∈ l.map toEnt := List.mem_map_of_mem (List.mem_of_getElem? (rd_get hi))
  have h4 := h3 _ hm
  unfold SumPlain.entryErr at h4
  by_cases c1 : (toEnt (rd_T38 l (i : Int))).kind < 1 ∨ (toEnt (rd_T38 l (i : Int))).kind > 3
  · rw [if_pos c1] at h4; cases h4
  rw [if_neg c1] at h4
  by_cases c2 : (toEnt (rd_T38 l (i : Int))).signs.length = 0 ∨ (toEnt (rd_T38 l (i : Int))).signs.length > 19
  · rw [if_pos c2] at h4; cases h4
  have e : (toEnt (rd_T38 l (i : Int))).signs.length = (rd_T38 l (i : Int)).f1.size := intsOf_length _
  omega
theorem made_check {vals : List Int} {sum whole : Int} (h : AccSo (l.map toEnt) vals sum whole) (h1 : 1 ≤ l.length) (h8 : l.length ≤ 8) (hl : lostSum (l.map toEnt) ≤ 5) : checkL l = 0 := h.check (by rw [List.length_map]; exact h1) (by rw [List.length_map]; exact h8) hl
theorem choL_ok (h0 : checkL l = 0) (hr : readsL l ≠ []) : choL l = ((List.range l.length).map (SumPlain.columnP (readsL l)), 0) := by
  unfold choL
  rw [if_pos h0, if_neg hr]
end
end Go.Proofs.YtgfikondoehblaaDoor.Pr
end
section
namespace Go.Proofs.YtgfikondoehblaaDoor.Pr
open Go.RowKit Go.Shelf Go.Proofs.YtgfikondoehblaaDoorW.PrintWords Go.Proofs.YtgfikondoehblaaDoorW.PrintLast Go.Proofs.YtgfikondoehblaaDoorW.PrintMore Go.Proofs.SumKeep
open SumPlain (Ent EntOk lostSum lostP listsP allLists numeralP strikeStep sets)
structure StandsL (l : List S38) : Prop where
  ok : ∀ e ∈ l.map toEnt, ∃ n, EntOk e n
  lost : lostSum (l.map toEnt) ≤ 5
theorem StandsL.check {l : List S38} (h : StandsL l) (h1 : 1 ≤ l.length) (h8 : l.length ≤ 8) : checkL l = 0 :=
  SumPlain.account_check (vs := []) (by rw [List.length_map]; exact h1) (by rw [List.length_map]; exact h8) h.ok SumPlain.numeral_len2 h.lost
theorem sum_sub : ∀ (l : List S38) (p : Nat → Bool), ((((List.range l.length).filter p).map fun i : Nat => rd_T38 l (i : Int)).map fun e => lostP (toEnt e).signs).sum ≤ (l.map fun e => lostP (toEnt e).signs).sum := by
  intro l p
  have h : (((List.range l.length).map fun i : Nat => rd_T38 l (i : Int))) = l := by
    refine List.ext_getElem (by simp) fun i h1 h2 => ?_
    have := rd_get (l := l) (i := i) h2
    rw [List.getElem?_eq_getElem h2] at this
    simp only [List.getElem_map, List.getElem_range]
    exact (Option.some.inj this).symm
  conv => rhs; rw [← h]
  rw [List.map_map, List.map_map]
  generalize List.range l.length = r
  induction r with
  | nil => simp
  | cons a r ih =>
    rw [List.filter_cons]
    split
    · simp only [List.map_cons, List.sum_cons]; omega
    · simp only [List.map_cons, List.sum_cons]; omega
theorem StandsL.without {l : List S38} (h : StandsL l) (ss : List Int) : StandsL (withoutL l ss) := by
  refine ⟨fun e he => ?_, ?_⟩
  · obtain ⟨x, hx, rfl⟩ := List.mem_map.1 he
    unfold withoutL withoutTo at hx
    obtain ⟨i, hi, rfl⟩ := List.mem_map.1 hx
    have hil := List.mem_range.1 (List.mem_filter.1 hi).1
    exact h.ok _ (List.mem_map_of_mem (List.mem_of_getElem? (rd_get hil)))
  · have h1 := sum_sub l (fun i : Nat => !(ss.contains (i : Int)))
    have h2 := h.lost
    have e1 : lostSum ((withoutL l ss).map toEnt) = ((withoutL l ss).map fun e => lostP (toEnt e).signs).sum := by unfold lostSum; rw [List.map_map]; rfl
    have e2 : lostSum (l.map toEnt) = (l.map fun e => lostP (toEnt e).signs).sum := by unfold lostSum; rw [List.map_map]; rfl
    rw [e1]
    rw [e2] at h2
    exact Nat.le_trans h1 h2
theorem StandsL.put {l : List S38} (h : StandsL l) {i : Nat} {x : S38} (hi : l[i]? = some x) {m : Nat} (hm : 1 ≤ m ∧ m ≤ 4999) : StandsL (l.set i ⟨x.f0, strOf (numeralP m)⟩) := by
  have hil := (List.getElem?_eq_some_iff.1 hi).1
  have hte : toEnt (⟨x.f0, strOf (numeralP m)⟩ : S38) = ⟨x.f0, numeralP m⟩ := by
    show (⟨x.f0, intsOf (strOf (numeralP m))⟩ : Ent) = _
    rw [numeral_ints]
  obtain ⟨nx, hx⟩ := h.ok (toEnt x) (List.mem_map_of_mem (List.mem_of_getElem? hi))
  have hl0 : lostP (numeralP m) = 0 := by
    have := (SumPlain.SignSo.start m).lost
    exact this
  refine ⟨fun e he => ?_, ?_⟩
  · rw [List.map_set, hte] at he
    rcases List.mem_or_eq_of_mem_set he with h4 | rfl
    · exact h.ok e h4
    · exact ⟨m, hx.kind, hm, (SumPlain.fits_iff _ _).2 ⟨rfl, fun j h1 h2 => .inr rfl⟩⟩
  · rw [List.map_set, hte]
    refine Nat.le_trans (SumPlain.sum_set_le (l.map toEnt) i _ ?_) h.lost
    show lostP (numeralP m) ≤ _
    omega
theorem stands_made {l : List S38} {vals : List Int} {sum whole : Int} (h : SumPlain.AccSo (l.map toEnt) vals sum whole) (hl : lostSum (l.map toEnt) ≤ 5) : StandsL l := ⟨h.ok, hl⟩
def twoL : List S38 := [⟨2, ⟨#[86]⟩⟩, ⟨3, ⟨#[73]⟩⟩]
theorem stands_two : StandsL twoL := by
  refine ⟨fun e he => ?_, by decide⟩
  have he' : e ∈ [toEnt ⟨2, ⟨#[86]⟩⟩, toEnt ⟨3, ⟨#[73]⟩⟩] := he
  rcases List.mem_cons.1 he' with rfl | he'
  · exact ⟨5, by decide, by decide, by decide +kernel⟩
  · obtain rfl := List.mem_singleton.1 he'
    exact ⟨1, by decide, by decide, by decide +kernel⟩
theorem two_lit (W : World) (b : Nat) (h : W.heap[b]? = some (.cells #[.int .i64 2, .string ⟨#[86]⟩, .int .i64 3, .string ⟨#[73]⟩] 38 (0, 0))) : EntsAt W b twoL := by
  refine ⟨_, h, by simp [twoL], fun i x hx => ?_⟩
  rcases i with _ | _ | i
  · obtain rfl : _ = x := by simpa [twoL] using hx
    exact ⟨rfl, rfl⟩
  · obtain rfl : _ = x := by simpa [twoL] using hx
    exact ⟨rfl, rfl⟩
  · simp [twoL] at hx
def listsFrom (n m : Nat) : List (List Int) := ((List.range n).drop m).flatMap fun k => listsP n n k
theorem listsFrom_zero (n : Nat) : listsFrom n 0 = allLists n := rfl
theorem listsFrom_step {n m : Nat} (h : m < n) : listsFrom n m = listsP n n m ++ listsFrom n (m + 1) := by
  unfold listsFrom
  rw [List.drop_eq_getElem_cons (by rw [List.length_range]; exact h), List.flatMap_cons, List.getElem_range]
theorem listsFrom_end (n : Nat) : listsFrom n n = [] := by
  unfold listsFrom
  rw [List.drop_of_length_le (by rw [List.length_range]; exact Nat.le_refl _)]
  rfl
theorem filter_both (p : Nat → Bool) : ∀ r : List Nat, r.length = (r.filter p).length + (r.filter fun i => !p i).length
  | [] => rfl
  | a :: r => by
    have ih := filter_both p r
    rw [List.filter_cons, List.filter_cons]
    cases p a <;> simp <;> omega
theorem without_len (l : List S38) (ss : List Int) : l.length ≤ (withoutL l ss).length + ss.length := by
  have h := filter_both (fun i : Nat => ss.contains (i : Int)) (List.range l.length)
  have h2 : (((List.range l.length).filter fun i : Nat => ss.contains (i : Int)).map fun i : Nat => (i : Int)).length ≤ ss.length := by
    refine nodup_le _ _ ?_ fun x hx => ?_
    · refine List.pairwise_map.2 ((List.Pairwise.filter _ (List.nodup_range (n := l.length))).imp (fun h e => h (Int.ofNat.inj e)))
    · obtain ⟨i, hi, rfl⟩ := List.mem_map.1 hx
      simpa using (List.mem_filter.1 hi).2
  rw [List.length_map] at h2
  rw [List.length_range] at h
  unfold withoutL withoutTo
  rw [List.length_map]
  omega
theorem okL_count {l : List S38} (ss : List Int) : okL l ss = true ↔ 0 < (readsL (withoutL l ss)).length := by
  unfold okL firstL
  cases h : readsL (withoutL l ss) with
  | nil =>
    have : readsL2 (withoutL l ss) = [] := h
    simp [this]
  | cons a r =>
    have : readsL2 (withoutL l ss) = a :: r := h
    simp [this]
theorem struck_find {l : List S38} (hc : checkL l = 0) (h5 : l.length ≤ 5) : struckL l = match (allLists l.length).find? (okL l) with | some r => (r, 0) | none => ([], 9) := by
  rw [← SumPlain.strike_find l.length (by omega) (okL l)]
  unfold struckL
  rw [if_pos hc]
  rfl
end Go.Proofs.YtgfikondoehblaaDoor.Pr
end
section
namespace Go.Proofs.YtgfikondoehblaaDoor.Pr
open Go.RowKit Go.Shelf Go.Proofs.YtgfikondoehblaaDoorW.PrintWords Go.Proofs.YtgfikondoehblaaDoorW.PrintLast Go.Proofs.YtgfikondoehblaaDoorW.PrintMore Go.Proofs.SumKeep
open SumPlain (listsP)
set_option maxRecDepth 100000 in
theorem hasR_calls (A : Option Addr) (c : Nat) (l : List Int) (n : Int) (w : World) (hr : Kd.C (Kd.int .i64) w A l.length l) : Calls Tryd.prog 61 #[.slice A l.length c, .int .i64 n] w fun e w' => e = .returned (.bool (l.contains n)) ∧ Below w.heap.size w w' := by
  have HR := Aside0.mk hr
  have HMX := Aside0.mk (Kd.C_max hr)
  clear hr
  go_enter Tryd.func61, Tryd.ntmps61
  go_wp2
  go_loopw [5, 6, 7, 8, 9, 10, 11, 12, 13, 14, 15, 16, 17] (fun kv _ _ _ _ _ _ _ _ _ _ _ _ wr => ∃ k : Nat, k ≤ l.length ∧ kv = .int .i64 (k : Int) ∧ wr = w ∧ Aside0 (l.contains n = (l.drop k).contains n)) (fun kv _ _ _ _ _ _ _ _ _ _ _ _ _ => l.length - (intOf kv).toNat)
  case atStart => exact ⟨0, Nat.zero_le _, rfl, rfl, ⟨rfl⟩⟩
  case round =>
    obtain ⟨k, hk, rfl, rfl, HD⟩ := hrel
    by_cases hlt : k < l.length
    · have hd : decide ((k : Int) < (l.length : Int)) = true := by simp; omega
      have hd2 : decide (k < l.length) = true := by simp; omega
      have hk0 : (0 : Int) ≤ (k : Int) := by omega
      have hk1 : (k : Int) < (l.length : Int) := by omega
      have HLT := Aside0.mk hlt
      obtain ⟨ad, rfl, hx⟩ := Kd.at_int HR.out k (by omega) (by omega)
      rw [Int.toNat_natCast] at hx
      obtain ⟨x, hxx⟩ : ∃ x, x = rd l (k : Int) := ⟨_, rfl⟩
      rw [← hxx] at hx
      have HX := Aside0.mk (show l.drop k = x :: l.drop (k + 1) by
        rw [List.drop_eq_getElem_cons hlt, hxx]
        simp [rd, List.getD_eq_getElem?_getD, List.getElem?_eq_getElem hlt])
      clear hxx hlt hk
      by_cases he : x = n
      · have c1 : (x == n) = true := by simpa using he
        have HE := Aside0.mk he
        clear he
        go_wp2
        go_ret
        refine ⟨?_, Below.refl _ _⟩
        have e : l.contains n = true := by rw [HD.out, HX.out, HE.out]; simp
        rw [e]
        rfl
      · have c1 : (x == n) = false := by simpa using he
        have HE := Aside0.mk he
        clear he
        go_wp2
        go_roundw
        case rel =>
          refine ⟨k + 1, HLT.out, by rw [w_up HLT.out HMX.out], by first | rfl | trivial, ⟨?_⟩⟩
          rw [HD.out, HX.out, List.contains_cons]
          have : (n == x) = false := by rw [beq_eq_false_iff_ne]; exact fun e => HE.out e.symm
          rw [this, Bool.false_or]
        case measure => exact meas_up HLT.out HMX.out
    · obtain rfl : k = l.length := by omega
      have hd : decide ((l.length : Int) < (l.length : Int)) = false := by simp
      have hd2 : decide (l.length < l.length) = false := by simp
      clear hlt hk
      go_wp2
      go_ret
      refine ⟨?_, Below.refl _ _⟩
      have e : l.contains n = false := by rw [HD.out, List.drop_length]; rfl
      rw [e]
      rfl
set_option maxRecDepth 100000 in
set_option maxHeartbeats 4000000 in
theorem withoutR_calls (A : Option Addr) (c : Nat) (l : List S38) (hl8 : l.length ≤ 8) (A' : Option Addr) (c' : Nat) (ss : List Int) (w : World) (hr : Kd.C k38 w A l.length l) (hv : Kd.C (Kd.int .i64) w A' ss.length ss) :
    Calls Tryd.prog 29 #[.slice A l.length c, .slice A' ss.length c'] w fun e w' => ∃ v', e = .returned v' ∧ Kd.R k38 38 w' w.heap.size (fun _ => True) v' (withoutL l ss) ∧ Below w.heap.size w w' := by
  have HR := Aside0.mk hr
  have HV := Aside0.mk hv
  have H8 := Aside0.mk hl8
  clear hr hv hl8
  go_enter Tryd.func29, Tryd.ntmps29
  go_wp2_with (fail)
  go_loopw [5, 6, 7, 8, 9, 10, 11, 12, 13, 14, 15, 16, 17, 18, 19, 20, 21, 22, 23] (fun V5 jv _ _ _ _ _ _ _ _ _ _ _ _ _ _ _ _ _ wr => ∃ j : Nat, j ≤ l.length ∧ jv = .int .i64 (j : Int) ∧ Aside0 (Kd.R k38 38 wr w.heap.size (fun _ => True) V5 (withoutTo l ss j)) ∧ Aside0 (Below w.heap.size w wr))
    (fun _ jv _ _ _ _ _ _ _ _ _ _ _ _ _ _ _ _ _ _ => l.length - (intOf jv).toNat)
  case atStart => exact ⟨0, Nat.zero_le _, rfl, ⟨by rw [show withoutTo l ss 0 = [] from rfl]; exact Kd.R_nil _ _ _ _ _⟩, ⟨Below.refl _ _⟩⟩
  case round =>
    obtain ⟨j, hj, rfl, HO, HB⟩ := hrel
    by_cases hlt : j < l.length
    · have hd : decide ((j : Int) < (l.length : Int)) = true := by simp; omega
      have hdn : decide (j < l.length) = true := by simp; omega
      have hj0 : (0 : Int) ≤ (j : Int) := by omega
      have hj1 : (j : Int) < (l.length : Int) := by omega
      have HLT := Aside0.mk hlt
      obtain ⟨ad, rfl, hx0, hx1⟩ := at_T38 HR.out j (by omega) (by omega)
      rw [Int.toNat_natCast] at hx0 hx1
      replace hx0 := (HB.out.cell (World.block_lt_of_cell? w _ hx0)).trans hx0
      replace hx1 := (HB.out.cell (World.block_lt_of_cell? w _ hx1)).trans hx1
      obtain ⟨kd, hkd⟩ : ∃ kd, kd = (rd_T38 l (j : Int)).f0 := ⟨_, rfl⟩
      obtain ⟨sg, hsg⟩ : ∃ sg, sg = (rd_T38 l (j : Int)).f1 := ⟨_, rfl⟩
      rw [← hkd] at hx0
      rw [← hsg] at hx1
      have HM := Aside0.mk (show ∀ (W : World) (b : Nat), Kd.M k38 W b (fun _ => False) (rd_T38 l (j : Int)) [.int .i64 kd, .string sg] from fun W b => by rw [hkd, hsg]; exact k38_mkM W b _ _)
      have HC := Aside0.mk (hasR_calls A' c' ss (j : Int) wr (Kd.C_below HV.out HB.out))
      have HX0 := Aside0.mk hx0
      have HX1 := Aside0.mk hx1
      clear hkd hsg hj hlt hx0 hx1
      cases hin : ss.contains (j : Int) with
      | true =>
        have HIN := Aside0.mk hin
        rw [hin] at HC
        clear hin
        go_wp2_with (go_at_call 61; with_reducible refine HC.out.mono ?_; rintro e w3 ⟨rfl, hb⟩; have HB3 := Aside0.mk hb; clear hb)
        go_roundw
        case rel => exact ⟨j + 1, HLT.out, by rw [w_up HLT.out (by have := H8.out; omega)], ⟨by rw [withoutTo_skip HIN.out]; exact Kd.R_below HO.out HB3.out⟩, ⟨below_then HB.out HB.out.size HB3.out⟩⟩
        case measure => exact meas_up HLT.out (by have := H8.out; omega)
      | false =>
        have HIN := Aside0.mk hin
        rw [hin] at HC
        clear hin
        obtain ⟨ao, co, hv5⟩ := Kd.R_slice HO.out
        subst hv5
        go_upto_region 6 with (go_at_call 61; with_reducible refine HC.out.mono ?_; rintro e w3 ⟨rfl, hb⟩; have HB3 := Aside0.mk (below_then HB.out HB.out.size hb); have HO3 := Aside0.mk (Kd.R_below HO.out hb); have hx0 := (hb.cell (World.block_lt_of_cell? _ _ HX0.out)).trans HX0.out; have hx1 := (hb.cell (World.block_lt_of_cell? _ _ HX1.out)).trans HX1.out; clear hb)
        go_wp2_with (at_builtin; refine Kd.R_append k38 (w0 := w) w.heap.size rfl (.tmp 17) (.tmp 22) 25 38 (.agg #[(.int .i64 0), (.string ⟨#[]⟩)]) 24 rfl Tryd.underlying25 info38 rfl (by decide) (by decide) (.slice ao (withoutTo l ss j).length co) (withoutTo l ss j) (rd_T38 l (j : Int)) [.int .i64 kd, .string sg] (fun _ => True) (fun _ => False) rfl rfl (HM.out _ _) (fun k hk => hk.elim) (fun _ _ => trivial) HO3.out HB3.out HB3.out.size (by have := withoutTo_len l ss j; have := HLT.out; have := H8.out; omega) ?_; intro v1 w5 hr5 hb5 hg5 hat5)
        go_roundw
        case rel => exact ⟨j + 1, HLT.out, by rw [w_up HLT.out (by have := H8.out; omega)], ⟨by rw [withoutTo_step HIN.out]; exact hr5⟩, ⟨hb5⟩⟩
        case measure => exact meas_up HLT.out (by have := H8.out; omega)
    · obtain rfl : j = l.length := by omega
      have hd : decide ((l.length : Int) < (l.length : Int)) = false := by simp
      have hdn : decide (l.length < l.length) = false := by simp
      clear hj hlt
      go_wp2_with (fail)
      go_ret
      exact ⟨_, rfl, HO.out, HB.out⟩
theorem listsP_len : ∀ (d n m : Nat), (listsP d n m).length ≤ 2 ^ d
  | d, n, 0 => by rw [listsP]; exact Nat.one_le_two_pow
  | 0, n, m + 1 => by rw [listsP]; simp
  | d + 1, n, m + 1 => by
    have h1 := listsP_len d n m
    have h2 := listsP_len d n (m + 1)
    rw [listsP, List.length_append, List.length_map, Nat.pow_succ]
    omega
theorem listsP_row : ∀ (d n m : Nat), ∀ r ∈ listsP d n m, r.length = m
  | d, n, 0, r, h => by
    rw [listsP, List.mem_singleton] at h
    rw [h]
    rfl
  | 0, n, m + 1, r, h => by rw [listsP] at h; cases h
  | d + 1, n, m + 1, r, h => by
    rw [listsP, List.mem_append, List.mem_map] at h
    rcases h with ⟨q, hq, rfl⟩ | h
    · rw [List.length_cons, listsP_row d n m q hq]
    · exact listsP_row d n (m + 1) r h
theorem listsP_step {n i m : Nat} (h : i < n) : listsP (n - i) n (m + 1) = ((listsP (n - (i + 1)) n m).map fun r => (i : Int) :: r) ++ listsP (n - (i + 1)) n (m + 1) := by
  obtain ⟨d, hd⟩ : ∃ d, n - i = d + 1 := ⟨n - i - 1, by omega⟩
  rw [hd, listsP, show n - (i + 1) = d by omega, show n - (d + 1) = i by omega]
theorem lit_R (W : World) (x : Int) : (Kd.int .i64).R 3 (W.alloc (.cells #[.int .i64 x] 3)) W.heap.size (fun _ => True) (.slice (some ⟨W.heap.size, 0, none⟩) 1 1) [x] := by
  have h2 := World.ownsRow_lit (base := W.heap.size) (e := 3) (size := 1) W #[.int .i64 x] 1 (Nat.le_refl _) (by decide) rfl
  exact Kd.R_of_own (xs := [x]) h2 (fun _ _ => trivial)
theorem lit_S (W : World) : Kd.S (Kd.slice 3 (Kd.int .i64)) 22 (W.alloc (.cells #[.slice none 0 0] 22)) W.heap.size (fun _ => True) (.slice (some ⟨W.heap.size, 0, none⟩) 1 1) [[]] := by
  have h2 := World.ownsRow_lit (base := W.heap.size) (e := 22) (size := 1) W #[.slice none 0 0] 1 (Nat.le_refl _) (by decide) rfl
  exact ⟨fun _ => 0, fun _ _ => trivial, _, h2, Reps.one ⟨_, rfl, Kd.R_nil _ _ _ _ _⟩ (Reps.none _ _)⟩
theorem R_own_ints {W : World} {base : Nat} {ok : Nat → Prop} {v : Value} {xs : List Int} (h : (Kd.int .i64).R 3 W base ok v xs) : ∀ k, v.ownBlock = some k → k < W.heap.size := Kd.R_lt h
set_option maxRecDepth 100000 in
set_option maxHeartbeats 4000000 in
theorem lists_calls : ∀ (m : Nat) (a n : Nat) (ha : a ≤ n) (hn : n ≤ 8) (hm : m ≤ 8) (w : World), Calls Tryd.prog 28 #[.int .i64 (a : Int), .int .i64 (n : Int), .int .i64 (m : Int)] w fun e w' => ∃ v, e = .returned v ∧ Kd.S (Kd.slice 3 (Kd.int .i64)) 22 w' w.heap.size (fun _ => True) v (listsP (n - a) n m) ∧ Below w.heap.size w w'
  | 0, a, n, ha, hn, hm, w => by
    go_enter Tryd.func28, Tryd.ntmps28
    go_wp2
    go_ret
    exact ⟨_, rfl, by rw [show listsP (n - a) n 0 = [[]] by rw [listsP]]; exact lit_S w, below_alloc (Below.refl _ _) _⟩
  | m + 1, a, n, ha, hn, hm, w => by
    have HA := Aside0.mk ha
    have HN := Aside0.mk hn
    have HM := Aside0.mk hm
    have HREC := Aside0.mk (fun (i : Nat) (hi : i < n) (W : World) => lists_calls m (i + 1) n hi hn (by omega) W)
    obtain ⟨M, hM⟩ : ∃ M : Nat, M = m + 1 := ⟨_, rfl⟩
    have HMM := Aside0.mk hM
    rw [← hM]
    have hw1 : wrap64 ((M : Int) - 1) = (m : Int) := by unfold wrap64; omega
    have hz : ((M : Int) == 0) = false := by rw [beq_eq_false_iff_ne]; omega
    have hz2 : (M == 0) = false := by rw [beq_eq_false_iff_ne]; omega
    clear hM
    clear ha hn hm
    go_enter Tryd.func28, Tryd.ntmps28
    go_wp2
    go_loopw [7, 8, 9, 10, 15, 16, 17, 18, 19, 20, 21, 22, 23, 24, 25, 26, 27, 28, 29, 30, 31, 32, 33, 34, 35, 36, 37, 38, 39, 40, 41] (fun v7 v8 _ _ _ _ _ _ _ _ _ _ _ _ _ _ _ _ _ _ _ _ _ _ _ _ _ _ _ _ _ wr => ∃ i : Nat, i ≤ n ∧ a ≤ i ∧ v8 = .int .i64 (i : Int) ∧ Aside0 (Below w.heap.size w wr) ∧ ∃ out : List (List Int), Aside0 (out ++ listsP (n - i) n M = listsP (n - a) n M) ∧ Aside0 (Kd.S (Kd.slice 3 (Kd.int .i64)) 22 wr w.heap.size (fun _ => True) v7 out)) (fun v7 v8 _ _ _ _ _ _ _ _ _ _ _ _ _ _ _ _ _ _ _ _ _ _ _ _ _ _ _ _ _ _ => n - (intOf v8).toNat)
    case atStart => exact ⟨a, HA.out, Nat.le_refl _, rfl, ⟨Below.refl _ _⟩, [], ⟨rfl⟩, ⟨Kd.S_nil _ _ _ _ _⟩⟩
    case round =>
      obtain ⟨i, hi, hai, rfl, HB, out, HO, HSO⟩ := hrel
      by_cases hlt : i < n
      · have hd : decide ((i : Int) < (n : Int)) = true := by simp; omega
        have hd2 : decide (i < n) = true := by simp; omega
        have hw3 : wrap64 ((i : Int) + 1) = ((i + 1 : Nat) : Int) := w_up hlt (by have := HN.out; omega)
        have HLT := Aside0.mk hlt
        have HAI := Aside0.mk hai
        have HRC := Aside0.mk (HREC.out i hlt wr)
        rw [show ((i + 1 : Nat) : Int) = (i : Int) + 1 from rfl] at HRC
        clear hi hai hlt
        obtain ⟨ao, co, hv7⟩ := Kd.S_slice HSO.out
        subst hv7
        go_upto_region 8 with (go_at_call 28; with_reducible refine HRC.out.mono ?_; rintro e w5 ⟨v9, rfl, hs5, hb5⟩; obtain ⟨ar, cr, hv9⟩ := Kd.S_slice hs5; subst hv9; have HR5 := Aside0.mk hs5; have HB5 := Aside0.mk hb5; clear hs5 hb5)
        obtain ⟨rs, hrs⟩ : ∃ rs, rs = listsP (n - (i + 1)) n m := ⟨_, rfl⟩
        rw [← hrs] at HR5 ⊢
        have HRS := Aside0.mk hrs
        have HRL := Aside0.mk (show rs.length ≤ 256 from by
          have h := listsP_len (n - (i + 1)) n m
          rw [hrs]
          exact Nat.le_trans h (Nat.le_trans (Nat.pow_le_pow_right (by omega) (show n - (i + 1) ≤ 8 by have := HN.out; omega)) (by decide)))
        have HRR := Aside0.mk (show ∀ r ∈ rs, r.length = m from fun r hr => listsP_row _ _ _ r (hrs ▸ hr))
        have HOL := Aside0.mk (show out.length + rs.length ≤ 256 from by
          have h := congrArg List.length HO.out
          rw [HMM.out, listsP_step HLT.out, ← hrs, List.length_append, List.length_append, List.length_map] at h
          have h2 := listsP_len (n - a) n (m + 1)
          have h3 : 2 ^ (n - a) ≤ 2 ^ 8 := Nat.pow_le_pow_right (by omega) (by have := HN.out; omega)
          have h4 : (2 : Nat) ^ 8 = 256 := by decide
          omega)
        have HBw := Aside0.mk (below_then HB.out HB.out.size HB5.out)
        have HR6 := Aside0.mk (show Kd.S (Kd.slice 3 (Kd.int .i64)) 22 w5 wr.heap.size (fun k => wr.heap.size ≤ k ∧ k < w5.heap.size) (.slice ar rs.length cr) rs from Kd.S_mono (Kd.S_bound HR5.out) (fun k hk => ⟨hk.2.1, hk.2.2.1⟩))
        have HO6 := Aside0.mk (show Kd.S (Kd.slice 3 (Kd.int .i64)) 22 w5 w.heap.size (fun k => k < wr.heap.size ∨ w5.heap.size ≤ k) (.slice ao out.length co) out from Kd.S_below (Kd.S_mono (Kd.S_bound HSO.out) (fun k hk => .inl hk.2.2.1)) HB5.out)
        obtain ⟨Wi, hWi⟩ : ∃ Wi, Wi = wr := ⟨_, rfl⟩
        rw [← hWi] at HR6 HO6
        have HWI := Aside0.mk (show Wi.heap.size ≤ w5.heap.size by rw [hWi]; exact HB5.out.size)
        clear hrs hWi hw1 hd hd2 hw3 HR5 HSO HRC
        go_wp2
        go_loopw [7, 10, 26, 27, 28, 29, 30, 31, 32, 33, 34, 35, 36, 37, 38, 39, 40, 41] (fun v7 v10 _ _ _ _ _ _ _ _ _ _ _ _ _ _ _ _ wr => ∃ k : Nat, k ≤ rs.length ∧ v10 = .int .i64 (k : Int) ∧ Aside0 (Below w.heap.size w wr) ∧ Aside0 (w5.heap.size ≤ wr.heap.size) ∧ Aside0 (Kd.S (Kd.slice 3 (Kd.int .i64)) 22 wr Wi.heap.size (fun k => Wi.heap.size ≤ k ∧ k < w5.heap.size) (.slice ar rs.length cr) rs) ∧ Aside0 (Kd.S (Kd.slice 3 (Kd.int .i64)) 22 wr w.heap.size (fun k => k < Wi.heap.size ∨ w5.heap.size ≤ k) v7 (out ++ (rs.take k).map fun r => (i : Int) :: r))) (fun v7 v10 _ _ _ _ _ _ _ _ _ _ _ _ _ _ _ _ _ => rs.length - (intOf v10).toNat)
        case atStart => exact ⟨0, Nat.zero_le _, rfl, HBw, ⟨Nat.le_refl _⟩, HR6, ⟨by rw [List.take_zero, List.map_nil, List.append_nil]; exact HO6.out⟩⟩
        case round =>
          clear HBw HR6 HO6
          obtain ⟨k, hk, rfl, HBk, HSZ, HRk, HOk⟩ := hrel
          by_cases hkl : k < rs.length
          · have hd : decide ((k : Int) < (rs.length : Int)) = true := by simp; omega
            have hd2 : decide (k < rs.length) = true := by simp; omega
            have hk0 : (0 : Int) ≤ (k : Int) := by omega
            have hk1 : (k : Int) < (rs.length : Int) := by omega
            have HKL := Aside0.mk hkl
            obtain ⟨ad, A1, c1, e1, hc1, hC1⟩ := rowI_at (Kd.S_reads' HRk.out).2.2 (j := k) hkl
            subst e1
            obtain ⟨row, hrow⟩ : ∃ row, row = rs.getD k [] := ⟨_, rfl⟩
            rw [← hrow] at hc1 hC1
            have HROW := Aside0.mk (show row.length = m from HRR.out row (by rw [hrow, List.getD_eq_getElem?_getD, List.getElem?_eq_getElem hkl]; exact List.getElem_mem hkl))
            have HTK := Aside0.mk (show (rs.take (k + 1)).map (fun r => (i : Int) :: r) = (rs.take k).map (fun r => (i : Int) :: r) ++ [(i : Int) :: row] from by
              rw [List.take_add_one, List.map_append, List.getElem?_eq_getElem hkl, hrow, List.getD_eq_getElem?_getD, List.getElem?_eq_getElem hkl]
              rfl)
            obtain ⟨ac, hac⟩ : ∃ ac, ac = out ++ (rs.take k).map fun r => (i : Int) :: r := ⟨_, rfl⟩
            rw [← hac] at HOk
            have HAC := Aside0.mk hac
            have HACL := Aside0.mk (show ac.length ≤ 256 from by
              rw [hac, List.length_append, List.length_map, List.length_take]
              have := HOL.out
              omega)
            obtain ⟨ao2, co2, hv7⟩ := Kd.S_slice HOk.out
            subst hv7
            have HLIT := Aside0.mk (lit_R wr (i : Int))
            have hc1' : (wr.alloc (.cells #[.int .i64 (i : Int)] 3)).cell? (ad.add k) = some (.slice A1 row.length c1) := ((below_alloc (Below.refl _ wr) _).cell (World.block_lt_of_cell? _ _ hc1)).trans hc1
            have HC1 := Aside0.mk (show Kd.C (Kd.int .i64) (wr.alloc (.cells #[.int .i64 (i : Int)] 3)) A1 row.length row from Kd.C_below hC1 (below_alloc (Below.refl _ _) _))
            have HP6 := fun (w6 : World) (a39 : Option Addr) (c39 : Nat) (h : (Kd.int .i64).R 3 w6 wr.heap.size (fun _ => True) (.slice a39 (row.length + 1) c39) ([(i : Int)] ++ row)) (hb : Below wr.heap.size wr w6) => show Kd.M (Kd.slice 3 (Kd.int .i64)) w6 w.heap.size (fun k => (Value.slice a39 (row.length + 1) c39).ownBlock = some k) ((i : Int) :: row) [.slice a39 (row.length + 1) c39] from ⟨_, rfl, Kd.R_lower (Kd.R_mono (Kd.R_tight rfl h) (fun k hk => hk.symm)) HBk.out.size⟩
            have HOK6 := fun (w6 : World) (a39 : Option Addr) (c39 : Nat) (h : (Kd.int .i64).R 3 w6 wr.heap.size (fun _ => True) (.slice a39 (row.length + 1) c39) ([(i : Int)] ++ row)) (k : Nat) (hk : (Value.slice a39 (row.length + 1) c39).ownBlock = some k) => show (k < Wi.heap.size ∨ w5.heap.size ≤ k) ∧ some k ≠ (Value.slice ao2 ac.length co2).ownBlock from by
              have h1 := Kd.R_base h k hk
              have := HSZ.out
              refine ⟨.inr (by omega), fun e => ?_⟩
              have h2 := Kd.S_lt HOk.out k e.symm
              omega
            have HOS6 := fun (w6 : World) (a39 : Option Addr) (c39 : Nat) (h : (Kd.int .i64).R 3 w6 wr.heap.size (fun _ => True) (.slice a39 (row.length + 1) c39) ([(i : Int)] ++ row)) (hb : Below wr.heap.size wr w6) => show Kd.S (Kd.slice 3 (Kd.int .i64)) 22 w6 w.heap.size (fun k => (k < Wi.heap.size ∨ w5.heap.size ≤ k) ∧ ¬ (Value.slice a39 (row.length + 1) c39).ownBlock = some k) (.slice ao2 ac.length co2) ac from Kd.S_below (Kd.S_mono (Kd.S_bound HOk.out) (fun k hk => ⟨hk.1, fun e => by have h1 := Kd.R_base h k e; have := hk.2.2.1; omega⟩)) hb
            clear hrow hk hkl hac hC1
            go_wp2_with (first
              | (at_builtin; refine Kd.R_append_rows (Kd.int .i64) (w0 := wr) wr.heap.size rfl (.tmp 34) (.tmp 38) 22 3 (.int .i64 0) 8 rfl Tryd.underlying22 info3 rfl (by decide) (by decide) (.slice (some ⟨wr.heap.size, 0, none⟩) 1 1) [(i : Int)] row A1 row.length c1 (fun _ => True) (fun _ => False) rfl rfl HLIT.out HC1.out (fun _ _ h => h) (fun _ h => h.elim) (fun _ _ => trivial) (below_alloc (Below.refl _ _) _) (by simp) (by have := HROW.out; have := HM.out; simp; omega) ?_; intro v39 w6 h39 hb6 hg6 hat6; obtain ⟨a39, c39, hv39⟩ := Kd.R_slice h39; rw [show ([(i : Int)] ++ row).length = row.length + 1 from by simp] at hv39; subst hv39; have H39 := Aside0.mk h39; have HB6 := Aside0.mk hb6; clear h39 hb6 hg6 hat6)
              | (at_builtin; refine Kd.S_append (Kd.slice 3 (Kd.int .i64)) (w0 := w) (W := w6) w.heap.size rfl (.tmp 32) (.tmp 40) 32 22 (.slice none 0 0) 24 rfl Tryd.underlying32 infoRow rfl (by decide) (by decide) (.slice ao2 ac.length co2) ac ((i : Int) :: row) [.slice a39 (row.length + 1) c39] (fun k => k < Wi.heap.size ∨ w5.heap.size ≤ k) (fun k => (Value.slice a39 (row.length + 1) c39).ownBlock = some k) rfl rfl (HP6 w6 a39 c39 H39.out HB6.out) (fun k hk => HOK6 w6 a39 c39 H39.out k hk) (fun k hk => .inr (Nat.le_trans HSZ.out (Nat.le_trans HB6.out.size hk))) (HOS6 w6 a39 c39 H39.out HB6.out) (below_then HBk.out HBk.out.size HB6.out) (Nat.le_trans HBk.out.size HB6.out.size) (by have := HACL.out; omega) ?_; intro v41 w7 hs7 hb7 hg7 hat7; have HS7 := Aside0.mk hs7; have HB7 := Aside0.mk hb7; have HG7 := Aside0.mk hg7; clear hs7 hb7 hg7 hat7))
            go_roundw
            case rel =>
              refine ⟨k + 1, HKL.out, by rw [w_up HKL.out (by have := HRL.out; omega)], HB7, ⟨Nat.le_trans HSZ.out (Nat.le_trans HB6.out.size HG7.out.size)⟩, ⟨?_⟩, ⟨by rw [HTK.out, ← List.append_assoc, ← HAC.out]; exact HS7.out⟩⟩
              refine Kd.S_move (Kd.S_below HRk.out HB6.out) (fun k hk => HG7.out.block k (by have := HSZ.out; have := HB6.out.size; omega) (fun e => ?_))
              have := (Kd.S_R HOk.out).1 k e.symm
              omega
            case measure => exact meas_up HKL.out (by have := HRL.out; omega)
          · obtain rfl : k = rs.length := by omega
            have hd : decide ((rs.length : Int) < (rs.length : Int)) = false := by simp
            have hd2 : decide (rs.length < rs.length) = false := by simp
            clear hk hkl
            go_wp2
            go_roundw
            case rel =>
              refine ⟨i + 1, HLT.out, Nat.le_succ_of_le HAI.out, by rw [w_up HLT.out (by have := HN.out; omega)], HBk, _, ⟨?_⟩, ⟨Kd.S_mono HOk.out (fun _ _ => trivial)⟩⟩
              rw [List.take_length, ← HO.out, HMM.out, listsP_step HLT.out, ← HRS.out, List.append_assoc]
            case measure => exact meas_up HLT.out (by have := HN.out; omega)
      · obtain rfl : i = n := by omega
        have hd : decide ((i : Int) < (i : Int)) = false := by simp
        have hd2 : decide (i < i) = false := by simp
        have hfin : out = listsP (i - a) i M := by
          have h := HO.out
          rw [Nat.sub_self, show listsP 0 i M = [] by rw [HMM.out, listsP], List.append_nil] at h
          exact h
        have HFIN := Aside0.mk hfin
        clear hi hlt hfin
        go_wp2
        go_ret
        exact ⟨_, rfl, by rw [← HFIN.out]; exact HSO.out, HB.out⟩
end Go.Proofs.YtgfikondoehblaaDoor.Pr
end
section
namespace Go.Proofs.YtgfikondoehblaaDoor.Pr
open Go.RowKit Go.Shelf Go.Proofs.YtgfikondoehblaaDoorW.PrintWords Go.Proofs.YtgfikondoehblaaDoorW.PrintLast Go.Proofs.YtgfikondoehblaaDoorW.PrintMore Go.Proofs.SumKeep
open SumPlain (Ent AccSo lostSum numeralP listsP allLists)
def strR (o : Option (List Int)) : List Int × Int := match o with | some r => (r, 0) | none => ([], 9)
theorem numeralM_calls (m : Nat) (hm : 1 ≤ m ∧ m ≤ 4999) (w : World) (hS : SignsAt w) : Calls Tryd.prog 24 #[.int .i64 (m : Int)] w fun e w' => e = .returned (.tuple #[.string (strOf (numeralP m)), .int .i64 0]) ∧ Below w.heap.size w w' := by
  have h := numeralL_calls (m : Int) w hS
  rw [show numeralL (m : Int) = (strOf (numeralP m), 0) from (if_pos (by omega)).trans (by rw [Int.toNat_natCast])] at h
  exact h
set_option maxRecDepth 100000 in
set_option maxHeartbeats 8000000 in
theorem less_calls (A : Option Addr) (c : Nat) (nums : List Int) (w : World) (hr : Kd.C (Kd.int .i64) w A nums.length nums) (hS : SignsAt w) :
    Calls Tryd.prog 6 #[.slice A nums.length c] w fun e w' => e = .returned (.bool true) ∧ Below w.heap.size w w' := by
  have HR := Aside0.mk hr
  have HS := Aside0.mk hS
  clear hr hS
  go_enter Tryd.func6, Tryd.ntmps6
  go_upto_region 4 with (first
    | (go_at_call 12; with_reducible refine (newUrn_calls A c nums w HR.out).mono ?_; rintro e w1 ⟨⟨g, rfl, hu, hg⟩, hb⟩; have HU1 := Aside0.mk hu; have HG := Aside0.mk hg; have HB1 := Aside0.mk hb; clear hu hg hb)
    | (go_at_call 13; with_reducible refine (accountOf_calls g 5 60 2 (by omega) (by omega) (by omega) w1 HU1.out).mono ?_; rintro e w2 ⟨v10, v11, xs, vals, sum, whole, rfl, hlen, hso, hlost, hr10, hr11, hu, ht⟩; obtain ⟨bl, cl, rfl, hbl, hcl, hE⟩ := ents_of_R hr10 hlen.1; have HEl := Aside0.mk hE; have HBL := Aside0.mk (show g ≠ bl ∧ w.heap.size ≤ bl by have := HU1.out.lt; have := HB1.out.size; omega); have HLEN := Aside0.mk (show 1 ≤ xs.length ∧ xs.length ≤ 5 by omega); have HST := Aside0.mk (stands_made hso (by omega)); have HU2 := Aside0.mk hu; have HB2 := Aside0.mk (HB1.out.trans (ht.below (fun k hk => by rw [hk]; exact HG.out) HB1.out.size)); clear hE hbl hcl hlen hso hlost hr10 hr11 hu ht)
    | (go_at_call 18; with_reducible refine (up_calls g 3 (by omega) w2 HU2.out).mono ?_; rintro e w3 ⟨⟨j0, rfl, hj0, hj1⟩, hu, ht⟩; have HU3 := Aside0.mk hu; have HEl3 := Aside0.mk (HEl.out.turn ht (Ne.symm HBL.out.1)); have HB3 := Aside0.mk (HB2.out.trans (ht.below (fun k hk => by rw [hk]; exact HG.out) HB2.out.size)); have HJ := Aside0.mk (And.intro hj0 hj1); clear hu ht hj0 hj1))
  obtain ⟨J, rfl⟩ : ∃ J : Nat, j0 = (J : Int) := ⟨j0.toNat, by have := HJ.out; omega⟩
  have HGU := Aside0.mk HG.out
  obtain ⟨n0, hn0⟩ : ∃ n0, n0 = xs.length := ⟨_, rfl⟩
  have HN0 := Aside0.mk (show 1 ≤ n0 ∧ n0 ≤ 5 by have := HLEN.out; omega)
  rw [← hn0]
  have HXL := Aside0.mk hn0.symm
  clear hn0 HU1 HU2 HB1 HB2 HEl
  go_loopw [6, 23, 24, 25, 26, 27, 28, 29, 30, 31, 32, 33, 34, 35, 36, 37, 38, 39] (fun v6 _ _ _ _ _ _ _ _ _ _ _ _ _ _ _ _ _ wr => ∃ (j : Nat) (ys : List S38), j ≤ 3 ∧ v6 = .int .i64 (j : Int) ∧ Aside0 (ys.length = n0) ∧ Aside0 (EntsAt wr bl ys) ∧ Aside0 (StandsL ys) ∧ Aside0 (UrnAt wr g) ∧ Aside0 (Below w.heap.size w wr)) (fun v6 _ _ _ _ _ _ _ _ _ _ _ _ _ _ _ _ _ _ => (intOf v6).toNat)
  case atStart => exact ⟨J, xs, by have := HJ.out; omega, rfl, HXL, HEl3, HST, HU3, HB3⟩
  case round =>
    clear HEl3 HU3 HB3 HST
    obtain ⟨j, ys, hj, rfl, HYL, HE, HST, HU, HB⟩ := hrel
    by_cases hlt : 0 < j
    · have hd1 : decide (0 < j) = true := decide_eq_true hlt
      have hd2 : decide ((j : Int) > 0) = true := by simp; omega
      have hwj : wrap64 ((j : Int) - 1) = ((j - 1 : Nat) : Int) := by unfold wrap64; omega
      have HLT := Aside0.mk hlt
      have HWJ := Aside0.mk hwj
      have HJ3 := Aside0.mk hj
      clear hlt hwj hj
      go_wp2_with (first
        | (go_at_call 18; with_reducible refine (up_calls g (n0 : Int) (by have := HN0.out; omega) wr HU.out).mono ?_; rintro e w4 ⟨⟨k0, rfl, hk0, hk1⟩, hu, ht⟩; obtain ⟨k, hk⟩ : ∃ k : Nat, k0 = (k : Int) := ⟨k0.toNat, by omega⟩; subst hk; have HU4 := Aside0.mk hu; have HE4 := Aside0.mk (HE.out.turn ht (Ne.symm HBL.out.1)); have HB4 := Aside0.mk (HB.out.trans (ht.below (fun k hk => by rw [hk]; exact HG.out) HB.out.size)); have HK := Aside0.mk (show k < n0 by omega); clear hu ht hk0)
        | (go_at_call 25; with_reducible refine (from_calls g 1 30 (by omega) w4 HU4.out).mono ?_; rintro e w5 ⟨⟨m0, rfl, hm0, hm1⟩, hu, ht⟩; obtain ⟨m, hm⟩ : ∃ m : Nat, m0 = (m : Int) := ⟨m0.toNat, by omega⟩; subst hm; have HU5 := Aside0.mk hu; have HE5 := Aside0.mk (HE4.out.turn ht (Ne.symm HBL.out.1)); have HB5 := Aside0.mk (HB4.out.trans (ht.below (fun k hk => by rw [hk]; exact HG.out) HB4.out.size)); have HM := Aside0.mk (show 1 ≤ m ∧ m ≤ 4999 by omega); clear hu ht hm0 hm1)
        | (go_at_call 24; with_reducible refine (numeralM_calls m HM.out w5 (HS.out.new HB5.out)).mono ?_; rintro e w6 ⟨rfl, hb⟩; have HU6 := Aside0.mk (HU5.out.below hb); have HE6 := Aside0.mk (HE5.out.below hb); have HB6 := Aside0.mk (below_then HB5.out HB5.out.size hb); have hk0 : (0 : Int) ≤ (k : Int) := Int.natCast_nonneg k; have hkn : k < n0 := HK.out; have hc1 := HE6.out.c1 (rd_get (l := ys) (i := k) (by rw [HYL.out]; exact HK.out)); have hf1 := HE6.out.frozen (k * 2 + 1); have hl1 := HE6.out.lt; clear hb))
      go_roundw
      case rel => exact ⟨j - 1, ys.set k ⟨(rd_T38 ys (k : Int)).f0, strOf (numeralP m)⟩, by have := HJ3.out; omega, by rw [HWJ.out], ⟨by rw [List.length_set]; exact HYL.out⟩, ⟨HE6.out.set1 (rd_get (l := ys) (i := k) (by rw [HYL.out]; exact HK.out)) _⟩, ⟨HST.out.put (rd_get (l := ys) (i := k) (by rw [HYL.out]; exact HK.out)) HM.out⟩, ⟨HU6.out.keep (Below.heap_setCell _ _ _ _ HBL.out.1)⟩, ⟨below_set HB6.out HBL.out.2⟩⟩
      case measure => have := HLT.out; rw [HWJ.out]; simp [intOf]; omega
    · obtain rfl : j = 0 := by omega
      have hd1 : decide (0 < 0) = false := by simp
      have hd2 : decide (((0 : Nat) : Int) > 0) = false := by simp
      clear hlt hj
      go_upto_if 41 with (go_at_call 26; with_reducible refine (odds_calls g 1 9 (by omega) wr HU.out).mono ?_; rintro e w4 ⟨⟨b, rfl⟩, hu, ht⟩; have HE4 := Aside0.mk (HE.out.turn ht (Ne.symm HBL.out.1)); have HB4 := Aside0.mk (HB.out.trans (ht.below (fun k hk => by rw [hk]; exact HG.out) HB.out.size)); clear hu ht)
      go_cut [4] (fun v4 wd => ∃ (b' c' : Nat) (zs : List S38), v4 = .slice (some ⟨b', 0, none⟩) zs.length c' ∧ Aside0 (1 ≤ zs.length ∧ zs.length ≤ 5) ∧ Aside0 (EntsAt wd b' zs) ∧ Aside0 (StandsL zs) ∧ Aside0 (Below w.heap.size w wd))
      case first =>
        cases b with
        | false =>
          go_wp2_with (fail)
          go_meet
          case rel => exact ⟨bl, cl, ys, by rw [HYL.out], ⟨by rw [HYL.out]; exact HN0.out⟩, HE4, HST, HB4⟩
        | true =>
          have HF := fun (a : Int) (s : ByteArray) (W : World) => cippuslaw03_entry.calls a s a s W rfl
          go_wp2_with (first
            | (go_at_call 23; with_reducible refine (HF 2 ⟨#[86]⟩ w4).mono ?_; rintro e w7 ⟨rfl, hb⟩; have HB7 := Aside0.mk (below_then HB4.out HB4.out.size hb); clear hb)
            | (go_at_call 23; with_reducible refine (HF 3 ⟨#[73]⟩ w7).mono ?_; rintro e w8 ⟨rfl, hb⟩; have HB8 := Aside0.mk (below_then HB7.out HB7.out.size hb); clear hb))
          go_meet
          case rel => exact ⟨_, _, twoL, rfl, ⟨by decide⟩, ⟨two_lit _ _ (heap_alloc_new w8 _)⟩, ⟨stands_two⟩, ⟨below_alloc HB8.out _⟩⟩
      case rest =>
        obtain ⟨bz, cz, zs, rfl, HZL, HEZ, HSTZ, HBZ⟩ := hcut
        clear HE4 HB4 HST HE HU HB HYL
        have HCL := Aside0.mk (HSTZ.out.check HZL.out.1 (by have := HZL.out; omega))
        have HSX := Aside0.mk (check_sizes HCL.out)
        have HSK := Aside0.mk (struck_calls (some ⟨bz, 0, none⟩) cz zs wc HEZ.out.C HSX.out (HS.out.new HBZ.out))
        have HFR := Aside0.mk (show struckL zs = strR ((allLists zs.length).find? (okL zs)) from struck_find HCL.out HZL.out.2)
        obtain ⟨nz, hnz⟩ : ∃ nz, nz = zs.length := ⟨_, rfl⟩
        obtain ⟨fr, hfr⟩ : ∃ fr, fr = (allLists zs.length).find? (okL zs) := ⟨_, rfl⟩
        have HFD := Aside0.mk (show fr = (listsFrom nz 0).find? (okL zs) by rw [listsFrom_zero, hnz]; exact hfr)
        obtain ⟨sl, se, hsl⟩ : ∃ sl se, struckL zs = (sl, se) := ⟨_, _, rfl⟩
        have HSL := Aside0.mk (show (sl, se) = strR fr by rw [← hsl, hfr]; exact HFR.out)
        have HNZ := Aside0.mk hnz.symm
        rw [hsl] at HSK
        rw [← hnz] at HSK ⊢
        clear hnz hfr hsl HFR
        go_upto_region 10 with (go_at_call 27; with_reducible refine HSK.out.mono ?_; rintro e w9 ⟨v, rfl, hr, hb⟩; obtain ⟨A7, c7, hv, _, hC⟩ := Kd.R_reads hr; subst hv; have HSR := Aside0.mk hC; have HE9 := Aside0.mk (HEZ.out.below hb); have HB9 := Aside0.mk (below_then HBZ.out HBZ.out.size hb); clear hr hb hC)
        clear HSK HEZ HBZ
        go_wp2_with (fail)
        go_loopw [2, 9, 10, 11, 12, 13, 50, 51, 52, 53, 54, 55, 56, 57, 58, 59, 60, 61, 62, 63, 64, 65, 66, 67, 68, 69, 70, 71, 72, 73, 74, 75, 76, 77, 78, 79, 80, 81, 82, 83, 84, 85, 86, 87, 88, 89, 90, 91, 92] (fun _ v9 _ _ _ _ _ _ _ _ _ _ _ _ _ _ _ _ _ _ _ _ _ _ _ _ _ _ _ _ _ _ _ _ _ _ _ _ _ _ _ _ _ _ _ _ _ _ _ wr => ∃ m : Nat, m ≤ nz ∧ v9 = .int .i64 (m : Int) ∧ Aside0 (Below w9.heap.size w9 wr) ∧ Aside0 (fr = (listsFrom nz m).find? (okL zs))) (fun _ v9 _ _ _ _ _ _ _ _ _ _ _ _ _ _ _ _ _ _ _ _ _ _ _ _ _ _ _ _ _ _ _ _ _ _ _ _ _ _ _ _ _ _ _ _ _ _ _ _ => nz - (intOf v9).toNat)
        case atStart => exact ⟨0, Nat.zero_le _, rfl, ⟨Below.refl _ _⟩, HFD⟩
        case round =>
          clear HFD
          obtain ⟨m, hm, rfl, HBM, HFM⟩ := hrel
          by_cases hmlt : m < nz
          · have hd1 : decide ((m : Int) < (nz : Int)) = true := by simp; omega
            have hd2 : decide (m < nz) = true := by simp; omega
            have HML := Aside0.mk hmlt
            have HLC := Aside0.mk (lists_calls m 0 nz (Nat.zero_le _) (by have := HZL.out; have := HNZ.out; omega) (by have := HZL.out; have := HNZ.out; omega) wr)
            rw [show ((0 : Nat) : Int) = 0 from rfl, Nat.sub_zero] at HLC
            clear hm hmlt
            go_upto_region 14 with (go_at_call 28; with_reducible refine HLC.out.mono ?_; rintro e w10 ⟨v, rfl, hs, hb⟩; obtain ⟨A10, c10, hv⟩ := Kd.S_slice hs; subst hv; have HR10 := Aside0.mk (Kd.S_reads' hs).2.2; have HB10 := Aside0.mk (below_then HBM.out HBM.out.size hb); clear hs hb)
            obtain ⟨rs, hrs⟩ : ∃ rs, rs = listsP nz nz m := ⟨_, rfl⟩
            rw [← hrs] at HR10 ⊢
            have HRL := Aside0.mk (show rs.length ≤ 256 from by
              have h := listsP_len nz nz m
              rw [hrs]
              exact Nat.le_trans h (Nat.le_trans (Nat.pow_le_pow_right (by omega) (show nz ≤ 8 by have := HZL.out; have := HNZ.out; omega)) (by decide)))
            have HRR := Aside0.mk (show ∀ r ∈ rs, r.length = m from fun r hr => listsP_row _ _ _ r (hrs ▸ hr))
            have HFK := Aside0.mk (show fr = (rs.drop 0 ++ listsFrom nz (m + 1)).find? (okL zs) by rw [HFM.out, listsFrom_step HML.out, ← hrs]; rfl)
            clear hrs hd1 hd2 HLC
            go_wp2_with (fail)
            go_loopw [2, 11, 12, 13, 60, 61, 62, 63, 64, 65, 66, 67, 68, 69, 70, 71, 72, 73, 74, 75, 76, 77, 78, 79, 80, 81, 82, 83, 84, 85, 86, 87, 88, 89, 90, 91, 92] (fun _ v11 _ _ _ _ _ _ _ _ _ _ _ _ _ _ _ _ _ _ _ _ _ _ _ _ _ _ _ _ _ _ _ _ _ _ _ wr => ∃ k : Nat, k ≤ rs.length ∧ v11 = .int .i64 (k : Int) ∧ Aside0 (Below w10.heap.size w10 wr) ∧ Aside0 (fr = (rs.drop k ++ listsFrom nz (m + 1)).find? (okL zs))) (fun _ v11 _ _ _ _ _ _ _ _ _ _ _ _ _ _ _ _ _ _ _ _ _ _ _ _ _ _ _ _ _ _ _ _ _ _ _ _ => rs.length - (intOf v11).toNat)
            case atStart => exact ⟨0, Nat.zero_le _, rfl, ⟨Below.refl _ _⟩, HFK⟩
            case round =>
              clear HFK
              obtain ⟨k, hk, rfl, HBK, HFK⟩ := hrel
              by_cases hklt : k < rs.length
              · have hd1 : decide ((k : Int) < (rs.length : Int)) = true := by simp; omega
                have hd2 : decide (k < rs.length) = true := by simp; omega
                have hk0 : (0 : Int) ≤ (k : Int) := by omega
                have hk1 : (k : Int) < (rs.length : Int) := by omega
                have HKL := Aside0.mk hklt
                obtain ⟨ad, A1, c1, e1, hc1, hC1⟩ := rowI_at HR10.out (j := k) hklt
                subst e1
                obtain ⟨row, hrow⟩ : ∃ row, row = rs.getD k [] := ⟨_, rfl⟩
                rw [← hrow] at hc1 hC1
                have HRW := Aside0.mk (show row.length = m from HRR.out row (by rw [hrow, List.getD_eq_getElem?_getD, List.getElem?_eq_getElem hklt]; exact List.getElem_mem hklt))
                have HFN := Aside0.mk (show fr = (row :: (rs.drop (k + 1) ++ listsFrom nz (m + 1))).find? (okL zs) by
                  rw [HFK.out, List.drop_eq_getElem_cons hklt, List.cons_append, hrow, List.getD_eq_getElem?_getD, List.getElem?_eq_getElem hklt]
                  rfl)
                have HWL := Aside0.mk (show 1 ≤ (withoutL zs row).length ∧ (withoutL zs row).length ≤ 8 from by
                  have h1 := without_len zs row
                  have h2 := withoutTo_len zs row zs.length
                  have h3 : (withoutL zs row).length ≤ zs.length := h2
                  have := HRW.out
                  have := HML.out
                  have := HNZ.out
                  have := HZL.out
                  omega)
                have HWC := Aside0.mk ((HSTZ.out.without row).check HWL.out.1 HWL.out.2)
                have HWS := Aside0.mk (check_sizes HWC.out)
                have HEK := Aside0.mk (HE9.out.below (below_then HB10.out HB10.out.size HBK.out))
                have HBW := Aside0.mk (below_then HB9.out HB9.out.size (below_then HB10.out HB10.out.size HBK.out))
                have HC1 := Aside0.mk (Kd.C_below hC1 HBK.out)
                have q1 := (HBK.out.cell (World.block_lt_of_cell? w10 _ hc1)).trans hc1
                have HWR := Aside0.mk (withoutR_calls (some ⟨bz, 0, none⟩) cz zs (by have := HZL.out; omega) A1 c1 row wr HEK.out.C HC1.out)
                rw [HNZ.out] at HWR
                have HOKC := Aside0.mk (okL_count (l := zs) row)
                obtain ⟨wl, hwl⟩ : ∃ wl, wl = withoutL zs row := ⟨_, rfl⟩
                rw [← hwl] at HWR HWC HWS HOKC
                have HCNT := Aside0.mk (show countL wl = (((readsL wl).length : Int), 0) by unfold countL; rw [if_pos HWC.out])
                obtain ⟨nr, hnr⟩ : ∃ nr, nr = (readsL wl).length := ⟨_, rfl⟩
                rw [← hnr] at HCNT HOKC
                have HCC := Aside0.mk (fun (W : World) (a : Option Addr) (cc : Nat) (hb : Below w.heap.size w W) (hC : Kd.C k38 W a wl.length wl) => count_calls a cc wl W hC HWS.out (HS.out.new hb))
                rw [HCNT.out] at HCC
                clear hk hklt hrow hc1 hC1 hwl hnr
                go_upto_region 18 with (first
                  | (go_at_call 29; with_reducible refine HWR.out.mono ?_; rintro e w11 ⟨v, rfl, hr, hb⟩; obtain ⟨a72, c72, hv, _, hC⟩ := Kd.R_reads hr; subst hv; have HC72 := Aside0.mk hC; have HB11 := Aside0.mk (below_then HBW.out HBW.out.size hb); have HX11 := Aside0.mk hb; clear hr hb hC)
                  | (go_at_call 16; with_reducible refine (HCC.out w11 a72 c72 HB11.out HC72.out).mono ?_; rintro e w12 ⟨rfl, hb⟩; have HB12 := Aside0.mk (below_then HB11.out HB11.out.size hb); have HX12 := Aside0.mk (below_then HX11.out HX11.out.size hb); clear hb))
                have q2 := (HX12.out.cell (World.block_lt_of_cell? _ _ q1)).trans q1
                clear q1 hd1 hd2
                by_cases hpos : 0 < nr
                · have c1' : decide ((nr : Int) > 0) = true := by simp; omega
                  have c2' : decide (0 < nr) = true := decide_eq_true hpos
                  have hok : okL zs row = true := HOKC.out.2 hpos
                  have hfin : (sl, se) = (row, (0 : Int)) := by
                    rw [HSL.out, HFN.out, List.find?_cons, hok]
                    rfl
                  obtain ⟨rfl, rfl⟩ := Prod.mk.inj hfin
                  have HSM := Aside0.mk (sameInts_calls sl sl A7 A1 c7 c1 w12 (Kd.C_below HSR.out (below_then HB10.out HB10.out.size (below_then HBK.out HBK.out.size HX12.out))) (Kd.C_below HC1.out HX12.out))
                  rw [decide_eq_true rfl] at HSM
                  clear hpos hok hfin
                  go_wp2_with (first
                    | (go_at_call 22; with_reducible refine HSM.out.mono ?_; rintro e w13 ⟨rfl, hb⟩; have HB13 := Aside0.mk (below_then HB12.out HB12.out.size hb); clear hb)
                    | (go_at_call 21; with_reducible refine (alert_calls w13 (HS.out.new HB13.out)).mono ?_; rintro e w14 ⟨rfl, hb⟩; have HB14 := Aside0.mk (below_then HB13.out HB13.out.size hb); clear hb))
                  go_ret
                  exact ⟨rfl, HB14.out⟩
                · have c1' : decide ((nr : Int) > 0) = false := by simp; omega
                  have c2' : decide (0 < nr) = false := decide_eq_false hpos
                  have hok : okL zs row = false := by
                    rw [Bool.eq_false_iff]
                    exact fun h => hpos (HOKC.out.1 h)
                  have HNX := Aside0.mk (show fr = (rs.drop (k + 1) ++ listsFrom nz (m + 1)).find? (okL zs) by rw [HFN.out, List.find?_cons, hok])
                  clear hpos hok q2
                  go_wp2_with (fail)
                  go_roundw
                  case rel => exact ⟨k + 1, HKL.out, by rw [w_up HKL.out (by have := HRL.out; omega)], ⟨below_then HBK.out HBK.out.size HX12.out⟩, HNX⟩
                  case measure => exact meas_up HKL.out (by have := HRL.out; omega)
              · obtain rfl : k = rs.length := by omega
                have hd1 : decide ((rs.length : Int) < (rs.length : Int)) = false := by simp
                have hd2 : decide (rs.length < rs.length) = false := by simp
                have HNX := Aside0.mk (show fr = (listsFrom nz (m + 1)).find? (okL zs) by rw [HFK.out, List.drop_length]; rfl)
                clear hk hklt
                go_wp2_with (fail)
                go_roundw
                case rel => exact ⟨m + 1, HML.out, by rw [w_up HML.out (by have := HZL.out; have := HNZ.out; omega)], ⟨below_then HB10.out HB10.out.size HBK.out⟩, HNX⟩
                case measure => exact meas_up HML.out (by have := HZL.out; have := HNZ.out; omega)
          · obtain rfl : m = nz := by omega
            have hd1 : decide ((m : Int) < (m : Int)) = false := by simp
            have hd2 : decide (m < m) = false := by simp
            have hfin : (sl, se) = (([] : List Int), (9 : Int)) := by
              rw [HSL.out, HFM.out, listsFrom_end]
              rfl
            obtain ⟨rfl, rfl⟩ := Prod.mk.inj hfin
            have HBE := Aside0.mk (below_then HB9.out HB9.out.size HBM.out)
            clear hm hmlt hfin
            go_wp2_with (go_at_call 21; with_reducible refine (alert_calls wr (HS.out.new HBE.out)).mono ?_; rintro e w14 ⟨rfl, hb⟩; have HB14 := Aside0.mk (below_then HBE.out HBE.out.size hb); clear hb)
            go_ret
            exact ⟨rfl, HB14.out⟩
end Go.Proofs.YtgfikondoehblaaDoor.Pr
end
