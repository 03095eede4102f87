/- Part 20 of 21 of the proof of: SumsRight: for every slice of numbers, the law returns true: in each of the readings of an account made of them the numerals fit and all sums are right, they are in order and none is there twice, and the numbers that the account was made of are among its choices; no condition beyond the statement's own. -/
import Derived.Laws.IdiomStrings
import Derived.Lib.ConvBytes
import Derived.Test.YtgfikondoehblaaDoorRG1
import Derived.Test.YtgfikondoehblaaDoorRG9
import Derived.Test.YtgfikondoehblaaDoorRG15
import Derived.Test.YtgfikondoehblaaDoorRG16
import Derived.Test.YtgfikondoehblaaDoorRG18
import Derived.Test.YtgfikondoehblaaDoorRG19
set_option linter.unusedVariables false
set_option linter.unusedSimpArgs false
set_option linter.unusedSectionVars false
section
namespace Go.Proofs.YtgfikondoehblaaDoor.Pr
open Go.RowKit Go.Shelf Go.Proofs.YtgfikondoehblaaDoorW.PrintWords Go.Proofs.YtgfikondoehblaaDoorW.PrintLast Go.Proofs.YtgfikondoehblaaDoorW.PrintMore Go.Proofs.SumKeep
open SumPlain (numeralP valuesP columnP readingsP Ent fitsP)
def sameAt (col : List Int) (k : Nat) : Bool := !otherAt col k (numAt (col.getD 0 0) k)
def printCell (col : List Int) (k : Nat) (c : Int) : Int := if c = 63 ∧ sameAt col k = true then numAt (col.getD 0 0) k + 32 else c
def printRow (col : List Int) (s : List Int) : List Int := (List.range s.length).map fun k => printCell col k (s.getD k 0)
def printL (l : List S38) : List ByteArray × Int :=
  if (choL l).2 = 0 then ((List.range l.length).map (fun i => strOf (printRow ((choL l).1.getD i []) (entAt l i).signs)), 0) else ([], (choL l).2)
theorem num_range (n : Int) (k : Nat) (h : k < (numeralP n.toNat).length) : 67 ≤ numAt n k ∧ numAt n k ≤ 88 := by
  have hm : numAt n k ∈ numeralP n.toNat := by
    unfold numAt
    rw [List.getD_eq_getElem?_getD, List.getElem?_eq_getElem h]
    exact List.getElem_mem h
  obtain ⟨p, hp, e⟩ := numGo_mem _ _ _ hm
  have hs : ∀ p ∈ SumPlain.signsP, 67 ≤ p.1 ∧ p.1 ≤ 88 := by decide
  rw [← e]
  exact hs p hp
theorem one_CS {W : World} {g : Nat} {v : ByteArray} (h : W.cell? ⟨g, 0, none⟩ = some (.string v)) : Kd.C (Kd.string) W (some ⟨g, 0, none⟩) 1 [v] := by
  refine ⟨rfl, by simp, fun _ => ⟨_, rfl, fun j p hp => ?_⟩⟩
  cases j with
  | zero =>
    simp at hp
    subst hp
    refine ⟨[.string v], rfl, rfl, fun i u hu => ?_⟩
    cases i with
    | zero =>
      simp at hu
      subst hu
      exact h
    | succ i => simp at hu
  | succ j => simp at hp
def BytesAt (W : World) (b n : Nat) (f : Nat → Int) : Prop := ∃ (vs : Array Value) (m : Nat), W.heap[b]? = some (.cells vs 5 (m, m + 1)) ∧ n ≤ m ∧ vs.size = m ∧ ∀ j, j < n → vs[j]? = some (.int .u8 (f j))
theorem BytesAt.below {W W' : World} {b n : Nat} {f : Nat → Int} (h : BytesAt W b n f) (hb : Below W.heap.size W W') : BytesAt W' b n f := by
  obtain ⟨vs, m, h1, h2⟩ := h
  exact ⟨vs, m, blk_below h1 hb, h2⟩
theorem BytesAt.lt {W : World} {b n : Nat} {f : Nat → Int} (h : BytesAt W b n f) : b < W.heap.size := by
  obtain ⟨vs, m, h1, h2⟩ := h
  exact blk_lt h1
theorem BytesAt.cell {W : World} {b n : Nat} {f : Nat → Int} (h : BytesAt W b n f) {j : Nat} (hj : j < n) : W.cell? ⟨b, j, none⟩ = some (.int .u8 (f j)) := by
  obtain ⟨vs, m, h1, h2, h3, h4⟩ := h
  exact (cell_of_row W b j vs _ _ h1).trans (h4 j hj)
theorem BytesAt.frozen {W : World} {b n : Nat} {f : Nat → Int} (h : BytesAt W b n f) {j : Nat} (hj : j < n) : W.frozen? ⟨b, j, none⟩ = false := by
  obtain ⟨vs, m, h1, h2, h3, h4⟩ := h
  simp [World.frozen?, h1]
  omega
theorem BytesAt.set {W : World} {b n : Nat} {f : Nat → Int} (h : BytesAt W b n f) {j : Nat} (hj : j < n) (c : Int) : BytesAt (W.setCell ⟨b, j, none⟩ (.int .u8 c)) b n (fun i => if i = j then c else f i) := by
  obtain ⟨vs, m, h1, h2, h3, h4⟩ := h
  refine ⟨vs.setIfInBounds j (.int .u8 c), m, by simp [World.setCell, Array.getElem?_modify, h1], h2, by simp [h3], fun i hi => ?_⟩
  by_cases hij : i = j
  · subst hij
    dsimp only
    rw [Array.getElem?_setIfInBounds_self_of_lt (by omega), if_pos rfl]
  · dsimp only
    rw [Array.getElem?_setIfInBounds_ne (by omega), if_neg hij]
    exact h4 i hi
theorem BytesAt.congr {W : World} {b n : Nat} {f g : Nat → Int} (h : BytesAt W b n f) (he : ∀ j, j < n → f j = g j) : BytesAt W b n g := by
  obtain ⟨vs, m, h1, h2, h3, h4⟩ := h
  exact ⟨vs, m, h1, h2, h3, fun j hj => by rw [h4 j hj, he j hj]⟩
theorem BytesAt.made (W : World) (s : ByteArray) : BytesAt (Lib.bytesWorld W 5 s) W.heap.size s.size (fun j => (intsOf s).getD j 0) := by
  have hg := grownCap_ge W s.size 0 5
  have hsz : (Lib.bytesCells W 5 s).size = grownCap W s.size 0 5 := by
    simp only [Lib.bytesCells, Array.size_append, Array.size_map, Array.size_replicate]
    have : s.data.size = s.size := rfl
    omega
  refine ⟨_, _, Lib.bytesWorld_at_new W _ s, by rw [hsz]; exact hg, rfl, fun j hj => ?_⟩
  have hj' : j < s.data.size := hj
  simp [Lib.bytesCells, Array.getElem?_append, intsOf, hj, hj', List.getD_eq_getElem?_getD]
theorem bytesWorld_below {B : Nat} {w W : World} (h : Below B w W) (hB : B ≤ W.heap.size) (s : ByteArray) : Below B w (Lib.bytesWorld W 5 s) :=
  h.trans ⟨rfl, rfl, rfl, by rw [Lib.bytesWorld_size]; omega, fun k hk => Lib.bytesWorld_at_old W _ s k (by omega)⟩
theorem byteOf_nat {c : Int} (h : 0 ≤ c ∧ c < 256) : ((byteOf c).toNat : Int) = c := by
  simp only [byteOf]
  rw [UInt8.toNat_ofNat', Nat.mod_eq_of_lt (by omega)]
  omega
theorem BytesAt.back {W : World} {b : Nat} {L : List Int} {f : Nat → Int} (h : BytesAt W b L.length f) (hf : ∀ j, j < L.length → f j = L.getD j 0) (hL : ∀ c ∈ L, 0 ≤ c ∧ c < 256) (cap : Nat) :
    (convert 41 9 (.slice (some ⟨b, 0, none⟩) L.length cap)).run Tryd.prog W = .ok (.string (strOf L)) W := by
  have := run_convert_bytes_back (P := Tryd.prog) W 41 9 5 ⟨b, 0, none⟩ cap (L.map byteOf) Tryd.underlying41 Tryd.underlying5 Tryd.underlying9 (fun j hj => by
    rw [List.length_map] at hj
    rw [Addr.add_lit, Nat.zero_add, h.cell hj, hf j hj, List.getElem_map, byteOf_nat (hL _ (List.getElem_mem hj)), List.getD_eq_getElem?_getD, List.getElem?_eq_getElem hj]
    rfl)
  rw [List.length_map] at this
  exact this
theorem rowI_at {w : World} {A : Option Addr} {n : Nat} {xs : List (List Int)} (h : (Kd.slice 3 (Kd.int .i64)).C w A n xs) {j : Nat} (hj : j < n) :
    ∃ ad A' c', A = some ad ∧ w.cell? (ad.add j) = some (.slice A' (xs.getD j []).length c') ∧ (Kd.int .i64).C w A' (xs.getD j []).length (xs.getD j []) := by
  obtain ⟨ad, c, e, h1, ⟨A', c', h2, h3, h4⟩, h5⟩ := Kd.C_get h [] (j : Int) (by omega) (by omega)
  rw [Int.toNat_natCast] at h2 h3 h4 h5
  subst h2
  refine ⟨ad, A', c', e, ?_, h4⟩
  have := h5 0 _ rfl
  rw [show (Kd.slice 3 (Kd.int .i64)).sz = 1 from rfl] at this
  simpa using this
theorem cho_getD {l : List S38} (h0 : (choL l).2 = 0) : checkL l = 0 ∧ readsL l ≠ [] ∧ (choL l).1 = (List.range l.length).map (columnP (readsL l)) := by
  unfold choL at h0 ⊢
  by_cases h1 : checkL l = 0
  · rw [if_pos h1] at h0 ⊢
    by_cases h2 : readsL l = []
    · rw [if_pos h2] at h0
      cases h0
    · rw [if_neg h2]
      exact ⟨h1, h2, rfl⟩
  · rw [if_neg h1] at h0
    exact absurd h0 h1
theorem col_facts {l : List S38} (h0 : (choL l).2 = 0) {i : Nat} (hi : i < l.length) : 0 < ((choL l).1.getD i []).length ∧ ((choL l).1.getD i []).length ≤ 5000 ∧ ∀ n ∈ (choL l).1.getD i [], 0 ≤ n ∧ n ≤ 4999 ∧ (numeralP n.toNat).length = (entAt l i).signs.length := by
  obtain ⟨h1, h2, h3⟩ := cho_getD h0
  have e : (choL l).1.getD i [] = columnP (readsL l) i := by rw [h3]; simp [List.getD_eq_getElem?_getD, hi]
  rw [e]
  refine ⟨?_, col_len _ _, fun n hn => ?_⟩
  · obtain ⟨r, hr⟩ := List.exists_mem_of_ne_nil _ h2
    exact List.length_pos_of_mem (SumPlain.reading_in_column hr i (by rw [List.length_map]; exact hi))
  · obtain ⟨_, hn2⟩ := List.mem_filter.1 hn
    obtain ⟨r, hr, he⟩ := List.any_eq_true.1 hn2
    have he' : r.getD i (-1) = n := by simpa using he
    have hrr := (SumPlain.mem_readings _ r).1 hr
    have hl := hrr.length
    rw [List.length_map, List.length_map] at hl
    have hm := hrr.mem i (by omega) (by rw [List.length_map, List.length_map]; exact hi)
    have e2 : r.getD i (-1) = r[i]'(by omega) := by rw [List.getD_eq_getElem?_getD, List.getElem?_eq_getElem (by omega)]; rfl
    rw [← e2, he'] at hm
    simp only [List.getElem_map] at hm
    have e3 : toEnt l[i] = entAt l i := by
      have := entAt_get hi
      rw [List.getElem?_map, List.getElem?_eq_getElem hi] at this
      exact Option.some.inj this
    rw [e3] at hm
    obtain ⟨k, h1, h2, h3, h4⟩ := (SumPlain.mem_valuesTo _ _ _).1 hm
    refine ⟨by omega, by omega, ?_⟩
    rw [h3, Int.toNat_natCast]
    exact ((SumPlain.fits_iff _ _).1 h4).1
def PrintR.T12 : Bool × List (List Nat × List Nat) := (true, [([], []), ([], []), ([0, 1], [0, 1]), ([2], [2]), ([3], [3]), ([4], [4]), ([5], [5]), ([], []), ([6, 7], [6, 7]), ([], []), ([9, 8, 6, 0, 1, 2, 3, 4, 5, 6, 7, 8, 9], [8, 9])])
def PrintR.B12 : List Nat := [0, 0, 3, 7, 15, 31, 63, 0, 255, 0, 1023]
theorem PrintR.tab12 : rtab .any (opsOf Tryd.f14 12) = PrintR.T12 := by kernel_rfl
theorem PrintR.bits12 : waitsOk PrintR.T12.2 PrintR.B12 = true := by kernel_rfl
set_option maxRecDepth 100000 in
set_option maxHeartbeats 8000000 in
theorem print_calls (A : Option Addr) (c : Nat) (l : List S38) (w : World) (hr : Kd.C k38 w A l.length l) (hs : ∀ i : Nat, i < l.length → (rd_T38 l (i : Int)).f1.size ≤ 9223372036854775807) (hS : SignsAt w) :
    Calls Tryd.prog 14 #[.slice A l.length c] w fun e w' => ∃ v, e = .returned (.tuple #[v, .int .i64 (printL l).2]) ∧ Kd.R Kd.string 9 w' w.heap.size (fun _ => True) v (printL l).1 ∧ Below w.heap.size w w' := by
  have HC := Aside0.mk (choices_calls A c l w hr hs hS)
  have HR := Aside0.mk hr
  have HS := Aside0.mk hS
  have HSZ := Aside0.mk hs
  have hcv : ∀ (W : World) (s : ByteArray), (convert 9 41 (.string s)).run Tryd.prog W = .ok (.slice (some ⟨W.heap.size, 0, none⟩) s.size (grownCap W s.size 0 5)) (Lib.bytesWorld W 5 s) := fun W s => Lib.run_convert_string_bytes W _ _ _ s Tryd.underlying9 Tryd.underlying41 Tryd.underlying5
  have hmf : ∀ (fn : Fn) (first cap : Array Value) (w : World), (Instr.makeFunc fn first cap).run Tryd.prog w = .ok (.func fn first cap) w := fun _ _ _ _ => rfl
  clear hr hs hS
  obtain ⟨ck, hck⟩ : ∃ ck, ck = (choL l).2 := ⟨_, rfl⟩
  rw [← hck] at HC
  have HCK := Aside0.mk hck
  go_enter Tryd.func14, Tryd.ntmps14
  by_cases h0 : ck = 0
  · have hne : (ck != 0) = false := by simp [h0]
    have H0 := Aside0.mk (show (choL l).2 = 0 by rw [← hck]; exact h0)
    have H8 := Aside0.mk (checkL_len (cho_getD H0.out).1)
    have HL := Aside0.mk (show (choL l).1.length = l.length by rw [(cho_getD H0.out).2.2]; simp)
    clear hck h0
    go_wp2_with (go_at_call 15; refine HC.out.mono ?_; rintro e w1 ⟨v, rfl, hs1, hb1⟩; obtain ⟨A4, c4, hv4⟩ := Kd.S_slice hs1; subst hv4; have HB1 := Aside0.mk hb1; have HCC := Aside0.mk (Kd.S_reads' hs1).2.2; clear hs1 hb1)
    go_loopw [6, 7, 8, 9, 10, 11, 12, 23, 24, 25, 26, 27, 28, 29, 30, 31, 32, 33, 34, 35, 36, 37, 38, 39, 40, 41, 42, 43, 44, 45, 46, 47, 48, 49, 50, 51, 52, 53, 54, 55, 56, 57, 58, 59, 60, 61, 62, 63, 64, 65, 66, 67, 68, 69, 70, 71, 72] (fun v6 _ _ _ _ _ _ jv _ _ _ _ _ _ _ _ _ _ _ _ _ _ _ _ _ _ _ _ _ _ _ _ _ _ _ _ _ _ _ _ _ _ _ _ _ _ _ _ _ _ _ _ _ _ _ _ _ wr => ∃ j : Nat, j ≤ l.length ∧ jv = .int .i64 (j : Int) ∧ Aside0 (Kd.R Kd.string 9 wr w1.heap.size (fun _ => True) v6 ((List.range j).map (fun i => strOf (printRow ((choL l).1.getD i []) (entAt l i).signs)))) ∧ Aside0 (Below w1.heap.size w1 wr))
      (fun _ _ _ _ _ _ _ jv _ _ _ _ _ _ _ _ _ _ _ _ _ _ _ _ _ _ _ _ _ _ _ _ _ _ _ _ _ _ _ _ _ _ _ _ _ _ _ _ _ _ _ _ _ _ _ _ _ _ => l.length - (intOf jv).toNat)
    case atStart => exact ⟨0, Nat.zero_le _, rfl, ⟨Kd.R_nil _ _ _ _ _⟩, ⟨Below.refl _ _⟩⟩
    case round =>
      obtain ⟨j, hj, rfl, HO, HB⟩ := hrel
      by_cases hlt : j < l.length
      · have hd : decide ((j : Int) < (l.length : Int)) = true := by simp; omega
        have hdn : decide (j < l.length) = true := by simp; omega
        have hj0 : (0 : Int) ≤ (j : Int) := by omega
        have hj1 : (j : Int) < (l.length : Int) := by omega
        have HLT := Aside0.mk hlt
        obtain ⟨ad, rfl, hx0, hx1⟩ := at_T38 HR.out j (by omega) (by omega)
        rw [Int.toNat_natCast] at hx0 hx1
        have HBW := Aside0.mk (show Below w.heap.size w wr from below_then HB1.out HB1.out.size HB.out)
        replace hx0 := (HBW.out.cell (World.block_lt_of_cell? w _ hx0)).trans hx0
        replace hx1 := (HBW.out.cell (World.block_lt_of_cell? w _ hx1)).trans hx1
        obtain ⟨kd, hkd⟩ : ∃ kd, kd = (rd_T38 l (j : Int)).f0 := ⟨_, rfl⟩
        obtain ⟨sg, hsg⟩ : ∃ sg, sg = (rd_T38 l (j : Int)).f1 := ⟨_, rfl⟩
        rw [← hkd] at hx0
        rw [← hsg] at hx1
        have HEnt := Aside0.mk (show (entAt l j).signs = intsOf sg by rw [hsg]; rfl)
        have HSG := Aside0.mk (show sg.size ≤ 9223372036854775807 by rw [hsg]; exact HSZ.out j hlt)
        obtain ⟨ad4, A', c', hA4, hrow, hcin⟩ := rowI_at HCC.out (j := j) (by rw [HL.out]; exact hlt)
        subst hA4
        have hcf := col_facts H0.out hlt
        obtain ⟨col, hcol⟩ : ∃ col, col = (choL l).1.getD j [] := ⟨_, rfl⟩
        rw [← hcol] at hrow hcin hcf
        obtain ⟨ad5, hA5, hcell0⟩ := Kd.at_int hcin 0 (Int.le_refl _) (by omega)
        subst hA5
        have hx00 : rd col 0 = col.getD 0 0 := rfl
        have hmem : col.getD 0 0 ∈ col := by rw [List.getD_eq_getElem?_getD, List.getElem?_eq_getElem hcf.1]; exact List.getElem_mem hcf.1
        obtain ⟨m0, hm0⟩ : ∃ m0 : Nat, col.getD 0 0 = (m0 : Int) := ⟨(col.getD 0 0).toNat, by have := hcf.2.2 _ hmem; omega⟩
        rw [hx00, hm0] at hcell0
        have HM0 := Aside0.mk hm0
        have HM4 := Aside0.mk (show m0 ≤ 4999 ∧ (numeralP m0).length = sg.size by have := hcf.2.2 _ hmem; rw [hm0, HEnt.out, intsOf_length, Int.toNat_natCast] at this; omega)
        have HCOLF := Aside0.mk (show ∀ n ∈ col, 0 ≤ n ∧ n ≤ 4999 ∧ (numeralP n.toNat).length = sg.size from fun n hn => by have := hcf.2.2 n hn; rw [HEnt.out, intsOf_length] at this; exact this)
        have HCL := Aside0.mk hcf.1
        have HCL2 := Aside0.mk hcf.2.1
        have HROW := Aside0.mk hrow
        have HCELL := Aside0.mk (show w1.cell? ad5 = some (.int .i64 (m0 : Int)) from hcell0)
        have HCIN := Aside0.mk hcin
        have HCOL := Aside0.mk hcol
        have HJL := Aside0.mk (show j < (choL l).1.length by rw [HL.out]; exact hlt)
        clear hrow hcell0 hcin hcol hx00 hmem hm0 hcf
        clear hkd hsg hj hlt
        go_upto_region 9 with (fail)
        obtain ⟨cb, hcb⟩ : ∃ cb, cb = grownCap (wr.alloc (.cells #[.int .i64 kd, .string sg] 38)) sg.size 0 5 := ⟨_, rfl⟩
        obtain ⟨W2, hW2⟩ : ∃ W2, W2 = Lib.bytesWorld (wr.alloc (.cells #[.int .i64 kd, .string sg] 38)) 5 sg := ⟨_, rfl⟩
        rw [← hcb, ← hW2]
        obtain ⟨b, hb⟩ : ∃ b, b = wr.heap.size + 1 := ⟨_, rfl⟩
        have HBA := Aside0.mk (show BytesAt W2 b sg.size (fun k => (intsOf sg).getD k 0) by
          have := BytesAt.made (wr.alloc (.cells #[.int .i64 kd, .string sg] 38)) sg
          rw [hW2, hb]
          rwa [World.size_alloc] at this)
        have HB2 := Aside0.mk (show Below wr.heap.size wr W2 by rw [hW2]; exact bytesWorld_below (below_alloc (Below.refl _ _) _) (by simp) sg)
        have HBB := Aside0.mk (show wr.heap.size ≤ b by omega)
        rw [← hb]
        clear hx0 hx1 hd hdn hcb hW2 hb
        obtain ⟨Wi, rfl⟩ : ∃ Wi, Wi = wr := ⟨_, rfl⟩
        go_wp2_with (fail)
        go_loopw [10, 11, 12, 33, 34, 35, 36, 37, 38, 39, 40, 41, 42, 43, 44, 45, 46, 47, 48, 49, 50, 51, 52, 53, 54, 55, 56, 57, 58, 59, 60, 61, 62, 63, 64, 65, 66] (fun _ _ _ kv _ _ _ _ _ _ _ _ _ _ _ _ _ _ _ _ _ _ _ _ _ _ _ _ _ _ _ _ _ _ _ _ _ wr => ∃ k : Nat, k ≤ sg.size ∧ kv = .int .i64 (k : Int) ∧ Aside0 (BytesAt wr b sg.size (fun i => if i < k then printCell col i ((intsOf sg).getD i 0) else (intsOf sg).getD i 0)) ∧ Aside0 (Below Wi.heap.size Wi wr))
          (fun _ _ _ kv _ _ _ _ _ _ _ _ _ _ _ _ _ _ _ _ _ _ _ _ _ _ _ _ _ _ _ _ _ _ _ _ _ _ => sg.size - (intOf kv).toNat)
        case atStart => exact ⟨0, Nat.zero_le _, rfl, ⟨HBA.out.congr (fun i hi => by simp)⟩, HB2⟩
        case round =>
          clear HBA HB2
          obtain ⟨k, hk, rfl, HBA, HBI⟩ := hrel
          by_cases hlt : k < sg.size
          · have hd : decide ((k : Int) < (sg.size : Int)) = true := by simp; omega
            have hdn : decide (k < sg.size) = true := by simp; omega
            have HKT := Aside0.mk hlt
            have hk0 : (0 : Int) ≤ (k : Int) := by omega
            have hk1 : (k : Int) < (sg.size : Int) := by omega
            clear hlt hk
            go_upto_region 12 with (fail)
            obtain ⟨bk, hbk⟩ : ∃ bk, bk = wr.heap.size := ⟨_, rfl⟩
            obtain ⟨W3, hW3⟩ : ∃ W3, W3 = wr.alloc (.cells #[.int .i64 (k : Int)] 3) := ⟨_, rfl⟩
            have HK3 := Aside0.mk (show W3.heap[bk]? = some (.cells #[.int .i64 (k : Int)] 3 (0, 0)) by rw [hW3, hbk]; exact heap_alloc_new wr _)
            have HBA3 := Aside0.mk (HBA.out.below (show Below wr.heap.size wr W3 by rw [hW3]; exact below_alloc (Below.refl _ _) _))
            have HBI3 := Aside0.mk (show Below Wi.heap.size Wi W3 by rw [hW3]; exact below_alloc HBI.out _)
            rw [← hW3, ← hbk]
            have HB13 := Aside0.mk (show Below w1.heap.size w1 W3 from below_then HB.out HB.out.size HBI3.out)
            clear hW3 hbk HBA HBI hd hdn
            go_cut [11, 36, 37, 38, 39, 40, 41, 42, 43, 44] (fun v11 _ _ _ _ _ _ _ _ _ wc => ∃ bc : Nat, v11 = .pointer (some ⟨bc, 0, none⟩) ∧ Aside0 (wc.heap[bc]? = some (.cells #[.int .u8 (numAt (col.getD 0 0) k)] 5 (0, 0))) ∧ Aside0 (Below W3.heap.size W3 wc))
            case first =>
              have q0 : W3.drew.cell? (ad4.add j) = some (.slice (some ad5) col.length c') := (HB13.out.cell (World.block_lt_of_cell? w1 _ HROW.out)).trans HROW.out
              have q1 : W3.drew.cell? ad5 = some (.int .i64 (m0 : Int)) := (HB13.out.cell (World.block_lt_of_cell? w1 _ HCELL.out)).trans HCELL.out
              have q2 : W3.drew.cell? ⟨bk, 0, none⟩ = some (.int .i64 (k : Int)) := (blk_cell HK3.out 0).trans rfl
              have hix := fun w => index_num (m0 : Int) k (by rw [Int.toNat_natCast, HM4.out.2]; exact HKT.out) w
              rw [Int.toNat_natCast] at hix
              have hl0 : (0 : Int) < (col.length : Int) := by have := HCL.out; omega
              have hl1 : 0 < col.length := HCL.out
              have hjl : (j : Int) < ((choL l).1.length : Int) := by have := HJL.out; omega
              refine start_ (n := 11) (S := fun w' => w'.cell? (ad4.add j) = some (.slice (some ad5) col.length c') ∧ w'.cell? ad5 = some (.int .i64 (m0 : Int)) ∧ w'.cell? ⟨bk, 0, none⟩ = some (.int .i64 (k : Int))) (ds := [10]) (ba 11 0) (by kernel_rfl) rfl rfl ⟨q0, q1, q2⟩ (fun hHeld => ?_)
              refine with_tabW PrintR.tab12 PrintR.bits12 (fun HT_ HW_ => ?_)
              obtain ⟨wd, hwd⟩ : ∃ y_, y_ = W3.drew := ⟨_, rfl⟩
              have HBD := Aside0.mk (show Below W3.heap.size W3 wd by rw [hwd]; exact (Below.refl _ W3).drew)
              rw [← hwd] at hHeld ⊢
              clear hwd q0 q1 q2
              refine pur_ 0 36 (ba 11 1) HT_.out ?_
              refine pur_ 1 37 (ba 11 3) HT_.out ?_
              refine pur_ 2 38 (ba 11 7) HT_.out ?_
              refine tak_ 3 39 (ba 11 15) HT_.out HW_.out hHeld ?_
              refine pur_ 4 40 (ba 11 31) HT_.out ?_
              refine tak_ 5 41 (ba 11 63) HT_.out HW_.out hHeld ?_
              refine tak_ 7 43 (ba 11 191) HT_.out HW_.out hHeld ?_
              refine twos_ 6 9 42 11 (ba 11 255) (ba 11 703) HT_.out (fun K hK => ?_) (fun K hK => ?_)
              · refine goes_ Tryd.func51 (by kernel_rfl) rfl #[.int .i64 (m0 : Int)] (by rfl) rfl rfl (by (simp only [List.map_toArray, List.map_cons, List.map_nil]); rfl) ?_
                refine (numeral_calls m0 HM4.out.1 wd (HS.out.new (below_then HB1.out HB1.out.size (below_then HB13.out HB13.out.size HBD.out)))).mono ?_
                rintro e w4 ⟨rfl, hb4⟩
                refine ⟨_, rfl, ?_⟩
                have HB4 := Aside0.mk (below_then HBD.out HBD.out.size hb4)
                have g0 := (hb4.cell (World.block_lt_of_cell? _ _ hHeld.1)).trans hHeld.1
                have g1 := (hb4.cell (World.block_lt_of_cell? _ _ hHeld.2.1)).trans hHeld.2.1
                have g2 := (hb4.cell (World.block_lt_of_cell? _ _ hHeld.2.2)).trans hHeld.2.2
                refine hK.out _ _ ⟨g0, g1, g2⟩ (fun hHeld => ?_)
                clear hK K hb4 g0 g1 g2
                refine nrm_ ?_
                refine pur_ 8 44 (ba 11 511) HT_.out ?_ (v := .int .u8 (numAt (m0 : Int) k)) (hv := by intro w2; go_simp)
                refine on_ 9 (some 11) (ba 11 1023) HT_.out (fun K hK => ?_)
                obtain ⟨bc, hbc⟩ : ∃ bc, bc = w4.heap.size := ⟨_, rfl⟩
                refine value_ (w1 := w4.alloc (.cells #[.int .u8 0] 5)) (v := .pointer (some ⟨bc, 0, none⟩)) (by rfl) rfl ?_ ?_
                · rw [hbc]
                  first | (go_simp; done) | (go_simp; rfl)
                obtain ⟨w5, hw5⟩ : ∃ w5, w5 = w4.alloc (.cells #[.int .u8 0] 5) := ⟨_, rfl⟩
                have hX := heap_alloc_new w4 (.cells #[.int .u8 0] 5)
                have hb5 : Below w4.heap.size w4 w5 := by rw [hw5]; exact below_alloc (Below.refl _ _) _
                rw [← hw5, ← hbc] at hX
                rw [← hw5]
                have HB5 := Aside0.mk (below_then HB4.out HB4.out.size hb5)
                have HBCL := Aside0.mk (show W3.heap.size ≤ bc by rw [hbc]; exact HB4.out.size)
                have g0 := (hb5.cell (World.block_lt_of_cell? _ _ hHeld.1)).trans hHeld.1
                have g1 := (hb5.cell (World.block_lt_of_cell? _ _ hHeld.2.1)).trans hHeld.2.1
                have g2 := (hb5.cell (World.block_lt_of_cell? _ _ hHeld.2.2)).trans hHeld.2.2
                refine hK.out _ _ ⟨g0, g1, g2⟩ (fun hHeld => ?_)
                clear hK K hb5 g0 g1 g2 hw5 hbc
                refine nrm_ ?_
                refine las_ 10 none (ba 11 2047) HT_.out (fun K hK => ?_)
                have hu : w5.cell? ⟨bc, 0, none⟩ = some (.int .u8 0) := (blk_cell hX 0).trans rfl
                have hf := blk_frozen hX 0
                have hlt5 := blk_lt hX
                refine skip_ (w1 := w5.setCell ⟨bc, 0, none⟩ (.int .u8 (numAt (m0 : Int) k))) (by rfl) rfl ?_ ?_
                · first | (go_simp; done) | (go_simp; rfl)
                refine hK.out _ _ ?_
                clear hK K
                refine don_ HT_.out ?_
                have hX6 := Aside0.mk (blk_set hX 0 (.int .u8 (numAt (m0 : Int) k)))
                have HB6 := Aside0.mk (HB5.out.setCell (p := ⟨bc, 0, none⟩) HBCL.out (.int .u8 (numAt (m0 : Int) k)))
                obtain ⟨w6, hw6⟩ : ∃ w6, w6 = w5.setCell ⟨bc, 0, none⟩ (.int .u8 (numAt (m0 : Int) k)) := ⟨_, rfl⟩
                rw [← hw6] at hX6 HB6 ⊢
                clear hw6 hX hu hf hlt5 hHeld
                go_wp2
                go_meet
                case rel => exact ⟨bc, rfl, ⟨by rw [HM0.out]; exact hX6.out⟩, HB6⟩
              · refine value_ (w1 := wd.alloc (.cells #[.int .u8 0] 5)) (v := .pointer (some ⟨wd.heap.size, 0, none⟩)) (by rfl) rfl ?_ ?_
                · first | (go_simp; done) | (go_simp; rfl)
                obtain ⟨bc, hbc⟩ : ∃ bc, bc = wd.heap.size := ⟨_, rfl⟩
                obtain ⟨w4, hw4⟩ : ∃ w4, w4 = wd.alloc (.cells #[.int .u8 0] 5) := ⟨_, rfl⟩
                have hX := heap_alloc_new wd (.cells #[.int .u8 0] 5)
                have hb4 : Below wd.heap.size wd w4 := by rw [hw4]; exact below_alloc (Below.refl _ _) _
                rw [← hw4, ← hbc] at hX
                rw [← hw4, ← hbc]
                have HB4 := Aside0.mk (below_then HBD.out HBD.out.size hb4)
                have HBCL := Aside0.mk (show W3.heap.size ≤ bc by rw [hbc]; exact HBD.out.size)
                have g0 := (hb4.cell (World.block_lt_of_cell? _ _ hHeld.1)).trans hHeld.1
                have g1 := (hb4.cell (World.block_lt_of_cell? _ _ hHeld.2.1)).trans hHeld.2.1
                have g2 := (hb4.cell (World.block_lt_of_cell? _ _ hHeld.2.2)).trans hHeld.2.2
                refine hK.out _ _ ⟨g0, g1, g2⟩ (fun hHeld => ?_)
                clear hK K hb4 g0 g1 g2 hw4 hbc
                refine nrm_ ?_
                refine on_ 6 (some 42) (ba 11 767) HT_.out (fun K hK => ?_)
                refine goes_ Tryd.func51 (by kernel_rfl) rfl #[.int .i64 (m0 : Int)] (by rfl) rfl rfl (by (simp only [List.map_toArray, List.map_cons, List.map_nil]); rfl) ?_
                refine (numeral_calls m0 HM4.out.1 w4 (HS.out.new (below_then HB1.out HB1.out.size (below_then HB13.out HB13.out.size HB4.out)))).mono ?_
                rintro e w5 ⟨rfl, hb5⟩
                refine ⟨_, rfl, ?_⟩
                have HB5 := Aside0.mk (below_then HB4.out HB4.out.size hb5)
                replace hX := blk_below hX hb5
                have g0 := (hb5.cell (World.block_lt_of_cell? _ _ hHeld.1)).trans hHeld.1
                have g1 := (hb5.cell (World.block_lt_of_cell? _ _ hHeld.2.1)).trans hHeld.2.1
                have g2 := (hb5.cell (World.block_lt_of_cell? _ _ hHeld.2.2)).trans hHeld.2.2
                refine hK.out _ _ ⟨g0, g1, g2⟩ (fun hHeld => ?_)
                clear hK K hb5 g0 g1 g2
                refine nrm_ ?_
                refine pur_ 8 44 (ba 11 1023) HT_.out ?_ (v := .int .u8 (numAt (m0 : Int) k)) (hv := by intro w2; go_simp)
                refine las_ 10 none (ba 11 2047) HT_.out (fun K hK => ?_)
                have hu : w5.cell? ⟨bc, 0, none⟩ = some (.int .u8 0) := (blk_cell hX 0).trans rfl
                have hf := blk_frozen hX 0
                have hlt5 := blk_lt hX
                refine skip_ (w1 := w5.setCell ⟨bc, 0, none⟩ (.int .u8 (numAt (m0 : Int) k))) (by rfl) rfl ?_ ?_
                · first | (go_simp; done) | (go_simp; rfl)
                refine hK.out _ _ ?_
                clear hK K
                refine don_ HT_.out ?_
                have hX6 := Aside0.mk (blk_set hX 0 (.int .u8 (numAt (m0 : Int) k)))
                have HB6 := Aside0.mk (HB5.out.setCell (p := ⟨bc, 0, none⟩) HBCL.out (.int .u8 (numAt (m0 : Int) k)))
                obtain ⟨w6, hw6⟩ : ∃ w6, w6 = w5.setCell ⟨bc, 0, none⟩ (.int .u8 (numAt (m0 : Int) k)) := ⟨_, rfl⟩
                rw [← hw6] at hX6 HB6 ⊢
                clear hw6 hX hu hf hlt5 hHeld
                go_wp2
                go_meet
                case rel => exact ⟨bc, rfl, ⟨by rw [HM0.out]; exact hX6.out⟩, HB6⟩
            case rest =>
              obtain ⟨bc, rfl, HX, HBC⟩ := hcut
              obtain ⟨y, hy⟩ : ∃ y, y = numAt (col.getD 0 0) k := ⟨_, rfl⟩
              rw [← hy] at HX
              have HY := Aside0.mk hy
              have HYR := Aside0.mk (show (y - 65 + 97) % 256 = y + 32 by
                have := num_range (m0 : Int) k (by rw [Int.toNat_natCast, HM4.out.2]; exact HKT.out)
                rw [← HM0.out, ← hy] at this
                omega)
              obtain ⟨ob, hob⟩ : ∃ ob, ob = otherAt col k y := ⟨_, rfl⟩
              have HSA := Aside0.mk (show sameAt col k = !ob by rw [hob, hy]; rfl)
              have HB1C := Aside0.mk (below_then HB13.out HB13.out.size HBC.out)
              have HKC := Aside0.mk (blk_below HK3.out HBC.out)
              have HBAC := Aside0.mk (HBA3.out.below HBC.out)
              have HBIC := Aside0.mk (below_then HBI3.out HBI3.out.size HBC.out)
              have HP := Aside0.mk (containsFunc_calls col k y (fun n hn => by have := HCOLF.out n hn; exact ⟨this.1, this.2.1, by rw [this.2.2]; exact HKT.out⟩) HCL2.out (some ad5) c' bk bc wc (HS.out.new (below_then HB1.out HB1.out.size HB1C.out)) (Kd.C_below HCIN.out HB1C.out) HKC.out HX.out)
              rw [← hob] at HP
              clear hy hob
              have q0 : wc.cell? (ad4.add j) = some (.slice (some ad5) col.length c') := (HB1C.out.cell (World.block_lt_of_cell? w1 _ HROW.out)).trans HROW.out
              have hjl : (j : Int) < ((choL l).1.length : Int) := by have := HJL.out; omega
              clear HBA3 HBI3 HB13 HK3
              go_upto_region 14 with (go_at_call 52; refine HP.out.mono ?_; rintro e w7 ⟨rfl, hb7⟩; have HB7 := Aside0.mk hb7; clear hb7)
              clear q0
              have HX7 := Aside0.mk (blk_below HX.out HB7.out)
              have HK7 := Aside0.mk (blk_below HKC.out HB7.out)
              have HBA7 := Aside0.mk (HBAC.out.below HB7.out)
              have HBI7 := Aside0.mk (below_then HBIC.out HBIC.out.size HB7.out)
              have HBCK := Aside0.mk (show bk ≠ b ∧ bc ≠ b from by
                obtain ⟨vs, m, z1, z2⟩ := HBA7.out
                refine ⟨fun e => ?_, fun e => ?_⟩
                · have h1 := HK7.out
                  rw [e, z1] at h1
                  injection h1 with h1
                  injection h1 with _ _ h1
                  simp at h1
                · have h1 := HX7.out
                  rw [e, z1] at h1
                  injection h1 with h1
                  injection h1 with _ _ h1
                  simp at h1)
              clear HX HKC HBAC HBIC HP HBC HB1C
              obtain ⟨x, hx⟩ : ∃ x, x = (intsOf sg).getD k 0 := ⟨_, rfl⟩
              have hck : w7.cell? ⟨bk, 0, none⟩ = some (.int .i64 (k : Int)) := (blk_cell HK7.out 0).trans rfl
              have hcc : w7.cell? ⟨bc, 0, none⟩ = some (.int .u8 y) := (blk_cell HX7.out 0).trans rfl
              have hcb : w7.cell? ⟨b, k, none⟩ = some (.int .u8 x) := by
                have := HBA7.out.cell HKT.out
                rw [if_neg (Nat.lt_irrefl _)] at this
                rw [hx]
                exact this
              have hfb := HBA7.out.frozen HKT.out
              have hlb := HBA7.out.lt
              have HXE := Aside0.mk hx
              clear hx
              by_cases hq : x = 63
              · subst hq
                cases ob with
                | false =>
                  go_wp2_with (fail)
                  rw [HYR.out]
                  have hset := Aside0.mk ((HBA7.out.set HKT.out (y + 32)).congr (g := fun i => if i < k + 1 then printCell col i ((intsOf sg).getD i 0) else (intsOf sg).getD i 0) fun i hi => by
                    try dsimp only
                    by_cases hik : i = k
                    · subst hik
                      rw [if_pos rfl, if_pos (Nat.lt_succ_self _), ← HXE.out, printCell, if_pos ⟨rfl, by rw [HSA.out]; rfl⟩, HY.out]
                    · rw [if_neg hik]
                      by_cases hlt : i < k
                      · rw [if_pos hlt, if_pos (by omega)]
                      · rw [if_neg hlt, if_neg (by omega)])
                  go_roundw
                  case rel => exact ⟨k + 1, HKT.out, by rw [w_up HKT.out (by have := HSG.out; omega)], hset, ⟨HBI7.out.setCell (p := ⟨b, k, none⟩) HBB.out _⟩⟩
                  case measure => exact meas_up HKT.out (by have := HSG.out; omega)
                | true =>
                  have hset := Aside0.mk (HBA7.out.congr (g := fun i => if i < k + 1 then printCell col i ((intsOf sg).getD i 0) else (intsOf sg).getD i 0) fun i hi => by
                    try dsimp only
                    by_cases hik : i = k
                    · subst hik
                      rw [if_neg (Nat.lt_irrefl _), if_pos (Nat.lt_succ_self _), printCell, if_neg (fun h => by rw [HSA.out] at h; exact absurd h.2 (by decide))]
                    · by_cases hlt : i < k
                      · rw [if_pos hlt, if_pos (by omega)]
                      · rw [if_neg hlt, if_neg (by omega)])
                  go_wp2_with (fail)
                  go_roundw
                  case rel => exact ⟨k + 1, HKT.out, by rw [w_up HKT.out (by have := HSG.out; omega)], hset, HBI7⟩
                  case measure => exact meas_up HKT.out (by have := HSG.out; omega)
              · have hqb : (x == 63) = false := by simp [hq]
                have HQ := Aside0.mk hq
                have hset := Aside0.mk (HBA7.out.congr (g := fun i => if i < k + 1 then printCell col i ((intsOf sg).getD i 0) else (intsOf sg).getD i 0) fun i hi => by
                    try dsimp only
                    by_cases hik : i = k
                    · subst hik
                      rw [if_neg (Nat.lt_irrefl _), if_pos (Nat.lt_succ_self _), printCell, if_neg (fun h => by rw [← HXE.out] at h; exact HQ.out h.1)]
                    · by_cases hlt : i < k
                      · rw [if_pos hlt, if_pos (by omega)]
                      · rw [if_neg hlt, if_neg (by omega)])
                clear hq
                go_wp2_with (fail)
                go_roundw
                case rel => exact ⟨k + 1, HKT.out, by rw [w_up HKT.out (by have := HSG.out; omega)], hset, HBI7⟩
                case measure => exact meas_up HKT.out (by have := HSG.out; omega)
          · obtain rfl : k = sg.size := by omega
            have hd : decide ((sg.size : Int) < (sg.size : Int)) = false := by simp
            have hdn : decide (sg.size < sg.size) = false := by simp
            have hrow := Aside0.mk (show (printRow col (intsOf sg)).length = sg.size by unfold printRow; rw [List.length_map, List.length_range, intsOf_length])
            obtain ⟨Tx, hTx⟩ : ∃ Tx, Tx = strOf (printRow col (intsOf sg)) := ⟨_, rfl⟩
            have hbk : (convert 41 9 (.slice (some ⟨b, 0, none⟩) sg.size cb)).run Tryd.prog wr = .ok (.string Tx) wr := by
              have := BytesAt.back (L := printRow col (intsOf sg)) (b := b) (W := wr) (by rw [hrow.out]; exact HBA.out) (fun i hi => by
                rw [hrow.out] at hi
                rw [if_pos hi]
                unfold printRow
                rw [intsOf_length]
                simp [List.getD_eq_getElem?_getD, hi]) (fun c hc => by
                obtain ⟨i, hi, rfl⟩ := List.mem_map.1 hc
                rw [List.mem_range, intsOf_length] at hi
                have hi2 : (intsOf sg).getD i 0 = ((sg[i]'hi).toNat : Int) := by
                  rw [List.getD_eq_getElem?_getD, ints_get hi]
                  rfl
                have h255 := (sg[i]'hi).toNat_lt
                unfold printCell
                split
                · have := num_range (col.getD 0 0) i (by rw [HM0.out, Int.toNat_natCast, HM4.out.2]; exact hi)
                  omega
                · rw [hi2]
                  omega) cb
              rw [hrow.out, ← hTx] at this
              exact this
            have HTX := Aside0.mk hTx
            clear hTx
            clear hlt hk
            obtain ⟨W9, rfl⟩ : ∃ W9, W9 = wr := ⟨_, rfl⟩
            go_upto_region 18 with (at_builtin; refine Kd.R_append_row Value.string ByteArray.empty (w0 := w1) w1.heap.size rfl (.tmp 67) (.tmp 70) 28 9 (.string ⟨#[]⟩) 16 rfl Tryd.underlying28 (by kernel_rfl) rfl (by decide) u6 ((List.range j).map (fun i => strOf (printRow ((choL l).1.getD i []) (entAt l i).signs))) [Tx] (some ⟨W9.heap.size, 0, none⟩) 1 1 (fun _ => True) rfl rfl (fun _ _ => trivial) (Kd.R_below HO.out (below_alloc HBI.out _)) (one_CS ((World.cell?_alloc_at _ _ _ _ rfl).trans rfl)) (below_alloc (below_then HB.out HB.out.size HBI.out) _) (by have := (below_then HB.out HB.out.size HBI.out).size; simp; omega) (by have := HLT.out; have := H8.out; simp; omega) ?_; intro v1 w10 r10 b10 g10 at10)
            have HR9 := Aside0.mk (show Kd.R Kd.string 9 w10 w1.heap.size (fun _ => True) v1 ((List.range (j + 1)).map (fun i => strOf (printRow ((choL l).1.getD i []) (entAt l i).signs))) from by
              rw [List.range_succ, List.map_append, List.map_singleton, ← HCOL.out, HEnt.out, ← HTX.out]
              exact r10)
            have HB9 := Aside0.mk b10
            clear r10 b10 g10 at10 hbk hd hdn
            go_wp2_with (fail)
            go_roundw
            case rel => exact ⟨j + 1, HLT.out, by rw [w_up HLT.out (by have := H8.out; omega)], HR9, HB9⟩
            case measure => exact meas_up HLT.out (by have := H8.out; omega)
      · obtain rfl : j = l.length := by omega
        have hd : decide ((l.length : Int) < (l.length : Int)) = false := by simp
        have hdn : decide (l.length < l.length) = false := by simp
        clear hj hlt
        go_wp2_with (fail)
        rw [printL, if_pos H0.out]
        refine bodyPost_ret (results_tmp2 rfl _ _ _) rfl ?_
        exact ⟨_, rfl, Kd.R_lower HO.out HB1.out.size, below_then HB1.out HB1.out.size HB.out⟩
  · have hne : (ck != 0) = true := by simp [h0]
    have H0 := Aside0.mk (show ¬ (choL l).2 = 0 by rw [← hck]; exact h0)
    clear h0
    go_wp2_with (go_at_call 15; refine HC.out.mono ?_; rintro e w1 ⟨v, rfl, hs1, hb1⟩; have HB1 := Aside0.mk hb1; clear hs1 hb1)
    rw [printL, if_neg H0.out, ← hck]
    refine bodyPost_ret (results_tmp2 rfl _ _ _) rfl ?_
    exact ⟨_, rfl, Kd.R_nil _ _ _ _ _, HB1.out⟩
end Go.Proofs.YtgfikondoehblaaDoor.Pr
end
section
namespace Go.Proofs.YtgfikondoehblaaDoor.Pr
open Go.RowKit Go.Shelf Go.Proofs.YtgfikondoehblaaDoorW.PrintWords Go.Proofs.YtgfikondoehblaaDoorW.PrintLast Go.Proofs.YtgfikondoehblaaDoorW.PrintMore Go.Proofs.SumKeep
open SumPlain (Ent AccSo SignSo KindOk lostSum lostP numeralP maysP stepS stepW)
theorem R_turn {α : Type} {d : Kd α} {e base g : Nat} {w w1 : World} {v : Value} {xs : List α} (h : d.R e w base (fun _ => True) v xs) (ht : Turns (fun k => k = g ∨ w.heap.size ≤ k) w w1) (hg : g < base) : d.R e w1 base (fun _ => True) v xs :=
  Kd.R_mono (Kd.R_step (Kd.R_bound h) (fun k hk hlt => ht.block k hlt (fun e => by rcases e with rfl | e; (have := hk.2.1; omega); omega))) (fun _ _ => trivial)
theorem R_urn {α : Type} {d : Kd α} {e base g : Nat} {w w1 : World} {v : Value} {xs : List α} (h : d.R e w base (fun _ => True) v xs) (ht : UrnT g w w1) (hg : g < base) : d.R e w1 base (fun _ => True) v xs := R_turn h (ht.mono (fun _ _ => .inl)) hg
structure AccAt (w : World) (g E lost0 : Nat) (cnt d : Nat) (xs : List S38) (vals : List Int) (sum whole : Int) (v10 v11 : Value) (wr : World) : Prop where
  many : cnt + xs.length = E
  le8 : E ≤ 8
  so : AccSo (xs.map toEnt) vals sum whole
  lost : lostSum (xs.map toEnt) + d ≤ lost0
  l5 : lost0 ≤ 5
  r10 : Kd.R k38 38 wr w.heap.size (fun _ => True) v10 xs
  r11 : Kd.R (Kd.int .i64) 3 wr w.heap.size (fun _ => True) v11 vals
  urn : UrnAt wr g
  turn : UrnT g w wr
  lt : g < w.heap.size
theorem AccAt.next {w : World} {g E lost0 cnt d : Nat} {xs : List S38} {vals : List Int} {sum whole : Int} {v10 v11 : Value} {wr w' : World} (h : AccAt w g E lost0 cnt d xs vals sum whole v10 v11 wr) (hu : UrnAt w' g) (ht : UrnT g wr w') : AccAt w g E lost0 cnt d xs vals sum whole v10 v11 w' :=
  ⟨h.many, h.le8, h.so, h.lost, h.l5, R_urn h.r10 ht h.lt, R_urn h.r11 ht h.lt, hu, h.turn.trans ht, h.lt⟩
theorem AccAt.next2 {w : World} {g E lost0 cnt d : Nat} {xs : List S38} {vals : List Int} {sum whole : Int} {v10 v11 : Value} {wr w' : World} (h : AccAt w g E lost0 cnt d xs vals sum whole v10 v11 wr) (hu : UrnAt w' g) (ht : Turns (fun k => k = g ∨ wr.heap.size ≤ k) wr w') : AccAt w g E lost0 cnt d xs vals sum whole v10 v11 w' :=
  ⟨h.many, h.le8, h.so, h.lost, h.l5, R_turn h.r10 ht h.lt, R_turn h.r11 ht h.lt, hu, h.turn.then ht (fun i hi e => by rcases e with e | e; exact e; have := h.turn.size; omega), h.lt⟩
theorem AccAt.alloc {w : World} {g E lost0 cnt d : Nat} {xs : List S38} {vals : List Int} {sum whole : Int} {v10 v11 : Value} {wr : World} (h : AccAt w g E lost0 cnt d xs vals sum whole v10 v11 wr) (o : Obj) : AccAt w g E lost0 cnt d xs vals sum whole v10 v11 (wr.alloc o) :=
  ⟨h.many, h.le8, h.so, h.lost, h.l5, Kd.R_alloc h.r10 o, Kd.R_alloc h.r11 o, h.urn.below (below_alloc (Below.refl _ _) o), h.turn.alloc o, h.lt⟩
theorem any3_calls (g : Nat) (a b c : Int) (w : World) (hU : UrnAt w g) : Calls Tryd.prog 49 #[.pointer (some ⟨g, 0, none⟩), .slice (some ⟨w.heap.size, 0, none⟩) 3 3] (w.alloc (.cells #[.int .i64 a, .int .i64 b, .int .i64 c] 3)) fun e w' => (∃ v, e = .returned (.int .i64 v) ∧ v ∈ [a, b, c]) ∧ UrnAt w' g ∧ UrnT g (w.alloc (.cells #[.int .i64 a, .int .i64 b, .int .i64 c] 3)) w' :=
  any_calls g [a, b, c] (by simp) (some ⟨w.heap.size, 0, none⟩) 3 _ (hU.below (below_alloc (Below.refl _ _) _)) (C_lit (enc := fun n : Int => Value.int .i64 n) [a, b, c] _ w.heap.size 3 (heap_alloc_new w _) (by simp)) (fun ad e => by cases e; have := hU.lt; show w.heap.size ≠ g; omega)
theorem BytesAt.turn {W W' : World} {b n g : Nat} {f : Nat → Int} (h : BytesAt W b n f) (ht : UrnT g W W') (hne : g ≠ b) : BytesAt W' b n f := by
  have hlt := h.lt
  obtain ⟨vs, m, h1, h2⟩ := h
  exact ⟨vs, m, (ht.block b hlt (fun e => hne e.symm)).trans h1, h2⟩
theorem BytesAt.grown {W W' : World} {b n : Nat} {f : Nat → Int} {row : Option Nat} (h : BytesAt W b n f) (hg : W.grownBy W' row) (hne : some b ≠ row) : BytesAt W' b n f := by
  have hlt := h.lt
  obtain ⟨vs, m, h1, h2⟩ := h
  exact ⟨vs, m, (hg.block b hlt hne).trans h1, h2⟩
theorem numeral_bytes (n : Nat) : ∀ c ∈ numeralP n, 0 ≤ c ∧ c < 256 := fun c hc => by
  have h1 := SumPlain.numGo_mem SumPlain.signsP n c hc
  have : ∀ x ∈ SumPlain.signsP.map (·.1), (0 : Int) ≤ x ∧ x < 256 := by decide
  exact this c h1
def PickOk (kd n sum whole : Int) (item : Int) : Prop := (kd = 1 ∧ 1 ≤ n ∧ n ≤ max 40 item) ∨ (kd = 2 ∧ n = sum ∧ 0 < sum) ∨ (kd = 3 ∧ n = whole ∧ 0 < whole)
set_option maxRecDepth 100000 in
set_option maxHeartbeats 8000000 in
theorem accountOf_calls (g : Nat) (entries item lost : Int) (he : 1 ≤ entries ∧ entries ≤ 8) (hi : 1 ≤ item ∧ item ≤ 4999) (hl : 0 ≤ lost ∧ lost ≤ 5) (w : World) (hU : UrnAt w g) :
    Calls Tryd.prog 13 #[.pointer (some ⟨g, 0, none⟩), .int .i64 entries, .int .i64 item, .int .i64 lost] w fun e w' => ∃ (v10 v11 : Value) (xs : List S38) (vals : List Int) (sum whole : Int),
      e = .returned (.tuple #[v10, v11]) ∧ (1 ≤ xs.length ∧ xs.length ≤ entries.toNat) ∧ AccSo (xs.map toEnt) vals sum whole ∧ lostSum (xs.map toEnt) ≤ lost.toNat ∧
      Kd.R k38 38 w' w.heap.size (fun _ => True) v10 xs ∧ Kd.R (Kd.int .i64) 3 w' w.heap.size (fun _ => True) v11 vals ∧ UrnAt w' g ∧ UrnT g w w' := by
  have HU := Aside0.mk hU
  have HLT := Aside0.mk hU.lt
  have HE := Aside0.mk he
  have HI := Aside0.mk hi
  have HL := Aside0.mk hl
  have hw1 : wrap64 (lost + 1) = lost + 1 := by unfold wrap64; omega
  clear hU he hi hl
  have hcv : ∀ (W : World) (s : ByteArray), (convert 9 41 (.string s)).run Tryd.prog W = .ok (.slice (some ⟨W.heap.size, 0, none⟩) s.size (grownCap W s.size 0 5)) (Lib.bytesWorld W 5 s) := fun W s => Lib.run_convert_string_bytes W _ _ _ s Tryd.underlying9 Tryd.underlying41 Tryd.underlying5
  go_enter Tryd.func13, Tryd.ntmps13
  go_wp2_with (first
    | (go_at_call 18; with_reducible refine (up_calls g (lost + 1) (by have := HL.out; omega) w HU.out).mono ?_; rintro e w1 ⟨⟨d0, rfl, hd0, hd1⟩, hu, ht⟩; have HU1 := Aside0.mk hu; have HT1 := Aside0.mk ht; have HD := Aside0.mk (And.intro hd0 hd1); clear hu ht hd0 hd1)
    | (go_at_call 25; with_reducible refine (from_calls g 1 entries (by have := HE.out; omega) w1 HU1.out).mono ?_; rintro e w2 ⟨⟨c0, rfl, hc0, hc1⟩, hu, ht⟩; have HU2 := Aside0.mk hu; have HT2 := Aside0.mk (HT1.out.trans ht); have HC := Aside0.mk (And.intro hc0 hc1); clear hu ht hc0 hc1))
  obtain ⟨E, rfl⟩ : ∃ E : Nat, c0 = (E : Int) := ⟨c0.toNat, by have := HC.out; omega⟩
  obtain ⟨D, rfl⟩ : ∃ D : Nat, d0 = (D : Int) := ⟨d0.toNat, by have := HD.out; omega⟩
  obtain ⟨L0, rfl⟩ : ∃ L0 : Nat, lost = (L0 : Int) := ⟨lost.toNat, by have := HL.out; omega⟩
  go_loopw [3, 10, 11, 12, 13, 14, 15, 16, 17, 18, 26, 27, 28, 29, 30, 31, 32, 33, 34, 35, 36, 37, 38, 39, 40, 41, 42, 43, 44, 45, 46, 47, 48, 49, 50, 51, 52, 53, 54, 55, 56, 57, 58, 59, 60, 61, 62, 63, 64, 65, 66, 67, 68, 69, 70, 71, 72, 73, 74, 75, 76, 77, 78, 79, 80, 81, 82, 83, 84, 85, 86, 87, 88, 89, 90, 91, 92, 93, 94, 95, 96, 97, 98, 99, 100, 101, 102, 103, 104, 105, 106, 107] (fun v3 v10 v11 v12 v13 v14 _ _ _ _ _ _ _ _ _ _ _ _ _ _ _ _ _ _ _ _ _ _ _ _ _ _ _ _ _ _ _ _ _ _ _ _ _ _ _ _ _ _ _ _ _ _ _ _ _ _ _ _ _ _ _ _ _ _ _ _ _ _ _ _ _ _ _ _ _ _ _ _ _ _ _ _ _ _ _ _ _ _ _ _ _ _ wr => ∃ (cnt d : Nat) (xs : List S38) (vals : List Int) (sum whole : Int), v14 = .int .i64 (cnt : Int) ∧ v3 = .int .i64 (d : Int) ∧ v12 = .int .i64 sum ∧ v13 = .int .i64 whole ∧ Aside0 (AccAt w g E L0 cnt d xs vals sum whole v10 v11 wr))
    (fun _ _ _ _ _ v14 _ _ _ _ _ _ _ _ _ _ _ _ _ _ _ _ _ _ _ _ _ _ _ _ _ _ _ _ _ _ _ _ _ _ _ _ _ _ _ _ _ _ _ _ _ _ _ _ _ _ _ _ _ _ _ _ _ _ _ _ _ _ _ _ _ _ _ _ _ _ _ _ _ _ _ _ _ _ _ _ _ _ _ _ _ _ _ => (intOf v14).toNat)
  case atStart => exact ⟨E, D, [], [], 0, 0, rfl, rfl, rfl, rfl, ⟨⟨by simp, by have := HC.out; have := HE.out; omega, AccSo.nil, by have := HD.out; simp [lostSum]; omega, by have := HL.out; omega, Kd.R_nil _ _ _ _ _, Kd.R_nil _ _ _ _ _, HU2.out, HT2.out, HLT.out⟩⟩⟩
  case round =>
    obtain ⟨cnt, d, xs, vals, sum, whole, rfl, rfl, rfl, rfl, HA⟩ := hrel
    by_cases hlt : 0 < cnt
    · have hd1 : decide (0 < cnt) = true := decide_eq_true hlt
      have hd2 : decide ((cnt : Int) > 0) = true := by simp; omega
      have HLT2 := Aside0.mk hlt
      clear hlt HU1 HU2 HT1 HT2
      go_upto_region 8 with (fail)
      go_cut [15, 16] (fun v15 v16 wc => v15 = .int .i64 1 ∧ ∃ n : Int, v16 = .int .i64 n ∧ 1 ≤ n ∧ n ≤ max 40 item ∧ Aside0 (AccAt w g E L0 cnt d xs vals sum whole u10 u11 wc))
      case first =>
        go_wp2_with (first
          | (go_at_call 25; with_reducible refine (from_calls g 1 9 (by omega) wr HA.out.urn).mono ?_; rintro e w3 ⟨⟨p1, rfl, h1a, h1b⟩, hu, ht⟩; have HA3 := Aside0.mk (HA.out.next hu ht); have H1 := Aside0.mk (And.intro h1a h1b); clear hu ht h1a h1b)
          | (go_at_call 25; with_reducible refine (from_calls g 1 40 (by omega) w3 HA3.out.urn).mono ?_; rintro e w4 ⟨⟨p2, rfl, h1a, h1b⟩, hu, ht⟩; have HA4 := Aside0.mk (HA3.out.next hu ht); have H2 := Aside0.mk (And.intro h1a h1b); clear hu ht h1a h1b)
          | (go_at_call 25; with_reducible refine (from_calls g 1 item (by have := HI.out; omega) w4 HA4.out.urn).mono ?_; rintro e w5 ⟨⟨p3, rfl, h1a, h1b⟩, hu, ht⟩; have HA5 := Aside0.mk (HA4.out.next hu ht); have H3 := Aside0.mk (And.intro h1a h1b); clear hu ht h1a h1b)
          | (go_at_call 49; with_reducible refine (any3_calls g p1 p2 p3 w5 HA5.out.urn).mono ?_; rintro e w6 ⟨⟨n, rfl, hn⟩, hu, ht⟩; have HA6 := Aside0.mk ((HA5.out.alloc (.cells #[.int .i64 p1, .int .i64 p2, .int .i64 p3] 3)).next hu ht); have HN := Aside0.mk hn; clear hu ht hn))
        go_meet
        case rel =>
          refine ⟨rfl, n, rfl, ?_, ?_, HA6⟩
          · have h := HN.out
            have := H1.out
            have := H2.out
            have := H3.out
            simp only [List.mem_cons, List.not_mem_nil, or_false] at h
            rcases h with h | h | h <;> omega
          · have h := HN.out
            have := H1.out
            have := H2.out
            have := H3.out
            simp only [List.mem_cons, List.not_mem_nil, or_false] at h
            rcases h with h | h | h <;> omega
      case rest =>
        obtain ⟨rfl, n, rfl, hn1, hn2, HA2⟩ := hcut
        have HN := Aside0.mk (And.intro hn1 hn2)
        clear HA hn1 hn2
        go_upto_region 9 with (fail)
        go_cut [45] (fun v45 wc => ∃ b : Bool, v45 = .bool b ∧ (b = true → 0 < sum) ∧ Aside0 (AccAt w g E L0 cnt d xs vals sum whole u10 u11 wc))
        case first =>
          by_cases hs : 0 < sum
          · have c1 : decide (sum > 0) = true := decide_eq_true hs
            have HS := Aside0.mk hs
            clear hs
            go_wp2_with (go_at_call 26; with_reducible refine (odds_calls g 2 5 (by omega) wc HA2.out.urn).mono ?_; rintro e w3 ⟨⟨b, rfl⟩, hu, ht⟩; have HA3 := Aside0.mk (HA2.out.next hu ht); clear hu ht)
            go_meet
            case rel => exact ⟨b, rfl, fun _ => HS.out, HA3⟩
          · have c1 : decide (sum > 0) = false := decide_eq_false hs
            clear hs
            go_wp2_with (fail)
            go_meet
            case rel => exact ⟨false, rfl, (fun h => by cases h), HA2⟩
        case rest =>
          obtain ⟨b, rfl, hb, HA3⟩ := hcut
          have HSB := Aside0.mk hb
          clear HA2 hb
          go_upto_if 45 with (fail)
          go_cut [15, 16] (fun v15 v16 wc => ∃ kd n : Int, v15 = .int .i64 kd ∧ v16 = .int .i64 n ∧ Aside0 (PickOk kd n sum whole item) ∧ Aside0 (AccAt w g E L0 cnt d xs vals sum whole u10 u11 wc))
          case first =>
            cases b with
            | true =>
              go_wp2_with (fail)
              go_meet
              case rel => exact ⟨_, _, rfl, rfl, ⟨.inr (.inl ⟨rfl, rfl, (by have h := HSB.out; simpa using h)⟩)⟩, HA3⟩
            | false =>
              go_wp2_with (fail)
              go_meet
              case rel => exact ⟨_, _, rfl, rfl, ⟨.inl ⟨rfl, HN.out⟩⟩, HA3⟩
          case rest =>
            clear HA3 HSB HN
            obtain ⟨kd, n, rfl, rfl, HP, HA4⟩ := hcut
            go_upto_region 11 with (fail)
            go_cut [52] (fun v52 wc => ∃ b : Bool, v52 = .bool b ∧ (b = true → 0 < whole) ∧ Aside0 (AccAt w g E L0 cnt d xs vals sum whole u10 u11 wc))
            case first =>
              by_cases hs : 0 < whole
              · have c1 : decide (whole > 0) = true := decide_eq_true hs
                have HS := Aside0.mk hs
                clear hs
                go_wp2_with (go_at_call 26; with_reducible refine (odds_calls g 1 5 (by omega) wc HA4.out.urn).mono ?_; rintro e w3 ⟨⟨b, rfl⟩, hu, ht⟩; have HA5 := Aside0.mk (HA4.out.next hu ht); clear hu ht)
                go_meet
                case rel => exact ⟨b, rfl, fun _ => HS.out, HA5⟩
              · have c1 : decide (whole > 0) = false := decide_eq_false hs
                clear hs
                go_wp2_with (fail)
                go_meet
                case rel => exact ⟨false, rfl, (fun h => by cases h), HA4⟩
            case rest =>
              obtain ⟨b, rfl, hb, HA5⟩ := hcut
              have HSB := Aside0.mk hb
              clear HA4 hb
              go_upto_if 52 with (fail)
              go_cut [15, 16] (fun v15 v16 wc => ∃ kd n : Int, v15 = .int .i64 kd ∧ v16 = .int .i64 n ∧ Aside0 (PickOk kd n sum whole item) ∧ Aside0 (AccAt w g E L0 cnt d xs vals sum whole u10 u11 wc))
              case first =>
                cases b with
                | true =>
                  go_wp2_with (fail)
                  go_meet
                  case rel => exact ⟨_, _, rfl, rfl, ⟨.inr (.inr ⟨rfl, rfl, (by have h := HSB.out; simpa using h)⟩)⟩, HA5⟩
                | false =>
                  go_wp2_with (fail)
                  go_meet
                  case rel => exact ⟨_, _, rfl, rfl, HP, HA5⟩
              case rest =>
                clear HA5 HSB HP
                obtain ⟨kd, n, rfl, rfl, HP, HA6⟩ := hcut
                have hnn := HA6.out.so.nn
                have hww : wrap64 (whole + n) = whole + n := by
                  have hP := HP.out
                  have := HI.out
                  unfold PickOk at hP
                  unfold wrap64
                  omega
                by_cases hbr : n > 4999 ∨ kd = 1 ∧ whole + n > 4999
                · have HNE := Aside0.mk (show 1 ≤ xs.length from by
                    rcases xs with _ | ⟨x, xs⟩
                    · exfalso
                      have hf := HA6.out.so.fin_
                      have hv : vals = [] := List.eq_nil_of_length_eq_zero (by have := HA6.out.so.len; simpa using this.symm)
                      subst hv
                      simp only [List.map_nil, maysP, SumPlain.fin, Prod.mk.injEq] at hf
                      have hP := HP.out
                      have := HI.out
                      unfold PickOk at hP
                      omega
                    · simp)
                  by_cases h1 : n > 4999
                  · have c1 : decide (n > 4999) = true := decide_eq_true h1
                    clear hbr h1 hnn
                    go_wp2_with (fail)
                    go_ret2
                    exact ⟨_, _, xs, vals, sum, whole, rfl, ⟨HNE.out, by have := HA6.out.many; have := HC.out; omega⟩, HA6.out.so, by have := HA6.out.lost; omega, HA6.out.r10, HA6.out.r11, HA6.out.urn, HA6.out.turn⟩
                  · have c1 : decide (n > 4999) = false := decide_eq_false h1
                    have h2 : kd = 1 ∧ whole + n > 4999 := by omega
                    obtain ⟨rfl, h2⟩ := h2
                    have c2 : decide (whole + n > 4999) = true := decide_eq_true h2
                    clear hbr h1 h2 hnn
                    go_wp2_with (fail)
                    go_ret2
                    exact ⟨_, _, xs, vals, sum, whole, rfl, ⟨HNE.out, by have := HA6.out.many; have := HC.out; omega⟩, HA6.out.so, by have := HA6.out.lost; omega, HA6.out.r10, HA6.out.r11, HA6.out.urn, HA6.out.turn⟩
                · have HK := Aside0.mk (show KindOk kd n sum whole from by
                    have hP := HP.out
                    unfold PickOk at hP
                    unfold KindOk
                    omega)
                  have c1 : decide (n > 4999) = false := by simp; omega
                  go_upto_region 13 with (fail)
                  go_cut [65] (fun v65 wc => v65 = .bool false ∧ Aside0 (AccAt w g E L0 cnt d xs vals sum whole u10 u11 wc))
                  case first =>
                    by_cases h1 : kd = 1
                    · subst h1
                      have c2 : decide (whole + n > 4999) = false := by simp; omega
                      clear hbr hnn
                      go_wp2_with (fail)
                      go_meet
                      case rel => exact ⟨rfl, HA6⟩
                    · have c2 : (kd == 1) = false := by simpa using h1
                      clear hbr hnn h1
                      go_wp2_with (fail)
                      go_meet
                      case rel => exact ⟨rfl, HA6⟩
                  case rest =>
                    obtain ⟨rfl, HA7⟩ := hcut
                    clear HA6 HP hbr c1
                    have hws : wrap64 (sum + n) = sum + n := by
                      have hP := HK.out
                      unfold KindOk at hP
                      unfold wrap64
                      omega
                    have HWT := Aside0.mk (fun h : kd = 1 => show wrap64 (whole + n) = whole + n by
                      have hP := HK.out
                      unfold KindOk at hP
                      unfold wrap64
                      omega)
                    clear hnn
                    go_upto_block 2 with (fail)
                    go_cut [12, 13] (fun v12 v13 wc => v12 = .int .i64 (stepS kd n sum) ∧ v13 = .int .i64 (stepW kd n whole) ∧ Aside0 (AccAt w g E L0 cnt d xs vals sum whole u10 u11 wc))
                    case first =>
                      have hk := HK.out
                      unfold KindOk at hk
                      rcases hk with ⟨rfl, h1, h2⟩ | ⟨rfl, h1, h2⟩ | ⟨rfl, h1, h2⟩
                      · clear h1 h2
                        go_wp2_with (fail)
                        go_meet
                        case rel => exact ⟨rfl, by first | rfl | (rw [HWT.out rfl]; rfl), HA7⟩
                      · clear h1 h2
                        go_wp2_with (fail)
                        go_meet
                        case rel => exact ⟨rfl, rfl, HA7⟩
                      · clear h1 h2
                        go_wp2_with (fail)
                        go_meet
                        case rel => exact ⟨rfl, rfl, HA7⟩
                    case rest =>
                      obtain ⟨rfl, rfl, HA8⟩ := hcut
                      clear HA7 hws HWT hww
                      obtain ⟨s2, hs2⟩ : ∃ s2, s2 = stepS kd n sum := ⟨_, rfl⟩
                      obtain ⟨t2, ht2⟩ : ∃ t2, t2 = stepW kd n whole := ⟨_, rfl⟩
                      rw [← hs2, ← ht2]
                      have HST := Aside0.mk (And.intro hs2 ht2)
                      clear hs2 ht2
                      obtain ⟨m, rfl⟩ : ∃ m : Nat, n = (m : Int) := ⟨n.toNat, by have hP := HK.out; unfold KindOk at hP; omega⟩
                      have HM := Aside0.mk (show m ≤ 4999 from by have hP := HK.out; have := HA8.out.so.nn; unfold KindOk at hP; omega)
                      go_upto_region 20 with (go_at_call 50; with_reducible refine (numeralOf_calls m HM.out wc).mono ?_; rintro e w9 ⟨rfl, hb9⟩; have HB9 := Aside0.mk hb9; clear hb9)
                      obtain ⟨cb, hcb⟩ : ∃ cb, cb = grownCap w9 (strOf (numeralP m)).size 0 5 := ⟨_, rfl⟩
                      obtain ⟨W2, hW2⟩ : ∃ W2, W2 = Lib.bytesWorld w9 5 (strOf (numeralP m)) := ⟨_, rfl⟩
                      rw [← hcb, ← hW2]
                      obtain ⟨b, hb⟩ : ∃ b, b = w9.heap.size := ⟨_, rfl⟩
                      obtain ⟨ln, hln⟩ : ∃ ln, ln = (strOf (numeralP m)).size := ⟨_, rfl⟩
                      have HLN := Aside0.mk (show (numeralP m).length = ln by rw [hln, strOf_size])
                      have HL19 := Aside0.mk (show ln ≤ 19 from by
                        have h2 : (numeralP m).length ≤ 19 := (SumPlain.numeral_len_all ⟨m, by have := HM.out; omega⟩).1
                        have := HLN.out
                        omega)
                      have HBA := Aside0.mk (show BytesAt W2 b ln (fun j => (numeralP m).getD j 0) by
                        have := BytesAt.made w9 (strOf (numeralP m))
                        rw [numeral_ints] at this
                        rw [hW2, hb, hln]
                        exact this)
                      have HT2 := Aside0.mk (show Turns (fun k => k = g ∨ wc.heap.size ≤ k) wc W2 by
                        rw [hW2]
                        exact Turns.of_new (HB9.out.trans (bytesWorld_below (Below.refl _ _) (by have := HB9.out.size; omega) _)))
                      have HU2 := Aside0.mk (show UrnAt W2 g from HA8.out.urn.below (by rw [hW2]; exact HB9.out.trans (bytesWorld_below (Below.refl _ _) (by have := HB9.out.size; omega) _)))
                      have HBB := Aside0.mk (show g ≠ b ∧ wc.heap.size ≤ b by have := HA8.out.urn.lt; have := HB9.out.size; omega)
                      rw [← hb, ← hln]
                      clear hcb hW2 hb hln HB9 hcv
                      go_wp2_with (fail)
                      go_loopw [3, 18, 80, 81, 82, 83, 84, 85, 86, 87, 88, 89, 90, 91, 92, 93, 94, 95, 96] (fun v3 v18 _ _ _ _ _ _ _ _ _ _ _ _ _ _ _ _ _ wr => ∃ (k d2 dd : Nat) (cs : List Int), k ≤ ln ∧ v18 = .int .i64 (k : Int) ∧ v3 = .int .i64 (d2 : Int) ∧ Aside0 (d2 + dd = d) ∧ Aside0 (SignSo m k cs dd) ∧ Aside0 (cs.length = ln) ∧ Aside0 (∀ c ∈ cs, 0 ≤ c ∧ c < 256) ∧ Aside0 (BytesAt wr b ln (fun j => cs.getD j 0)) ∧ Aside0 (UrnAt wr g) ∧ Aside0 (Turns (fun k => k = g ∨ wc.heap.size ≤ k) wc wr))
                        (fun _ v18 _ _ _ _ _ _ _ _ _ _ _ _ _ _ _ _ _ _ => ln - (intOf v18).toNat)
                      case atStart => exact ⟨0, d, 0, numeralP m, Nat.zero_le _, rfl, rfl, ⟨rfl⟩, ⟨SignSo.start m⟩, HLN, ⟨numeral_bytes m⟩, HBA, HU2, HT2⟩
                      case round =>
                        clear HBA HU2 HT2
                        obtain ⟨k, d2, dd, cs, hk, rfl, rfl, HDD, HSS, HCS, HCB, HBA, HU3, HT3⟩ := hrel
                        by_cases hlt : k < ln
                        · have hd1 : decide ((k : Int) < (ln : Int)) = true := by simp; omega
                          have hd2 : decide (k < ln) = true := by simp; omega
                          have HKT := Aside0.mk hlt
                          have hk0 : (0 : Int) ≤ (k : Int) := by omega
                          have hk1 : (k : Int) < (ln : Int) := by omega
                          clear hlt hk
                          go_upto_region 23 with (fail)
                          go_cut [91] (fun v91 wd => ∃ o : Bool, v91 = .bool o ∧ (o = true → 0 < d2) ∧ Aside0 (BytesAt wd b ln (fun j => cs.getD j 0)) ∧ Aside0 (UrnAt wd g) ∧ Aside0 (Turns (fun k => k = g ∨ wc.heap.size ≤ k) wc wd))
                          case first =>
                            by_cases hs : 0 < d2
                            · have c1 : decide ((d2 : Int) > 0) = true := by simp; omega
                              have c2 : decide (0 < d2) = true := decide_eq_true hs
                              have HS := Aside0.mk hs
                              clear hs hd1 hd2 hk0 hk1
                              go_wp2_with (go_at_call 26; with_reducible refine (odds_calls g 1 3 (by omega) wr HU3.out).mono ?_; rintro e w3 ⟨⟨o, rfl⟩, hu, ht⟩; have HU4 := Aside0.mk hu; have HT4 := Aside0.mk (HT3.out.trans (ht.mono (fun _ _ => .inl))); have HBA4 := Aside0.mk (HBA.out.turn ht HBB.out.1); clear hu ht)
                              go_meet
                              case rel => exact ⟨o, rfl, fun _ => HS.out, HBA4, HU4, HT4⟩
                            · have c1 : decide ((d2 : Int) > 0) = false := by simp; omega
                              have c2 : decide (0 < d2) = false := decide_eq_false hs
                              clear hs hd1 hd2 hk0 hk1
                              go_wp2_with (fail)
                              go_meet
                              case rel => exact ⟨false, rfl, (fun h => by cases h), HBA, HU3, HT3⟩
                          case rest =>
                            obtain ⟨o, rfl, ho, HBA4, HU4, HT4⟩ := hcut
                            have HOO := Aside0.mk ho
                            clear HBA HU3 HT3 ho
                            cases o with
                            | false =>
                              go_wp2_with (fail)
                              go_roundw
                              case rel => exact ⟨k + 1, d2, dd, cs, HKT.out, by rw [w_up HKT.out (by have := HL19.out; omega)], rfl, HDD, ⟨HSS.out.skip⟩, HCS, HCB, HBA4, HU4, HT4⟩
                              case measure => exact meas_up HKT.out (by have := HL19.out; omega)
                            | true =>
                              obtain ⟨d3, rfl⟩ : ∃ d3, d2 = d3 + 1 := ⟨d2 - 1, by have h := HOO.out; simp at h; omega⟩
                              have hcb := HBA4.out.cell HKT.out
                              have hfb := HBA4.out.frozen HKT.out
                              have hlb := HBA4.out.lt
                              have hwd : wrap64 (((d3 + 1 : Nat) : Int) - 1) = (d3 : Int) := by
                                have := HA8.out.lost
                                have := HA8.out.l5
                                have := HDD.out
                                unfold wrap64
                                omega
                              have hwe : IntKind.i64.wrap (((d3 + 1 : Nat) : Int) - 1) = (d3 : Int) := by rw [i64_w]; exact hwd
                              go_upto_region 24 with (fail)
                              go_wp2_with (fail)
                              go_roundw
                              case rel =>
                                refine ⟨k + 1, d3, dd + 1, cs.set k 63, HKT.out, by rw [w_up HKT.out (by have := HL19.out; omega)], by first | rfl | (rw [show wrap64 (d3 : Int) = (d3 : Int) from by have := HA8.out.lost; have := HA8.out.l5; have := HDD.out; unfold wrap64; omega]), ⟨by have := HDD.out; omega⟩, ⟨HSS.out.strike (by rw [HCS.out]; exact HKT.out)⟩, ⟨by rw [List.length_set]; exact HCS.out⟩, ⟨fun c hc => ?_⟩, ⟨(HBA4.out.set HKT.out 63).congr (fun j hj => ?_)⟩, ⟨HU4.out.keep (Below.heap_setCell _ _ _ _ HBB.out.1)⟩, ⟨HT4.out.setCell _ _ (fun _ => .inr HBB.out.2)⟩⟩
                                · rcases List.mem_or_eq_of_mem_set hc with h | rfl
                                  · exact HCB.out c h
                                  · omega
                                · by_cases hjk : j = k
                                  · subst hjk
                                    rw [if_pos rfl, List.getD_eq_getElem?_getD, List.getElem?_set_self (by rw [HCS.out]; exact hj)]
                                    rfl
                                  · rw [if_neg hjk, List.getD_eq_getElem?_getD, List.getD_eq_getElem?_getD, List.getElem?_set_ne (Ne.symm hjk)]
                              case measure => exact meas_up HKT.out (by have := HL19.out; omega)
                        · obtain rfl : k = ln := by omega
                          have hd1 : decide ((k : Int) < (k : Int)) = false := by simp
                          have hd2 : decide (k < k) = false := by simp
                          clear hlt hk
                          go_upto_region 25 with (fail)
                          clear hd1 hd2
                          have HA9 := Aside0.mk (HA8.out.next2 HU3.out HT3.out)
                          clear HA8 HU3 HT3
                          have HXL := Aside0.mk (show xs.length ≤ 8 from by have := HA9.out.many; have := HA9.out.le8; omega)
                          have HVL := Aside0.mk (show vals.length ≤ 8 from by have h := HA9.out.so.len; rw [List.length_map] at h; have := HXL.out; omega)
                          have HCK := HCS.out
                          subst HCK
                          have hcb := fun cap => BytesAt.back HBA.out (fun _ _ => rfl) HCB.out cap
                          obtain ⟨a10, c10, hv10⟩ := Kd.R_slice HA9.out.r10
                          subst hv10
                          obtain ⟨a11, c11, hv11⟩ := Kd.R_slice HA9.out.r11
                          subst hv11
                          have HZB := Aside0.mk (show w.heap.size ≤ wr.heap.size from HA9.out.turn.size)
                          have HM38 := Aside0.mk (fun (W : World) => show Kd.M k38 W w.heap.size (fun _ => False) (⟨kd, strOf cs⟩ : S38) [.int .i64 kd, .string (strOf cs)] from k38_mkM _ _ _ _)
                          go_wp2_with (first
                            | (at_builtin; refine Kd.R_append k38 (w0 := wr) w.heap.size rfl (.tmp 97) (.tmp 102) 25 38 (.agg #[(.int .i64 0), (.string ⟨#[]⟩)]) 24 rfl Tryd.underlying25 info38 rfl (by decide) (by decide) (.slice a10 xs.length c10) xs (⟨kd, strOf cs⟩ : S38) [.int .i64 kd, .string (strOf cs)] (fun _ => True) (fun _ => False) rfl rfl (HM38.out _) (fun k hk => hk.elim) (fun _ _ => trivial) HA9.out.r10 (Below.refl _ _) HZB.out (by have := HXL.out; omega) ?_; intro v103 w5 hr5 hb5 hg5 hat5; have H103 := Aside0.mk hr5; have HB5 := Aside0.mk hb5; have H11 := Aside0.mk (Kd.R_over HA9.out.r11 HA9.out.r10 (by decide) hg5); clear hr5 hb5 hg5 hat5)
                            | (at_builtin; refine Kd.R_append (Kd.int .i64) (w0 := wr) w.heap.size rfl (.tmp 104) (.tmp 106) 22 3 (.int .i64 0) 8 rfl Tryd.underlying22 info3 rfl (by decide) (by decide) (.slice a11 vals.length c11) vals (m : Int) [.int .i64 (m : Int)] (fun _ => True) (fun _ => False) rfl rfl rfl (fun k hk => hk.elim) (fun _ _ => trivial) H11.out HB5.out (Nat.le_trans HZB.out HB5.out.size) (by have := HVL.out; omega) ?_; intro v107 w6 hr6 hb6 hg6 hat6; have H107 := Aside0.mk hr6; have HB6 := Aside0.mk hb6; have HX103 := Aside0.mk (Kd.R_over H103.out H11.out (by decide) hg6); clear hr6 hb6 hg6 hat6))
                          go_roundw
                          case rel =>
                            obtain ⟨rfl, rfl⟩ := HST.out
                            have hcn : wrap64 ((cnt : Int) - 1) = ((cnt - 1 : Nat) : Int) := by
                              have := HLT2.out
                              have := HA9.out.many
                              have := HA9.out.le8
                              unfold wrap64
                              omega
                            have hent : toEnt (⟨kd, strOf cs⟩ : S38) = ⟨kd, cs⟩ := by
                              show (⟨kd, intsOf (strOf cs)⟩ : Ent) = _
                              rw [strOf_ints HCB.out]
                            refine ⟨cnt - 1, d2, xs ++ [⟨kd, strOf cs⟩], vals ++ [(m : Int)], _, _, by rw [hcn], rfl, rfl, rfl, ⟨⟨?_, HA9.out.le8, ?_, ?_, HA9.out.l5, HX103.out, H107.out, HA9.out.urn.keep (HB6.out.block g (by have := HLT.out; omega)), HA9.out.turn.then (Turns.of_below HB6.out) (fun i h1 h2 => by omega), HLT.out⟩⟩⟩
                            · have := HA9.out.many
                              have := HLT2.out
                              rw [List.length_append, List.length_singleton]
                              omega
                            · rw [List.map_append, List.map_singleton, hent]
                              exact HA9.out.so.step HK.out (by rw [Int.toNat_natCast]; exact HSS.out.fits)
                            · rw [List.map_append, List.map_singleton, hent, SumPlain.lostSum_snoc]
                              have := HA9.out.lost
                              have := HSS.out.lost
                              have := HDD.out
                              show _ + lostP cs + d2 ≤ L0
                              omega
                          case measure =>
                            have := HLT2.out
                            have := HA9.out.many
                            have := HA9.out.le8
                            have hcn : wrap64 ((cnt : Int) - 1) = ((cnt - 1 : Nat) : Int) := by
                              unfold wrap64
                              omega
                            rw [hcn]
                            simp [intOf]
                            omega
    · obtain rfl : cnt = 0 := by omega
      have hd1 : decide (0 < 0) = false := by simp
      have hd2 : decide (((0 : Nat) : Int) > 0) = false := by simp
      clear hlt
      go_wp2_with (fail)
      go_ret2
      exact ⟨_, _, xs, vals, sum, whole, rfl, ⟨by have := HA.out.many; have := HC.out; omega, by have := HA.out.many; have := HC.out; omega⟩, HA.out.so, by have := HA.out.lost; omega, HA.out.r10, HA.out.r11, HA.out.urn, HA.out.turn⟩
end Go.Proofs.YtgfikondoehblaaDoor.Pr
end
section
namespace Go.Proofs.YtgfikondoehblaaDoor.Pr
open Go.RowKit Go.Shelf Go.Proofs.YtgfikondoehblaaDoorW.PrintWords Go.Proofs.YtgfikondoehblaaDoorW.PrintLast Go.Proofs.YtgfikondoehblaaDoorW.PrintMore Go.Proofs.SumKeep
def accA : List S38 := [⟨1, ⟨#[88, 63]⟩⟩, ⟨1, ⟨#[86, 63, 63]⟩⟩, ⟨2, ⟨#[88, 88, 63, 73]⟩⟩]
def accB : List S38 := [⟨1, ⟨#[63]⟩⟩, ⟨1, ⟨#[73]⟩⟩, ⟨2, ⟨#[63, 73]⟩⟩]
def accC : List S38 := [⟨1, ⟨#[88]⟩⟩, ⟨1, ⟨#[86]⟩⟩, ⟨2, ⟨#[88, 88]⟩⟩]
set_option maxRecDepth 100000 in
theorem checkA0 : checkL accA = 0 ∧ checkL accB = 0 ∧ checkL accC = 0 := by decide +kernel
set_option maxRecDepth 100000 in
theorem readsA : readsL accA = [[15, 7, 22]] := by decide +kernel
set_option maxRecDepth 100000 in
theorem choA : choL accA = ([[15], [7], [22]], 0) := by
  unfold choL
  rw [if_pos checkA0.1, readsA]
  decide +kernel
set_option maxRecDepth 100000 in
theorem printA : printL accA = ([⟨#[88, 118]⟩, ⟨#[86, 105, 105]⟩, ⟨#[88, 88, 105, 73]⟩], 0) := by
  unfold printL
  rw [choA]
  decide +kernel
set_option maxRecDepth 100000 in
theorem countB : countL accB = (7, 0) := by decide +kernel
set_option maxRecDepth 100000 in
theorem struckC : struckL accC = ([2], 0) := by decide +kernel
theorem lits3 (w : World) (a b c : Int) : (Kd.slice 3 (Kd.int .i64)).C ((((w.alloc (.cells #[.int .i64 a] 3)).alloc (.cells #[.int .i64 b] 3)).alloc (.cells #[.int .i64 c] 3)).alloc (.cells #[.slice (some ⟨w.heap.size, 0, none⟩) 1 1, .slice (some ⟨w.heap.size + 1, 0, none⟩) 1 1, .slice (some ⟨w.heap.size + 1 + 1, 0, none⟩) 1 1] 22)) (some ⟨w.heap.size + 1 + 1 + 1, 0, none⟩) 3 [[a], [b], [c]] := by
  obtain ⟨W, hW⟩ : ∃ W, W = (((w.alloc (.cells #[.int .i64 a] 3)).alloc (.cells #[.int .i64 b] 3)).alloc (.cells #[.int .i64 c] 3)).alloc (.cells #[.slice (some ⟨w.heap.size, 0, none⟩) 1 1, .slice (some ⟨w.heap.size + 1, 0, none⟩) 1 1, .slice (some ⟨w.heap.size + 1 + 1, 0, none⟩) 1 1] 22) := ⟨_, rfl⟩
  have h0 : W.heap[w.heap.size]? = some (.cells #[.int .i64 a] 3 (0, 0)) := by rw [hW]; exact blk_alloc (blk_alloc (blk_alloc (heap_alloc_new w _) _) _) _
  have h1 : W.heap[w.heap.size + 1]? = some (.cells #[.int .i64 b] 3 (0, 0)) := by
    rw [hW]
    have := heap_alloc_new (w.alloc (.cells #[.int .i64 a] 3)) (.cells #[.int .i64 b] 3)
    rw [World.size_alloc] at this
    exact blk_alloc (blk_alloc this _) _
  have h2 : W.heap[w.heap.size + 1 + 1]? = some (.cells #[.int .i64 c] 3 (0, 0)) := by
    rw [hW]
    have := heap_alloc_new ((w.alloc (.cells #[.int .i64 a] 3)).alloc (.cells #[.int .i64 b] 3)) (.cells #[.int .i64 c] 3)
    rw [World.size_alloc, World.size_alloc] at this
    exact blk_alloc this _
  have h3 : W.heap[w.heap.size + 1 + 1 + 1]? = some (.cells #[.slice (some ⟨w.heap.size, 0, none⟩) 1 1, .slice (some ⟨w.heap.size + 1, 0, none⟩) 1 1, .slice (some ⟨w.heap.size + 1 + 1, 0, none⟩) 1 1] 22 (0, 0)) := by
    rw [hW]
    have := heap_alloc_new (((w.alloc (.cells #[.int .i64 a] 3)).alloc (.cells #[.int .i64 b] 3)).alloc (.cells #[.int .i64 c] 3)) (.cells #[.slice (some ⟨w.heap.size, 0, none⟩) 1 1, .slice (some ⟨w.heap.size + 1, 0, none⟩) 1 1, .slice (some ⟨w.heap.size + 1 + 1, 0, none⟩) 1 1] 22)
    rwa [World.size_alloc, World.size_alloc, World.size_alloc] at this
  rw [← hW]
  refine ⟨rfl, by simp, fun _ => ⟨_, rfl, fun j p hp => ?_⟩⟩
  have hc : ∀ (x : Int) (g : Nat), W.heap[g]? = some (.cells #[.int .i64 x] 3 (0, 0)) → (Kd.int .i64).C W (some ⟨g, 0, none⟩) 1 [x] := fun x g h => C_lit [x] W g 3 h (by simp)
  rcases j with _ | _ | _ | j
  · obtain rfl : [a] = p := by simpa using hp
    refine ⟨[.slice (some ⟨w.heap.size, 0, none⟩) 1 1], rfl, ⟨_, 1, rfl, by simp, hc a _ h0⟩, fun i u hu => ?_⟩
    rcases i with _ | i
    · rw [← hu]; exact (blk_cell h3 0).trans rfl
    · simp at hu
  · obtain rfl : [b] = p := by simpa using hp
    refine ⟨[.slice (some ⟨w.heap.size + 1, 0, none⟩) 1 1], rfl, ⟨_, 1, rfl, by simp, hc b _ h1⟩, fun i u hu => ?_⟩
    rcases i with _ | i
    · rw [← hu]; exact (blk_cell h3 1).trans rfl
    · simp at hu
  · obtain rfl : [c] = p := by simpa using hp
    refine ⟨[.slice (some ⟨w.heap.size + 1 + 1, 0, none⟩) 1 1], rfl, ⟨_, 1, rfl, by simp, hc c _ h2⟩, fun i u hu => ?_⟩
    rcases i with _ | i
    · rw [← hu]; exact (blk_cell h3 2).trans rfl
    · simp at hu
  · simp at hp
theorem acc_small : (∀ i : Nat, i < accA.length → (rd_T38 accA (i : Int)).f1.size ≤ 9223372036854775807) ∧ (∀ i : Nat, i < accB.length → (rd_T38 accB (i : Int)).f1.size ≤ 9223372036854775807) ∧ (∀ i : Nat, i < accC.length → (rd_T38 accC (i : Int)).f1.size ≤ 9223372036854775807) := by
  refine ⟨fun i hi => ?_, fun i hi => ?_, fun i hi => ?_⟩
  all_goals
    have hi' : i < 3 := hi
    rcases i with _ | _ | _ | i
    all_goals first | (exfalso; omega) | decide
set_option maxRecDepth 100000 in
set_option maxHeartbeats 8000000 in
theorem alert_calls (w : World) (hS : SignsAt w) : Calls Tryd.prog 21 #[] w fun e w' => e = .returned (.bool true) ∧ Below w.heap.size w w' := by
  have HS := Aside0.mk hS
  clear hS
  have HF := fun W => cippuslaw03_first.calls accA W rfl
  have HG := fun W => cippuslaw03_second.calls accB W rfl
  have HH := fun W => cippuslaw03_third.calls ⟨#[88, 88]⟩ accC W rfl
  go_enter Tryd.func21, Tryd.ntmps21
  go_upto_region 2 with (first | (go_at_call 43; refine (HF w).mono ?_; rintro e w1 ⟨v, rfl, hr, hb⟩; obtain ⟨A1, c1, hv, _, hC⟩ := Kd.R_reads hr; subst hv; have HB1 := Aside0.mk hb; have HC1 := Aside0.mk (choices_calls A1 c1 accA w1 hC acc_small.1 (HS.out.new hb)); clear hr hb hC) | (go_at_call 15; refine HC1.out.mono ?_; rintro e w2 ⟨v, rfl, hr, hb⟩; rw [choA] at hr; rw [choA]; obtain ⟨A2, c2, hv⟩ := Kd.S_slice hr; subst hv; have HB2 := Aside0.mk (below_then HB1.out HB1.out.size hb); have HR2 := Aside0.mk (Kd.S_reads' hr).2.2; clear hr hb))
  go_upto_region 3 with (first | (go_at_call 43; refine (HF w2).mono ?_; rintro e w3 ⟨v, rfl, hr, hb⟩; obtain ⟨A3, c3, hv, _, hC⟩ := Kd.R_reads hr; subst hv; have R23 := Aside0.mk (Kd.C_below HR2.out hb); have HB3 := Aside0.mk (below_then HB2.out HB2.out.size hb); have HC3 := Aside0.mk (print_calls A3 c3 accA w3 hC acc_small.1 (HS.out.new (below_then HB2.out HB2.out.size hb))); clear hr hb hC) | (go_at_call 14; refine HC3.out.mono ?_; rintro e w4 ⟨v, rfl, hr, hb⟩; rw [printA] at hr; rw [printA]; obtain ⟨A4, c4, hv, _, hC⟩ := Kd.R_reads hr; subst hv; have HB4 := Aside0.mk (below_then HB3.out HB3.out.size hb); have HR4 := Aside0.mk hC; have R24 := Aside0.mk (Kd.C_below R23.out hb); clear hr hb hC))
  go_upto_region 4 with (first | (go_at_call 44; refine (HG w4).mono ?_; rintro e w5 ⟨v, rfl, hr, hb⟩; obtain ⟨A5, c5, hv, _, hC⟩ := Kd.R_reads hr; subst hv; have R25 := Aside0.mk (Kd.C_below R24.out hb); have R45 := Aside0.mk (Kd.C_below HR4.out hb); have HB5 := Aside0.mk (below_then HB4.out HB4.out.size hb); have HC5 := Aside0.mk (count_calls A5 c5 accB w5 hC acc_small.2.1 (HS.out.new (below_then HB4.out HB4.out.size hb))); clear hr hb hC) | (go_at_call 16; refine HC5.out.mono ?_; rintro e w6 ⟨rfl, hb⟩; rw [countB]; have R26 := Aside0.mk (Kd.C_below R25.out hb); have R46 := Aside0.mk (Kd.C_below R45.out hb); have HB6 := Aside0.mk (below_then HB5.out HB5.out.size hb); clear hb))
  go_upto_region 5 with (first | (go_at_call 45; refine (HH w6).mono ?_; rintro e w7 ⟨v, rfl, hr, hb⟩; obtain ⟨A7, c7, hv, _, hC⟩ := Kd.R_reads hr; subst hv; have R27 := Aside0.mk (Kd.C_below R26.out hb); have R47 := Aside0.mk (Kd.C_below R46.out hb); have HB7 := Aside0.mk (below_then HB6.out HB6.out.size hb); have HC7 := Aside0.mk (struck_calls A7 c7 accC w7 hC acc_small.2.2 (HS.out.new (below_then HB6.out HB6.out.size hb))); clear hr hb hC) | (go_at_call 27; refine HC7.out.mono ?_; rintro e w8 ⟨v, rfl, hr, hb⟩; rw [struckC] at hr; rw [struckC]; obtain ⟨A8, c8, hv, _, hC⟩ := Kd.R_reads hr; subst hv; have HB8 := Aside0.mk (below_then HB7.out HB7.out.size hb); have HR8 := Aside0.mk hC; have R28 := Aside0.mk (Kd.C_below R27.out hb); have R48 := Aside0.mk (Kd.C_below R47.out hb); clear hr hb hC))
  go_wp2_with (first | (go_at_call 19; refine (sameGrids_calls [[15], [7], [22]] [[15], [7], [22]] A2 (some ⟨w8.heap.size + 1 + 1 + 1, 0, none⟩) c2 3 _ (Kd.C_below R28.out (below_alloc (below_alloc (below_alloc (below_alloc (Below.refl _ _) _) _) _) _)) (lits3 w8 15 7 22)).mono ?_; rintro e w9 ⟨rfl, hb⟩; have HB89 := Aside0.mk (below_then (below_alloc (below_alloc (below_alloc (below_alloc (Below.refl w8.heap.size w8) _) _) _) _) (by simp; omega) hb); clear hb; rw [decide_eq_true rfl]) | (go_at_call 46; refine (sameTexts_calls [⟨#[88, 118]⟩, ⟨#[86, 105, 105]⟩, ⟨#[88, 88, 105, 73]⟩] [⟨#[88, 118]⟩, ⟨#[86, 105, 105]⟩, ⟨#[88, 88, 105, 73]⟩] A4 (some ⟨w9.heap.size, 0, none⟩) c4 3 _ (Kd.C_below R48.out (below_alloc HB89.out _)) (C_lit _ _ w9.heap.size 9 (heap_alloc_new w9 _) (by simp))).mono ?_; rintro e w10 ⟨rfl, hb⟩; have HB810 := Aside0.mk (below_then (below_alloc HB89.out _) (by have := HB89.out.size; simp; omega) hb); clear hb; rw [decide_eq_true rfl]) | (go_at_call 22; refine (sameInts_calls [2] [2] A8 (some ⟨w10.heap.size, 0, none⟩) c8 1 _ (Kd.C_below HR8.out (below_alloc HB810.out _)) (C_lit _ _ w10.heap.size 3 (heap_alloc_new w10 _) (by simp))).mono ?_; rintro e w11 ⟨rfl, hb⟩; have HB811 := Aside0.mk (below_then (below_alloc HB810.out _) (by have := HB810.out.size; simp; omega) hb); clear hb; rw [decide_eq_true rfl]))
  go_ret
  exact ⟨rfl, below_then HB8.out HB8.out.size HB811.out⟩
end Go.Proofs.YtgfikondoehblaaDoor.Pr
end
section
namespace Go.Proofs.YtgfikondoehblaaDoor.Pr
open Go.RowKit Go.Shelf Go.Proofs.YtgfikondoehblaaDoorW.PrintWords Go.Proofs.YtgfikondoehblaaDoorW.PrintLast Go.Proofs.YtgfikondoehblaaDoorW.PrintMore Go.Proofs.SumKeep
open SumPlain (Ent AccSo lostSum)
def EntsAt (W : World) (b : Nat) (l : List S38) : Prop := ∃ cells : Array Value, W.heap[b]? = some (.cells cells 38 (0, 0)) ∧ l.length ≤ 9223372036854775807 ∧ ∀ i x, l[i]? = some x → cells[i * 2]? = some (.int .i64 x.f0) ∧ cells[i * 2 + 1]? = some (.string x.f1)
section
variable {W W' : World} {b : Nat} {l : List S38}
theorem EntsAt.lt (h : EntsAt W b l) : b < W.heap.size := by
  obtain ⟨c, h1, _⟩ := h
  exact blk_lt h1
theorem EntsAt.keep (h : EntsAt W b l) (hk : W'.heap[b]? = W.heap[b]?) : EntsAt W' b l := by
  obtain ⟨c, h1, h2⟩ := h
  exact ⟨c, hk.trans h1, h2⟩
theorem EntsAt.below (h : EntsAt W b l) (hb : Below W.heap.size W W') : EntsAt W' b l := h.keep (hb.block b h.lt)
theorem EntsAt.turn {g : Nat} (h : EntsAt W b l) (ht : UrnT g W W') (hne : b ≠ g) : EntsAt W' b l := h.keep (ht.block b h.lt hne)
theorem EntsAt.c0 (h : EntsAt W b l) {i : Nat} {x : S38} (hi : l[i]? = some x) : W.cell? ⟨b, i * 2, none⟩ = some (.int .i64 x.f0) := by
  obtain ⟨c, h1, _, h2⟩ := h
  rw [blk_cell h1]
  exact (h2 i x hi).1
theorem EntsAt.c1 (h : EntsAt W b l) {i : Nat} {x : S38} (hi : l[i]? = some x) : W.cell? ⟨b, i * 2 + 1, none⟩ = some (.string x.f1) := by
  obtain ⟨c, h1, _, h2⟩ := h
  rw [blk_cell h1]
  exact (h2 i x hi).2
theorem EntsAt.frozen (h : EntsAt W b l) (n : Nat) : W.frozen? ⟨b, n, none⟩ = false := by
  obtain ⟨c, h1, _⟩ := h
  exact blk_frozen h1 n
theorem EntsAt.C (h : EntsAt W b l) : Kd.C k38 W (some ⟨b, 0, none⟩) l.length l := by
  obtain ⟨c, h1, hl, h2⟩ := h
  refine ⟨rfl, hl, fun _ => ⟨_, rfl, fun j p hp => ⟨[.int .i64 p.f0, .string p.f1], rfl, k38_mk W p, fun i u hu => ?_⟩⟩⟩
  obtain ⟨g0, g1⟩ := h2 j p hp
  rw [Addr.add_lit, Nat.zero_add, blk_cell h1]
  rcases i with _ | _ | i
  · simp at hu
    subst hu
    exact g0
  · simp at hu
    subst hu
    exact g1
  · simp at hu
theorem EntsAt.set1 (h : EntsAt W b l) {i : Nat} {x : S38} (hi : l[i]? = some x) (s : ByteArray) : EntsAt (W.setCell ⟨b, i * 2 + 1, none⟩ (.string s)) b (l.set i ⟨x.f0, s⟩) := by
  obtain ⟨c, h1, hl, h2⟩ := h
  refine ⟨_, blk_set h1 _ _, by rw [List.length_set]; exact hl, fun j y hj => ?_⟩
  by_cases hij : i = j
  · subst hij
    have hlt : i < l.length := (List.getElem?_eq_some_iff.1 hi).1
    rw [List.getElem?_set_self hlt] at hj
    obtain rfl := Option.some.inj hj
    obtain ⟨g0, g1⟩ := h2 i x hi
    have hs : i * 2 + 1 < c.size := (Array.getElem?_eq_some_iff.1 g1).1
    refine ⟨?_, ?_⟩
    · rw [Array.getElem?_setIfInBounds_ne (by omega)]
      exact g0
    · rw [Array.getElem?_setIfInBounds_self_of_lt hs]
  · rw [List.getElem?_set_ne hij] at hj
    obtain ⟨g0, g1⟩ := h2 j y hj
    rw [Array.getElem?_setIfInBounds_ne (by omega), Array.getElem?_setIfInBounds_ne (by omega)]
    exact ⟨g0, g1⟩
theorem EntsAt.set0 (h : EntsAt W b l) {i : Nat} {x : S38} (hi : l[i]? = some x) (n : Int) : EntsAt (W.setCell ⟨b, i * 2, none⟩ (.int .i64 n)) b (l.set i ⟨n, x.f1⟩) := by
  obtain ⟨c, h1, hl, h2⟩ := h
  refine ⟨_, blk_set h1 _ _, by rw [List.length_set]; exact hl, fun j y hj => ?_⟩
  by_cases hij : i = j
  · subst hij
    have hlt : i < l.length := (List.getElem?_eq_some_iff.1 hi).1
    rw [List.getElem?_set_self hlt] at hj
    obtain rfl := Option.some.inj hj
    obtain ⟨g0, g1⟩ := h2 i x hi
    have hs : i * 2 < c.size := (Array.getElem?_eq_some_iff.1 g0).1
    refine ⟨?_, ?_⟩
    · rw [Array.getElem?_setIfInBounds_self_of_lt hs]
    · rw [Array.getElem?_setIfInBounds_ne (by omega)]
      exact g1
  · rw [List.getElem?_set_ne hij] at hj
    obtain ⟨g0, g1⟩ := h2 j y hj
    rw [Array.getElem?_setIfInBounds_ne (by omega), Array.getElem?_setIfInBounds_ne (by omega)]
    exact ⟨g0, g1⟩
theorem EntsAt.set (h : EntsAt W b l) {i : Nat} (hi : i < l.length) (y : S38) : EntsAt ((W.setCell ⟨b, i * 2, none⟩ (.int .i64 y.f0)).setCell ⟨b, i * 2 + 1, none⟩ (.string y.f1)) b (l.set i y) := by
  have h1 := h.set0 (List.getElem?_eq_getElem hi) y.f0
  have h2 := h1.set1 (List.getElem?_set_self hi) y.f1
  rw [List.set_set] at h2
  exact h2
theorem ents_of_R {base : Nat} {ok : Nat → Prop} {v : Value} (h : Kd.R k38 38 W base ok v l) (hp : 1 ≤ l.length) : ∃ b cap, v = .slice (some ⟨b, 0, none⟩) l.length cap ∧ base ≤ b ∧ l.length ≤ cap ∧ EntsAt W b l := by
  obtain ⟨g, cap, hv, hb, hl, cells, hc⟩ := Kd.R_form h hp
  subst hv
  obtain ⟨_, hcap, hC⟩ := Kd.R_reads' h
  refine ⟨g, cap, rfl, hb, hcap, cells, hc, Kd.C_max hC, fun i x hi => ?_⟩
  have hlt : i < l.length := (List.getElem?_eq_some_iff.1 hi).1
  obtain ⟨ad, he, h0, h1⟩ := at_T38 hC i (by omega) (by omega)
  obtain rfl := Option.some.inj he
  have hrd : rd_T38 l (i : Int) = x := by
    unfold rd_T38
    rw [Int.toNat_natCast, List.getD_eq_getElem?_getD, hi]
    rfl
  rw [Int.toNat_natCast, Addr.add_lit, Nat.zero_add, hrd] at h0 h1
  rw [blk_cell hc] at h0
  have h1' : W.cell? ⟨g, i * 2 + 1, none⟩ = some (.string x.f1) := h1
  rw [blk_cell hc] at h1'
  exact ⟨h0, h1'⟩
theorem rd_get {i : Nat} (h : i < l.length) : l[i]? = some (rd_T38 l (i : Int)) := by
  unfold rd_T38
  rw [Int.toNat_natCast, List.getD_eq_getElem?_getD, List.getElem?_eq_getElem h]
  rfl
theorem check_sizes (h : checkL l = 0) : ∀ i : Nat, i < l.length → (rd_T38 l (i : Int)).f1.size ≤ 9223372036854775807 := fun i hi => by
  obtain ⟨_, _, h3, _⟩ := SumPlain.checkA_zero.1 h
  have hm : toEnt (rd_T38 l (i : Int)) ∈ l.map toEnt := List.mem_map_of_mem (List.mem_of_getElem? (rd_get hi))
  have h4 := h3 _ hm
  unfold SumPlain.entryErr at h4
  by_cases c1 : (toEnt (rd_T38 l (i : Int))).kind < 1 ∨ (toEnt (rd_T38 l (i : Int))).kind > 3
  · rw [if_pos c1] at h4; cases h4
  rw [if_neg c1] at h4
  by_cases c2 : (toEnt (rd_T38 l (i : Int))).signs.length = 0 ∨ (toEnt (rd_T38 l (i : Int))).signs.length > 19
  · rw [if_pos c2] at h4; cases h4
  have e : (toEnt (rd_T38 l (i : Int))).signs.length = (rd_T38 l (i : Int)).f1.size := intsOf_length _
  omega
theorem made_check {vals : List Int} {sum whole : Int} (h : AccSo (l.map toEnt) vals sum whole) (h1 : 1 ≤ l.length) (h8 : l.length ≤ 8) (hl : lostSum (l.map toEnt) ≤ 5) : checkL l = 0 := h.check (by rw [List.length_map]; exact h1) (by rw [List.length_map]; exact h8) hl
theorem choL_ok (h0 : checkL l = 0) (hr : readsL l ≠ []) : choL l = ((List.range l.length).map (SumPlain.columnP (readsL l)), 0) := by
  unfold choL
  rw [if_pos h0, if_neg hr]
end
end Go.Proofs.YtgfikondoehblaaDoor.Pr
end
section
namespace Go.Proofs.YtgfikondoehblaaDoor.Pr
open Go.RowKit Go.Shelf Go.Proofs.YtgfikondoehblaaDoorW.PrintWords Go.Proofs.YtgfikondoehblaaDoorW.PrintLast Go.Proofs.YtgfikondoehblaaDoorW.PrintMore Go.Proofs.SumKeep
open SumPlain (Ent numeralP rightGo fitsP lexLtB stepS stepW)
set_option maxRecDepth 100000 in
set_option maxHeartbeats 4000000 in
theorem fitsR_calls (s p : ByteArray) (hs : s.size ≤ 9223372036854775807) (hp : p.size ≤ 9223372036854775807) (w : World) : Calls Tryd.prog 62 #[.string s, .string p] w fun e w' => e = .returned (.bool (fitsP (intsOf s) (intsOf p))) ∧ Below w.heap.size w w' := by
  have HS := Aside0.mk hs
  have HP := Aside0.mk hp
  clear hs hp
  go_enter Tryd.func62, Tryd.ntmps62
  by_cases hl : s.size = p.size
  · have hd : ((s.size : Int) != (p.size : Int)) = false := by simp [hl]
    have hd2 : (s.size != p.size) = false := by simp [hl]
    have HL := Aside0.mk hl
    clear hl
    go_wp2
    clear hd hd2
    go_loopw [5, 11, 12, 13, 14, 15, 16, 17, 18, 19, 20, 21, 22, 23, 24, 25, 26, 27, 28, 29] (fun kv _ _ _ _ _ _ _ _ _ _ _ _ _ _ _ _ _ _ _ wr => ∃ k : Nat, k ≤ p.size ∧ kv = .int .i64 (k : Int) ∧ Aside0 (Below w.heap.size w wr) ∧ Aside0 (fitsP (intsOf s) (intsOf p) = fitsP ((intsOf s).drop k) ((intsOf p).drop k)))
      (fun kv _ _ _ _ _ _ _ _ _ _ _ _ _ _ _ _ _ _ _ _ => p.size - (intOf kv).toNat)
    case atStart => exact ⟨0, Nat.zero_le _, rfl, ⟨Below.refl _ _⟩, ⟨rfl⟩⟩
    case round =>
      obtain ⟨k, hk, rfl, HB, HF⟩ := hrel
      by_cases hlt : k < p.size
      · have hd : decide ((k : Int) < (p.size : Int)) = true := by simp; omega
        have hd2 : decide (k < p.size) = true := by simp; omega
        have hks : k < s.size := by have := HL.out; omega
        have hi := index_str p k hlt
        have hj := index_str s k hks
        obtain ⟨b, hb⟩ : ∃ b, b = p[k].toNat := ⟨_, rfl⟩
        obtain ⟨a, ha⟩ : ∃ a, a = s[k].toNat := ⟨_, rfl⟩
        rw [← hb] at hi
        rw [← ha] at hj
        have hcs : (intsOf s).drop k = (a : Int) :: (intsOf s).drop (k + 1) := by
          rw [List.drop_eq_getElem_cons (by rw [intsOf_length]; exact hks), ha]
          simp only [intsOf, List.getElem_map]
          rfl
        have hcp : (intsOf p).drop k = (b : Int) :: (intsOf p).drop (k + 1) := by
          rw [List.drop_eq_getElem_cons (by rw [intsOf_length]; exact hlt), hb]
          simp only [intsOf, List.getElem_map]
          rfl
        have HC := Aside0.mk (And.intro hcs hcp)
        have HK := Aside0.mk hlt
        clear ha hb hcs hcp hlt hks hk
        by_cases hb63 : b = 63
        · have hq : ((b : Int) != 63) = false := by simp; omega
          have HQ := Aside0.mk hb63
          clear hb63
          go_wp2
          go_quiet (fail)
          go_wp2
          go_roundw
          case rel =>
            have e1 : wrap64 ((k : Int) + 1) = ((k + 1 : Nat) : Int) := w_up HK.out HP.out
            refine ⟨k + 1, HK.out, by rw [e1], ⟨drewN_below HB.out⟩, ⟨?_⟩⟩
            rw [HF.out, HC.out.1, HC.out.2, fitsP, HQ.out]
            simp
          case measure => exact meas_up HK.out HP.out
        · have hq : ((b : Int) != 63) = true := by simp; omega
          have HQ := Aside0.mk hb63
          clear hb63
          by_cases hab : b = a
          · have hr : ((b : Int) != (a : Int)) = false := by simp [hab]
            have hr2 : (b != a) = false := by simp [hab]
            have HR := Aside0.mk hab
            clear hab
            go_wp2
            go_quiet (fail)
            go_wp2
            go_roundw
            case rel =>
              have e1 : wrap64 ((k : Int) + 1) = ((k + 1 : Nat) : Int) := w_up HK.out HP.out
              refine ⟨k + 1, HK.out, by rw [e1], ⟨drewN_below HB.out⟩, ⟨?_⟩⟩
              rw [HF.out, HC.out.1, HC.out.2, fitsP, HR.out]
              simp
            case measure => exact meas_up HK.out HP.out
          · have hr : ((b : Int) != (a : Int)) = true := by simp; omega
            have hr2 : (b != a) = true := by simp; omega
            have HR := Aside0.mk hab
            clear hab
            go_wp2
            go_quiet (fail)
            go_wp2
            go_ret
            have e1 : (((b : Int) == 63) || ((b : Int) == (a : Int))) = false := by
              have := HQ.out
              have := HR.out
              simp
              omega
            rw [HF.out, HC.out.1, HC.out.2, fitsP, e1, Bool.false_and]
            exact ⟨rfl, drewN_below HB.out⟩
      · obtain rfl : k = p.size := by omega
        have hd : decide ((p.size : Int) < (p.size : Int)) = false := by simp
        go_wp2
        go_ret
        rw [HF.out, List.drop_of_length_le (Nat.le_of_eq ((intsOf_length s).trans HL.out)), List.drop_of_length_le (Nat.le_of_eq (intsOf_length p))]
        exact ⟨rfl, HB.out⟩
  · have hd : ((s.size : Int) != (p.size : Int)) = true := by simp; omega
    go_wp2
    go_ret
    have : fitsP (intsOf s) (intsOf p) = false := by
      rw [Bool.eq_false_iff]
      intro h
      have := ((SumPlain.fits_iff _ _).1 h).1
      rw [intsOf_length, intsOf_length] at this
      exact hl this
    rw [this]
    exact ⟨rfl, Below.refl _ _⟩
set_option maxRecDepth 100000 in
theorem in_calls (A : Option Addr) (c : Nat) (l : List Int) (n : Int) (w : World) (hr : Kd.C (Kd.int .i64) w A l.length l) (hn : n ∈ l) : Calls Tryd.prog 20 #[.slice A l.length c, .int .i64 n] w fun e w' => e = .returned (.bool true) ∧ Below w.heap.size w w' := by
  have HR := Aside0.mk hr
  have HMX := Aside0.mk (Kd.C_max hr)
  have HN := Aside0.mk hn
  clear hr hn
  go_enter Tryd.func20, Tryd.ntmps20
  go_wp2
  go_loopw [5, 6, 7, 8, 9, 10, 11, 12, 13, 14, 15, 16, 17] (fun kv _ _ _ _ _ _ _ _ _ _ _ _ wr => ∃ k : Nat, k ≤ l.length ∧ kv = .int .i64 (k : Int) ∧ wr = w ∧ Aside0 (n ∈ l.drop k)) (fun kv _ _ _ _ _ _ _ _ _ _ _ _ _ => l.length - (intOf kv).toNat)
  case atStart => exact ⟨0, Nat.zero_le _, rfl, rfl, HN⟩
  case round =>
    obtain ⟨k, hk, rfl, rfl, HD⟩ := hrel
    by_cases hlt : k < l.length
    · have hd : decide ((k : Int) < (l.length : Int)) = true := by simp; omega
      have hd2 : decide (k < l.length) = true := by simp; omega
      have hk0 : (0 : Int) ≤ (k : Int) := by omega
      have hk1 : (k : Int) < (l.length : Int) := by omega
      have HLT := Aside0.mk hlt
      obtain ⟨ad, rfl, hx⟩ := Kd.at_int HR.out k (by omega) (by omega)
      rw [Int.toNat_natCast] at hx
      obtain ⟨x, hxx⟩ : ∃ x, x = rd l (k : Int) := ⟨_, rfl⟩
      rw [← hxx] at hx
      have HX := Aside0.mk (show l.drop k = x :: l.drop (k + 1) by
        rw [List.drop_eq_getElem_cons hlt, hxx]
        simp [rd, List.getD_eq_getElem?_getD, List.getElem?_eq_getElem hlt])
      clear hxx hlt hk
      by_cases he : x = n
      · have c1 : (x == n) = true := by simpa using he
        clear he
        go_wp2
        go_ret
        exact ⟨rfl, Below.refl _ _⟩
      · have c1 : (x == n) = false := by simpa using he
        have HE := Aside0.mk he
        clear he
        go_wp2
        go_roundw
        case rel =>
          refine ⟨k + 1, HLT.out, by rw [w_up HLT.out HMX.out], by first | rfl | trivial, ⟨?_⟩⟩
          have h := HD.out
          rw [HX.out] at h
          rcases List.mem_cons.1 h with h | h
          · exact absurd h.symm HE.out
          · exact h
        case measure => exact meas_up HLT.out HMX.out
    · exfalso
      obtain rfl : k = l.length := by omega
      have h := HD.out
      rw [List.drop_length] at h
      cases h
set_option maxRecDepth 100000 in
theorem before_calls (A B : Option Addr) (c c' : Nat) (a b : List Int) (hl : a.length = b.length) (w : World) (ha : Kd.C (Kd.int .i64) w A a.length a) (hb : Kd.C (Kd.int .i64) w B b.length b) :
    Calls Tryd.prog 32 #[.slice A a.length c, .slice B b.length c'] w fun e w' => e = .returned (.bool (lexLtB a b)) ∧ Below w.heap.size w w' := by
  have HA := Aside0.mk ha
  have HBB := Aside0.mk hb
  have HMX := Aside0.mk (Kd.C_max ha)
  rw [← hl]
  have HL := Aside0.mk hl
  clear ha hb hl
  go_enter Tryd.func32, Tryd.ntmps32
  go_wp2
  go_loopw [4, 5, 6, 7, 8, 9, 10, 11, 12, 13, 14, 15, 16, 17, 18, 19, 20, 21, 22, 23, 24, 25, 26, 27, 28, 29, 30, 31, 32, 33, 34, 35] (fun _ kv _ _ _ _ _ _ _ _ _ _ _ _ _ _ _ _ _ _ _ _ _ _ _ _ _ _ _ _ _ _ wr => ∃ k : Nat, k ≤ a.length ∧ kv = .int .i64 (k : Int) ∧ Aside0 (Below w.heap.size w wr) ∧ Aside0 (lexLtB a b = lexLtB (a.drop k) (b.drop k))) (fun _ kv _ _ _ _ _ _ _ _ _ _ _ _ _ _ _ _ _ _ _ _ _ _ _ _ _ _ _ _ _ _ _ => a.length - (intOf kv).toNat)
  case atStart => exact ⟨0, Nat.zero_le _, rfl, ⟨Below.refl _ _⟩, ⟨rfl⟩⟩
  case round =>
    obtain ⟨k, hk, rfl, HB, HD⟩ := hrel
    by_cases hlt : k < a.length
    · have hd : decide ((k : Int) < (a.length : Int)) = true := by simp; omega
      have hd2 : decide (k < a.length) = true := by simp; omega
      have hk0 : (0 : Int) ≤ (k : Int) := by omega
      have hk1 : (k : Int) < (a.length : Int) := by omega
      have hltb : k < b.length := by have := HL.out; omega
      have HLT := Aside0.mk hlt
      obtain ⟨ad, rfl, hx⟩ := Kd.at_int HA.out k (by omega) (by omega)
      obtain ⟨bd, rfl, hy⟩ := Kd.at_int HBB.out k (by omega) (by omega)
      rw [Int.toNat_natCast] at hx hy
      obtain ⟨x, hxx⟩ : ∃ x, x = rd a (k : Int) := ⟨_, rfl⟩
      obtain ⟨y, hyy⟩ : ∃ y, y = rd b (k : Int) := ⟨_, rfl⟩
      rw [← hxx] at hx
      rw [← hyy] at hy
      have HX := Aside0.mk (show a.drop k = x :: a.drop (k + 1) by
        rw [List.drop_eq_getElem_cons hlt, hxx]
        simp [rd, List.getD_eq_getElem?_getD, List.getElem?_eq_getElem hlt])
      have HY := Aside0.mk (show b.drop k = y :: b.drop (k + 1) by
        rw [List.drop_eq_getElem_cons hltb, hyy]
        simp [rd, List.getD_eq_getElem?_getD, List.getElem?_eq_getElem hltb])
      replace hx := (HB.out.cell (World.block_lt_of_cell? w _ hx)).trans hx
      replace hy := (HB.out.cell (World.block_lt_of_cell? w _ hy)).trans hy
      clear hxx hyy hlt hltb hk
      by_cases he : x = y
      · have c1 : (x != y) = false := by simpa using he
        have HE := Aside0.mk he
        clear he
        go_upto_region 4 with (fail)
        go_quiet (fail)
        go_wp2
        go_roundw
        case rel =>
          refine ⟨k + 1, HLT.out, by rw [w_up HLT.out HMX.out], ⟨drewN_below HB.out⟩, ⟨?_⟩⟩
          rw [HD.out, HX.out, HY.out, lexLtB, HE.out]
          simp
        case measure => exact meas_up HLT.out HMX.out
      · have c1 : (x != y) = true := by simpa using he
        have HE := Aside0.mk he
        clear he
        go_upto_region 4 with (fail)
        go_quiet (fail)
        go_upto_region 5 with (fail)
        go_quiet (fail)
        go_wp2
        go_ret
        rw [HD.out, HX.out, HY.out, lexLtB]
        have := HE.out
        exact ⟨by simp [this], drewN_below (drewN_below HB.out)⟩
    · obtain rfl : k = a.length := by omega
      have hd : decide ((a.length : Int) < (a.length : Int)) = false := by simp
      have hd2 : decide (a.length < a.length) = false := by simp
      clear hk hlt
      go_wp2
      go_ret
      rw [HD.out, List.drop_length, List.drop_of_length_le (Nat.le_of_eq HL.out.symm)]
      exact ⟨rfl, HB.out⟩
theorem rightGo_step (e : Ent) (es : List Ent) (n : Int) (r : List Int) (s t : Int) (hn : 1 ≤ n ∧ n ≤ 4999) : rightGo (e :: es) (n :: r) s t = (fitsP (numeralP n.toNat) e.signs && (if e.kind = 1 then rightGo es r (s + n) (t + n) else if e.kind = 2 then (if n = s then rightGo es r 0 t else false) else (if n = t then rightGo es r s t else false))) := by
  rw [rightGo]
  cases hf : fitsP (numeralP n.toNat) e.signs with
  | true => rw [if_pos ⟨hn.1, hn.2, rfl⟩, Bool.true_and]
  | false => rw [if_neg (by rintro ⟨_, _, h⟩; cases h), Bool.false_and]
set_option maxRecDepth 100000 in
set_option maxHeartbeats 4000000 in
theorem right_calls (A A' : Option Addr) (c c' : Nat) (l : List S38) (r : List Int) (hl : l.length ≤ 8) (hlr : r.length = l.length) (hv : ∀ v ∈ r, 1 ≤ v ∧ v ≤ 4999) (hs : ∀ i : Nat, i < l.length → (rd_T38 l (i : Int)).f1.size ≤ 9223372036854775807) (w : World) (hS : SignsAt w)
    (hC : Kd.C k38 w A l.length l) (hR : Kd.C (Kd.int .i64) w A' r.length r) :
    Calls Tryd.prog 31 #[.slice A l.length c, .slice A' r.length c'] w fun e w' => e = .returned (.bool (rightGo (l.map toEnt) r 0 0)) ∧ Below w.heap.size w w' := by
  have HC := Aside0.mk hC
  have HR := Aside0.mk hR
  have HS := Aside0.mk hS
  have HSZ := Aside0.mk hs
  have HV := Aside0.mk hv
  have HL8 := Aside0.mk hl
  have HLR := Aside0.mk hlr
  rw [hlr]
  clear hC hR hS hs hv hl hlr
  go_enter Tryd.func31, Tryd.ntmps31
  go_wp2
  go_loopw [4, 5, 6, 7, 8, 9, 15, 16, 17, 18, 19, 20, 21, 22, 23, 24, 25, 26, 27, 28, 29, 30, 31, 32, 33, 34, 35, 36, 37, 38, 39, 40, 41, 42, 43, 44, 45, 46, 47, 48, 49, 50, 51, 52, 53, 54, 55, 56, 57, 58, 59, 60, 61, 62, 63, 64, 65, 66, 67, 68, 69, 70, 71, 72, 73] (fun _ v5 v6 kv _ _ _ _ _ _ _ _ _ _ _ _ _ _ _ _ _ _ _ _ _ _ _ _ _ _ _ _ _ _ _ _ _ _ _ _ _ _ _ _ _ _ _ _ _ _ _ _ _ _ _ _ _ _ _ _ _ _ _ _ _ wr => ∃ (k : Nat) (s t : Int), k ≤ l.length ∧ kv = .int .i64 (k : Int) ∧ v5 = .int .i64 s ∧ v6 = .int .i64 t ∧ Aside0 (0 ≤ s ∧ s ≤ 4999 * (k : Int) ∧ 0 ≤ t ∧ t ≤ 4999 * (k : Int)) ∧ Aside0 (Below w.heap.size w wr) ∧ Aside0 (rightGo (l.map toEnt) r 0 0 = rightGo ((l.map toEnt).drop k) (r.drop k) s t)) (fun _ v5 v6 kv _ _ _ _ _ _ _ _ _ _ _ _ _ _ _ _ _ _ _ _ _ _ _ _ _ _ _ _ _ _ _ _ _ _ _ _ _ _ _ _ _ _ _ _ _ _ _ _ _ _ _ _ _ _ _ _ _ _ _ _ _ _ => l.length - (intOf kv).toNat)
  case atStart => exact ⟨0, 0, 0, Nat.zero_le _, rfl, rfl, rfl, ⟨by omega⟩, ⟨Below.refl _ _⟩, ⟨rfl⟩⟩
  case round =>
    obtain ⟨k, s, t, hk, rfl, rfl, rfl, HB0, HB, HD⟩ := hrel
    by_cases hlt : k < l.length
    · have hd : decide ((k : Int) < (l.length : Int)) = true := by simp; omega
      have hd2 : decide (k < l.length) = true := by simp; omega
      have hk0 : (0 : Int) ≤ (k : Int) := by omega
      have hk1 : (k : Int) < (l.length : Int) := by omega
      have HLT := Aside0.mk hlt
      have hkr : k < r.length := by rw [HLR.out]; exact hlt
      obtain ⟨rd', e1, hx⟩ := Kd.at_int HR.out k (by omega) (by omega)
      subst e1
      obtain ⟨ad, e2, hk0c, hk1c⟩ := at_T38 HC.out k (by omega) (by omega)
      subst e2
      rw [Int.toNat_natCast] at hx hk0c hk1c
      obtain ⟨x, hxx⟩ : ∃ x, x = rd r (k : Int) := ⟨_, rfl⟩
      rw [← hxx] at hx
      obtain ⟨en, hen⟩ : ∃ en, en = rd_T38 l (k : Int) := ⟨_, rfl⟩
      rw [← hen] at hk0c hk1c
      have HSG := Aside0.mk (show en.f1.size ≤ 9223372036854775807 by rw [hen]; exact HSZ.out k hlt)
      have hrx : r.drop k = x :: r.drop (k + 1) := by
        rw [List.drop_eq_getElem_cons hkr, hxx]
        simp [rd, List.getD_eq_getElem?_getD, List.getElem?_eq_getElem hkr]
      have hex : (l.map toEnt).drop k = toEnt en :: (l.map toEnt).drop (k + 1) := by
        rw [List.drop_eq_getElem_cons (by rw [List.length_map]; exact hlt), hen, List.getElem_map]
        congr 2
        have := rd_get hlt
        rw [List.getElem?_eq_getElem hlt] at this
        exact Option.some.inj this
      have hxr : 1 ≤ x ∧ x ≤ 4999 := by
        refine HV.out x ?_
        have : x ∈ r.drop k := by rw [hrx]; exact List.mem_cons_self
        exact List.mem_of_mem_drop this
      obtain ⟨m, rfl⟩ : ∃ m : Nat, x = (m : Int) := ⟨x.toNat, by omega⟩
      have HM := Aside0.mk hxr
      have HD2 := Aside0.mk (show rightGo (l.map toEnt) r 0 0 = (fitsP (numeralP m) (intsOf en.f1) && (if en.f0 = 1 then rightGo ((l.map toEnt).drop (k + 1)) (r.drop (k + 1)) (s + m) (t + m) else if en.f0 = 2 then (if (m : Int) = s then rightGo ((l.map toEnt).drop (k + 1)) (r.drop (k + 1)) 0 t else false) else (if (m : Int) = t then rightGo ((l.map toEnt).drop (k + 1)) (r.drop (k + 1)) s t else false))) by
        rw [HD.out, hrx, hex, rightGo_step _ _ _ _ _ _ hxr, Int.toNat_natCast]
        rfl)
      clear hxx hen hrx hex hxr hkr HD
      obtain ⟨kd, sg⟩ := en
      dsimp only at hk0c hk1c HSG HD2
      replace hx := (HB.out.cell (World.block_lt_of_cell? w _ hx)).trans hx
      have HX0 := Aside0.mk hk0c
      have HX1 := Aside0.mk hk1c
      have HNU := Aside0.mk (numeralL_calls (m : Int) wr (HS.out.new HB.out))
      rw [show numeralL (m : Int) = (strOf (numeralP m), 0) from (if_pos (by have := HM.out; omega)).trans (by rw [Int.toNat_natCast])] at HNU
      have HXR := Aside0.mk (show w.cell? (rd'.add k) = some (.int .i64 (m : Int)) ∨ True from .inr trivial)
      clear hlt hk hk0c hk1c
      obtain ⟨Wi, hWi⟩ : ∃ Wi, Wi = wr := ⟨_, rfl⟩
      have hxi := hx
      go_upto_region 8 with (go_at_call 24; with_reducible refine HNU.out.mono ?_; rintro e w5 ⟨rfl, hb⟩; have hxs := (hb.cell (World.block_lt_of_cell? _ _ hx)).trans hx; have HB5 := Aside0.mk (below_then HB.out HB.out.size hb); clear hb)
      have q1 := (HB5.out.cell (World.block_lt_of_cell? w _ HX1.out)).trans HX1.out
      have HXS := Aside0.mk hxs
      have HF := Aside0.mk (fitsR_calls (strOf (numeralP m)) sg (by rw [strOf_size]; have h2 : (numeralP m).length ≤ 19 := (SumPlain.numeral_len_all ⟨m, by have := HM.out; omega⟩).1; omega) HSG.out w5)
      rw [numeral_ints] at HF
      obtain ⟨fo, hfo⟩ : ∃ fo, fo = fitsP (numeralP m) (intsOf sg) := ⟨_, rfl⟩
      rw [← hfo] at HF
      have HFO := Aside0.mk hfo
      clear hfo hx hxi hWi HNU HXR hd hd2
      cases fo with
      | false =>
        go_wp2_with (go_at_call 62; with_reducible refine HF.out.mono ?_; rintro e w6 ⟨rfl, hb⟩; have HB6 := Aside0.mk (below_then HB5.out HB5.out.size hb); clear hb)
        go_ret
        rw [HD2.out, ← HFO.out, Bool.false_and]
        exact ⟨rfl, HB6.out⟩
      | true =>
        go_upto_region 10 with (go_at_call 62; with_reducible refine HF.out.mono ?_; rintro e w6 ⟨rfl, hb⟩; have HB6 := Aside0.mk (below_then HB5.out HB5.out.size hb); have hxt := (hb.cell (World.block_lt_of_cell? _ _ HXS.out)).trans HXS.out; clear hb)
        clear q1 hxs
        have q0 := (HB6.out.cell (World.block_lt_of_cell? w _ HX0.out)).trans HX0.out
        have a1 : wrap64 (s + (m : Int)) = s + (m : Int) := by have := HB0.out; have := HM.out; have := HL8.out; have := HLT.out; unfold wrap64; omega
        have a2 : wrap64 (t + (m : Int)) = t + (m : Int) := by have := HB0.out; have := HM.out; have := HL8.out; have := HLT.out; unfold wrap64; omega
        have b1 : IntKind.i64.wrap (s + (m : Int)) = s + (m : Int) := by rw [i64_w]; exact a1
        have b2 : IntKind.i64.wrap (t + (m : Int)) = t + (m : Int) := by rw [i64_w]; exact a2
        by_cases h1 : kd = 1
        · subst h1
          have HA := Aside0.mk (And.intro a1 a2)
          go_upto_region 14 with (fail)
          go_quiet (fail)
          go_wp2_with (fail)
          go_roundw
          case rel =>
            have e := HA.out
            refine ⟨k + 1, s + m, t + m, HLT.out, by rw [w_up HLT.out (by have := HL8.out; omega)], by first | rfl | (rw [e.1]), by first | rfl | (rw [e.2]), ⟨by have := HB0.out; have := HM.out; omega⟩, ⟨drewN_below HB6.out⟩, ⟨by rw [HD2.out, ← HFO.out, Bool.true_and, if_pos rfl]⟩⟩
          case measure => exact meas_up HLT.out (by have := HL8.out; omega)
        · have c1 : (kd == 1) = false := by simpa using h1
          by_cases h2 : kd = 2
          · subst h2
            by_cases h3 : (m : Int) = s
            · have c3 : ((m : Int) != s) = false := by simpa using h3
              have H3 := Aside0.mk h3
              clear h3 a1 a2 b1 b2
              go_wp2_with (fail)
              go_roundw
              case rel =>
                refine ⟨k + 1, 0, t, HLT.out, by rw [w_up HLT.out (by have := HL8.out; omega)], rfl, rfl, ⟨by have := HB0.out; have := HM.out; omega⟩, HB6, ⟨by rw [HD2.out, ← HFO.out, Bool.true_and, if_neg (by decide), if_pos rfl, if_pos H3.out]⟩⟩
              case measure => exact meas_up HLT.out (by have := HL8.out; omega)
            · have c3 : ((m : Int) != s) = true := by simpa using h3
              have H3 := Aside0.mk h3
              clear h3 a1 a2 b1 b2
              go_wp2_with (fail)
              go_ret
              have e : rightGo (l.map toEnt) r 0 0 = false := by rw [HD2.out, ← HFO.out, Bool.true_and, if_neg (by decide), if_pos trivial, if_neg H3.out]
              rw [e]
              exact ⟨rfl, HB6.out⟩
          · have c2 : (kd == 2) = false := by simpa using h2
            have H12 := Aside0.mk (And.intro h1 h2)
            by_cases h3 : (m : Int) = t
            · have c3 : ((m : Int) != t) = false := by simpa using h3
              have H3 := Aside0.mk h3
              clear h3 h1 h2 a1 a2 b1 b2
              go_wp2_with (fail)
              go_roundw
              case rel =>
                refine ⟨k + 1, s, t, HLT.out, by rw [w_up HLT.out (by have := HL8.out; omega)], rfl, rfl, ⟨by have := HB0.out; have := HM.out; omega⟩, HB6, ⟨by rw [HD2.out, ← HFO.out, Bool.true_and, if_neg H12.out.1, if_neg H12.out.2, if_pos H3.out]⟩⟩
              case measure => exact meas_up HLT.out (by have := HL8.out; omega)
            · have c3 : ((m : Int) != t) = true := by simpa using h3
              have H3 := Aside0.mk h3
              clear h3 h1 h2 a1 a2 b1 b2
              go_wp2_with (fail)
              go_ret
              rw [HD2.out, ← HFO.out, Bool.true_and, if_neg H12.out.1, if_neg H12.out.2, if_neg H3.out]
              exact ⟨rfl, HB6.out⟩
    · obtain rfl : k = l.length := by omega
      have hd : decide ((l.length : Int) < (l.length : Int)) = false := by simp
      have hd2 : decide (l.length < l.length) = false := by simp
      clear hk hlt
      go_wp2
      go_ret
      rw [HD.out, List.drop_of_length_le (by rw [List.length_map]; exact Nat.le_refl _)]
      exact ⟨rfl, HB.out⟩
end Go.Proofs.YtgfikondoehblaaDoor.Pr
end
section
namespace Go.Proofs.YtgfikondoehblaaDoor.Pr
open Go.RowKit Go.Shelf Go.Proofs.YtgfikondoehblaaDoorW.PrintWords Go.Proofs.YtgfikondoehblaaDoorW.PrintLast Go.Proofs.YtgfikondoehblaaDoorW.PrintMore Go.Proofs.SumKeep
open SumPlain (Ent AccSo lostSum numeralP rightGo readingsP columnP lexLt lexLtB)
attribute [local go_sem] max2_int min2_int max_two min_two
section
variable {P : Program} {ops : Array Oper} {Q : Exit → Act → World → Prop} {md : Region.Mode} {S : World → Prop} {ds : List Nat} {T : Bool × List (List Nat × List Nat)} {oi : Oper} {fuel : Nat} {l : Array Bool} {a a' : Act} {w : World}
theorem una_ (i : Nat) (N : Tmp) (l' : Array Bool) (hT : rtab md ops = T) (h : wpAnyLast P md ops Q S ds fuel l' a' w)
    (hi : ops[i]? = some oi := by exact rfl) (hN : oi.dst = some N := by exact rfl) (hc : anyT T l.toList l'.toList i = true := by kernel_rfl)
    (hQ : ∀ c a w, Q (.panic c) (a.put oi.dst undef) w → Q (.panic c) a w := by exact fun _ _ _ h => h) (hw : Region.wanted oi (yielded ops a.tmps) = false := by rfl)
    (ha : a.put (some N) undef = a' := by simp only [Act.put, List.setIfInBounds_toArray, List.set_cons_zero, List.set_cons_succ, i64_w, i32_w]; rfl) : wpAnyLast P md ops Q S ds (fuel + 1) l a w :=
  pure_ l' hi hN (any_of hT hc) hQ (Or.inr ⟨hw, rfl⟩) ha h
end
theorem right_true {l : List S38} {r : List Int} (h : r ∈ readsL l) : rightGo (l.map toEnt) r 0 0 = true := by
  have h1 := (SumPlain.right_reading (l.map toEnt) r).2 h
  unfold SumPlain.rightP at h1
  exact (Bool.and_eq_true_iff.1 h1).2
theorem read_len {l : List S38} {r : List Int} (h : r ∈ readsL l) : r.length = l.length := by
  have := (reading_shape h).1
  rwa [List.length_map] at this
theorem read_range {l : List S38} {r : List Int} (h : r ∈ readsL l) : ∀ v ∈ r, 1 ≤ v ∧ v ≤ 4999 := fun v hv => by
  obtain ⟨h1, h2⟩ := reading_shape h
  obtain ⟨i, hi, rfl⟩ := List.getElem_of_mem hv
  have := h2 i (by omega)
  rw [List.getD_eq_getElem?_getD, List.getElem?_eq_getElem hi] at this
  exact this
def RightR.T12 : Bool × List (List Nat × List Nat) := (true, [([], []), ([], []), ([], []), ([1, 2], [1, 2]), ([3], [3]), ([0, 4], [0, 4]), ([5], [5]), ([6, 5], [6]), ([7], [7]), ([8, 7], [7, 8]), ([9, 7, 7], [7, 9]), ([10], [10]), ([10], [10]), ([12, 10], [10, 12]), ([11, 13, 10], [10, 11, 13]), ([14, 10], [10, 14]), ([10], [10]), ([10], [10]), ([16, 17, 10], [10, 16, 17]), ([18, 10], [10, 18]), ([15, 19, 10, 10], [10, 15, 19]), ([20, 10], [10, 20]), ([10, 21, 7], [7, 10, 21]), ([7, 22], [7, 22])])
def RightR.B12 : List Nat := [0, 0, 0, 6, 14, 31, 63, 127, 255, 511, 1023, 2047, 2047, 6143, 16383, 32767, 2047, 2047, 198655, 460799, 1048575, 2097151, 4194303, 8388607]
theorem RightR.tab12 : rtab .any (opsOf Tryd.f7 12) = RightR.T12 := by kernel_rfl
theorem RightR.bits12 : waitsOk RightR.T12.2 RightR.B12 = true := by kernel_rfl
def RightR.T17 : Bool × List (List Nat × List Nat) := (true, [([], []), ([], []), ([0, 1], [0, 1]), ([2], [2]), ([], []), ([], []), ([4, 5], [4, 5]), ([6], [6]), ([3, 7], [3, 7]), ([8], [8])])
def RightR.B17 : List Nat := [0, 0, 3, 7, 0, 0, 48, 112, 255, 511]
theorem RightR.tab17 : rtab .any (opsOf Tryd.f7 17) = RightR.T17 := by kernel_rfl
theorem RightR.bits17 : waitsOk RightR.T17.2 RightR.B17 = true := by kernel_rfl
set_option maxRecDepth 100000 in
set_option maxHeartbeats 8000000 in
theorem sumsRight_calls (A : Option Addr) (c : Nat) (nums : List Int) (w : World) (hr : Kd.C (Kd.int .i64) w A nums.length nums) (hS : SignsAt w) :
    Calls Tryd.prog 7 #[.slice A nums.length c] w fun e w' => e = .returned (.bool true) ∧ Below w.heap.size w w' := by
  have HR := Aside0.mk hr
  have HS := Aside0.mk hS
  clear hr hS
  go_enter Tryd.func7, Tryd.ntmps7
  go_upto_region 4 with (first
    | (go_at_call 12; with_reducible refine (newUrn_calls A c nums w HR.out).mono ?_; rintro e w1 ⟨⟨g, rfl, hu, hg⟩, hb⟩; have HU1 := Aside0.mk hu; have HG := Aside0.mk hg; have HB1 := Aside0.mk hb; clear hu hg hb)
    | (go_at_call 13; with_reducible refine (accountOf_calls g 8 900 5 (by omega) (by omega) (by omega) w1 HU1.out).mono ?_; rintro e w2 ⟨v10, v11, xs, vals, sum, whole, rfl, hlen, hso, hlost, hr10, hr11, hu, ht⟩; obtain ⟨bl, cl, rfl, hbl, hcl, hE⟩ := ents_of_R hr10 hlen.1; obtain ⟨av, cv, rfl⟩ := Kd.R_slice hr11; rw [show vals.length = xs.length from by have h := hso.len; rw [List.length_map] at h; exact h.symm]; have HVAL := Aside0.mk (Kd.R_reads' hr11).2.2; have HEl := Aside0.mk hE; have HBL := Aside0.mk hbl; have HLEN := Aside0.mk (show 1 ≤ xs.length ∧ xs.length ≤ 8 by omega); have HSO := Aside0.mk hso; have HLO := Aside0.mk (show lostSum (xs.map toEnt) ≤ 5 by omega); have HU2 := Aside0.mk hu; have HVR := Aside0.mk hr11; have HB2 := Aside0.mk (HB1.out.trans (ht.below (fun k hk => by rw [hk]; exact HG.out) HB1.out.size)); clear hE hbl hcl hlen hso hlost hr10 hr11 hu ht)
    | (go_at_call 25; with_reducible refine (from_calls g 1 50 (by omega) w2 HU2.out).mono ?_; rintro e w3 ⟨⟨most, rfl, hm0, hm1⟩, hu, ht⟩; have HEl3 := Aside0.mk (HEl.out.turn ht (by have := HBL.out; have := HU1.out.lt; omega)); have HVR3 := Aside0.mk (Kd.R_reads' (R_urn HVR.out ht HU1.out.lt)).2.2; have HB3 := Aside0.mk (HB2.out.trans (ht.below (fun k hk => by rw [hk]; exact HG.out) HB2.out.size)); have HMO := Aside0.mk (And.intro hm0 hm1); clear hu ht hm0 hm1))
  obtain ⟨mo, rfl⟩ : ∃ mo : Nat, most = (mo : Int) := ⟨most.toNat, by have := HMO.out; omega⟩
  have HX8 := Aside0.mk (show xs.length ≤ 9223372036854775807 by have := HLEN.out; omega)
  have HCL := Aside0.mk (made_check HSO.out HLEN.out.1 (by have := HLEN.out; omega) (by have := HLO.out; omega))
  have HV := Aside0.mk (show vals ∈ readsL xs from HSO.out.reading)
  have HNE := Aside0.mk (show readsL xs ≠ [] from fun e => by have := HV.out; rw [e] at this; cases this)
  have HVLN := Aside0.mk (read_len HV.out)
  have HVRG := Aside0.mk (read_range HV.out)
  have HSX := Aside0.mk (check_sizes HCL.out)
  have HRL := Aside0.mk (show readL xs (mo : Int) = ((readsL xs).take mo, 0) by
    unfold readL
    have := HMO.out
    rw [if_pos HCL.out, if_pos (by omega)]
    have e : firstL xs (mo : Int) = (readsL xs).take mo := by unfold firstL; rw [Int.toNat_natCast]
    rw [e, if_neg]
    intro h
    rcases List.take_eq_nil_iff.1 h with h | h
    · omega
    · exact HNE.out h)
  have HCO := Aside0.mk (show countL xs = (((readsL xs).length : Int), 0) by unfold countL; rw [if_pos HCL.out])
  have HCH := Aside0.mk (choL_ok HCL.out HNE.out)
  have HMANY := Aside0.mk (readsL_many HCL.out)
  have HC1 := Aside0.mk (readL_calls (some ⟨bl, 0, none⟩) cl xs (mo : Int) w3 HEl3.out.C HSX.out (HS.out.new HB3.out))
  have HC2 := Aside0.mk (fun (W : World) (hB : Below w.heap.size w W) (hE : EntsAt W bl xs) => count_calls (some ⟨bl, 0, none⟩) cl xs W hE.C HSX.out (HS.out.new hB))
  have HC3 := Aside0.mk (fun (W : World) (hB : Below w.heap.size w W) (hE : EntsAt W bl xs) => choices_calls (some ⟨bl, 0, none⟩) cl xs W hE.C HSX.out (HS.out.new hB))
  rw [HRL.out] at HC1
  rw [HCO.out] at HC2
  rw [HCH.out] at HC3
  have HC4 := Aside0.mk (fun (W : World) (A' : Option Addr) (c' : Nat) (r : List Int) (h : r ∈ readsL xs) (hB : Below w.heap.size w W) (hE : EntsAt W bl xs) (hR : Kd.C (Kd.int .i64) W A' r.length r) => right_calls (some ⟨bl, 0, none⟩) A' cl c' xs r HLEN.out.2 (read_len h) (read_range h) HSX.out W (HS.out.new hB) hE.C hR)
  obtain ⟨rs, hrs⟩ : ∃ rs, rs = (readsL xs).take mo := ⟨_, rfl⟩
  have HRS := Aside0.mk hrs
  have HRMEM := Aside0.mk (show ∀ r ∈ rs, r ∈ readsL xs from fun r h => List.mem_of_mem_take (hrs ▸ h))
  have HRLT := Aside0.mk (show ∀ i, i + 1 < rs.length → lexLtB (rs.getD i []) (rs.getD (i + 1) []) = true from fun i hi => by
    have hp : rs.Pairwise lexLt := by rw [hrs]; exact (SumPlain.readings_asc _).sublist (List.take_sublist _ _)
    have := List.pairwise_iff_getElem.1 hp i (i + 1) (by omega) hi (by omega)
    rw [List.getD_eq_getElem?_getD, List.getD_eq_getElem?_getD, List.getElem?_eq_getElem (by omega), List.getElem?_eq_getElem hi]
    exact (SumPlain.lexLtB_iff _ _).2 this)
  have HRLEN := Aside0.mk (show rs.length = min (readsL xs).length mo by rw [hrs, List.length_take, Nat.min_comm])
  obtain ⟨nr, hnr⟩ : ∃ nr, nr = (readsL xs).length := ⟨_, rfl⟩
  rw [← hrs] at HC1
  rw [← hnr] at HC2 HRLEN HMANY
  clear hrs hnr
  go_upto_region 7 with (first
    | (go_at_call 30; with_reducible refine HC1.out.mono ?_; rintro e w4 ⟨v, rfl, hs, hb⟩; obtain ⟨A7, c7, hv⟩ := Kd.S_slice hs; subst hv; have HRR := Aside0.mk (Kd.S_reads' hs).2.2; have HB4 := Aside0.mk (below_then HB3.out HB3.out.size hb); have HEl4 := Aside0.mk (HEl3.out.below hb); have HV4 := Aside0.mk (Kd.C_below HVR3.out hb); clear hs hb)
    | (go_at_call 16; with_reducible refine (HC2.out w4 HB4.out HEl4.out).mono ?_; rintro e w5 ⟨rfl, hb⟩; have HRR5 := Aside0.mk (Kd.C_below HRR.out hb); have HB5 := Aside0.mk (below_then HB4.out HB4.out.size hb); have HEl5 := Aside0.mk (HEl4.out.below hb); have HV5 := Aside0.mk (Kd.C_below HV4.out hb); clear hb)
    | (go_at_call 15; with_reducible refine (HC3.out w5 HB5.out HEl5.out).mono ?_; rintro e w6 ⟨v, rfl, hs, hb⟩; obtain ⟨A11, c11, hv⟩ := Kd.S_slice hs; subst hv; have HAA := Aside0.mk (Kd.S_reads' hs).2.2; have HRR6 := Aside0.mk (Kd.C_below HRR5.out hb); have HB6 := Aside0.mk (below_then HB5.out HB5.out.size hb); have HEl6 := Aside0.mk (HEl5.out.below hb); have HV6 := Aside0.mk (Kd.C_below HV5.out hb); clear hs hb))
  clear HC1 HC2 HC3 HRR HRR5 HB2 HB3 HB4 HB5 HEl HEl3 HEl4 HEl5 HV4 HV5 HVR HVR3 HVAL HU1 HU2 HB1
  go_cut [70] (fun v70 wc => v70 = .bool false ∧ Aside0 (Below w6.heap.size w6 wc))
  case first =>
    have HR1 := Aside0.mk (HC4.out w6 av cv vals HV.out HB6.out HEl6.out HV6.out)
    rw [right_true HV.out, HVLN.out] at HR1
    by_cases hm : mo < nr
    · have hm2 : (mo : Int) < (nr : Int) := by omega
      have e1 : ((rs.length : Int) != (mo : Int)) = false := by have := HRLEN.out; simp; omega
      have e2 : (rs.length != mo) = false := by have := HRLEN.out; simp; omega
      go_wp2_with (go_at_call 31; with_reducible refine HR1.out.mono ?_; rintro e w7 ⟨rfl, hb⟩; have HB7 := Aside0.mk hb; clear hb)
      go_meet
      case rel => exact ⟨rfl, HB7⟩
    · have hm2 : ¬ (mo : Int) < (nr : Int) := by omega
      have e1 : ((rs.length : Int) != (nr : Int)) = false := by have := HRLEN.out; simp; omega
      have e2 : (rs.length != nr) = false := by have := HRLEN.out; simp; omega
      go_wp2_with (go_at_call 31; with_reducible refine HR1.out.mono ?_; rintro e w7 ⟨rfl, hb⟩; have HB7 := Aside0.mk hb; clear hb)
      go_meet
      case rel => exact ⟨rfl, HB7⟩
  case rest =>
    obtain ⟨rfl, HB7⟩ := hcut
    have HB07 := Aside0.mk (below_then HB6.out HB6.out.size HB7.out)
    have HR9 := Aside0.mk (show rs.length ≤ 9223372036854775807 by have := HRLEN.out; have := HMANY.out; omega)
    go_wp2_with (fail)
    go_loopw [2, 13, 71, 72, 73, 74, 75, 76, 77, 78, 79, 80, 81, 82, 83, 84, 85, 86, 87, 88, 89, 90, 91, 92, 93, 94, 95, 96, 97, 98, 99, 100] (fun _ v13 _ _ _ _ _ _ _ _ _ _ _ _ _ _ _ _ _ _ _ _ _ _ _ _ _ _ _ _ _ _ wr => ∃ i : Nat, i ≤ rs.length ∧ v13 = .int .i64 (i : Int) ∧ Aside0 (Below w6.heap.size w6 wr)) (fun _ v13 _ _ _ _ _ _ _ _ _ _ _ _ _ _ _ _ _ _ _ _ _ _ _ _ _ _ _ _ _ _ _ => rs.length - (intOf v13).toNat)
    case atStart => exact ⟨0, Nat.zero_le _, rfl, HB7⟩
    case round =>
      clear HB7 HB07
      obtain ⟨i, hi, rfl, HBR⟩ := hrel
      by_cases hlt : i < rs.length
      · have hd1 : decide ((i : Int) < (rs.length : Int)) = true := by simp; omega
        have hd2 : decide (i < rs.length) = true := by simp; omega
        have HLT := Aside0.mk hlt
        obtain ⟨ad, A1, c1, e1, hc1, hC1⟩ := rowI_at HRR6.out (j := i) hlt
        subst e1
        obtain ⟨r, hr⟩ : ∃ r, r = rs.getD i [] := ⟨_, rfl⟩
        rw [← hr] at hc1 hC1
        have hrm : r ∈ readsL xs := HRMEM.out r (by rw [hr, List.getD_eq_getElem?_getD, List.getElem?_eq_getElem hlt]; exact List.getElem_mem hlt)
        have q1 := (HBR.out.cell (World.block_lt_of_cell? w6 _ hc1)).trans hc1
        have HRM := Aside0.mk hrm
        have HC1' := Aside0.mk hC1
        have HRI := Aside0.mk hr
        have hrl : r.length = xs.length := read_len hrm
        have HRLN := Aside0.mk hrl
        have hi0 : (0 : Int) ≤ (i : Int) := by omega
        have hi1 : (i : Int) < (rs.length : Int) := by omega
        have hi1n : i < rs.length := HLT.out
        have hb0 : Below w.heap.size w wr.drew := (below_then HB6.out HB6.out.size HBR.out).drew
        have HR1 := Aside0.mk (HC4.out wr.drew A1 c1 r hrm hb0 (HEl6.out.below HBR.out.drew) (Kd.C_below hC1 HBR.out.drew))
        rw [right_true hrm, hrl] at HR1
        rw [hrl] at q1
        clear hc1 hC1 hr hrm hi hlt hb0 hrl
        go_upto_region 12 with (fail)
        clear hd1 hd2
        go_cut [99, 100] (fun _ v100 wc => v100 = .bool false ∧ Aside0 (Below w6.heap.size w6 wc))
        case first =>
          by_cases hz : i = 0
          · subst hz
            have HBD := Aside0.mk HBR.out.drew
            rw [show ad.add 0 = ad from by simp [Addr.add]] at q1
            refine start_ (n := 24) (S := fun w' => w'.cell? ad = some (.slice A1 xs.length c1)) (ds := [20]) (ba 24 0) (by kernel_rfl) rfl rfl q1 (fun hHeld => ?_)
            refine with_tabW RightR.tab12 RightR.bits12 (fun HT_ HW_ => ?_)
            clear q1
            refine pur_ 0 77 (ba 24 1) HT_.out ?_
            refine pur_ 1 78 (ba 24 3) HT_.out ?_
            refine pur_ 2 79 (ba 24 7) HT_.out ?_
            refine pur_ 3 80 (ba 24 15) HT_.out ?_
            refine tak_ 4 81 (ba 24 31) HT_.out HW_.out hHeld ?_ (v := .slice A1 xs.length c1) (hv := by intro w2 h2; have h3 : w2.cell? ad = some (.slice A1 xs.length c1) := h2; clear h2; go_simp)
            refine on_ 5 (some 82) (ba 24 63) HT_.out (fun K hK => ?_)
            refine goes_ Tryd.func31 (by kernel_rfl) rfl #[.slice (some ⟨bl, 0, none⟩) xs.length cl, .slice A1 xs.length c1] (by rfl) rfl rfl (by (simp only [List.map_toArray, List.map_cons, List.map_nil]); rfl) ?_
            refine HR1.out.mono ?_
            rintro e w8 ⟨rfl, hb8⟩
            refine ⟨_, rfl, ?_⟩
            have HB8 := Aside0.mk (below_then HBD.out HBD.out.size hb8)
            refine hK.out _ _ ((hb8.cell (World.block_lt_of_cell? _ _ hHeld)).trans hHeld) (fun hHeld => ?_)
            clear hK K hb8
            refine nrm_ ?_
            refine pur_ 6 83 (ba 24 127) HT_.out ?_
            refine pur_ 7 84 (ba 24 255) HT_.out ?_
            refine pur_ 8 85 (ba 24 511) HT_.out ?_
            refine pur_ 9 86 (ba 24 1023) HT_.out ?_
            refine pur_ 10 87 (ba 24 2047) HT_.out ?_
            refine una_ 11 88 (ba 24 4095) HT_.out ?_
            refine una_ 12 89 (ba 24 8191) HT_.out ?_
            refine una_ 13 90 (ba 24 16383) HT_.out ?_
            refine una_ 14 91 (ba 24 32767) HT_.out ?_
            refine una_ 15 92 (ba 24 65535) HT_.out ?_
            refine una_ 16 93 (ba 24 131071) HT_.out ?_
            refine una_ 17 94 (ba 24 262143) HT_.out ?_
            refine una_ 18 95 (ba 24 524287) HT_.out ?_
            refine una_ 19 96 (ba 24 1048575) HT_.out ?_
            refine una_ 20 97 (ba 24 2097151) HT_.out ?_
            refine una_ 21 98 (ba 24 4194303) HT_.out ?_
            refine pur_ 22 99 (ba 24 8388607) HT_.out ?_
            refine pur_ 23 100 (ba 24 16777215) HT_.out ?_
            refine don_ HT_.out ?_
            go_wp2_with (fail)
            go_meet
            case rel => exact ⟨rfl, HB8⟩
          · have hz1 : decide (0 < i) = true := by simp; omega
            have hz2 : decide ((i : Int) > 0) = true := by simp; omega
            obtain ⟨j, hji⟩ : ∃ j, i = j + 1 := ⟨i - 1, by omega⟩
            have HJI := Aside0.mk hji
            have hjl : j < rs.length := by have := HLT.out; omega
            have hjln : j < rs.length := hjl
            obtain ⟨adj, A2, c2, e2, hc2, hC2⟩ := rowI_at HRR6.out (j := j) hjl
            obtain rfl := Option.some.inj e2
            obtain ⟨r2, hr2⟩ : ∃ r2, r2 = rs.getD j [] := ⟨_, rfl⟩
            rw [← hr2] at hc2 hC2
            have hrm2 : r2 ∈ readsL xs := HRMEM.out r2 (by rw [hr2, List.getD_eq_getElem?_getD, List.getElem?_eq_getElem hjl]; exact List.getElem_mem hjl)
            have hrl2 : r2.length = xs.length := read_len hrm2
            have q2 := (HBR.out.cell (World.block_lt_of_cell? w6 _ hc2)).trans hc2
            have hbt := before_calls A2 A1 c2 c1 r2 r (hrl2.trans HRLN.out.symm)
            have hlx : lexLtB r2 r = true := by rw [hr2, HRI.out, hji]; exact HRLT.out j (hji ▸ HLT.out)
            rw [hlx, hrl2, HRLN.out] at hbt
            have HBT := Aside0.mk (fun W (hb : Below w6.heap.size w6 W) => hbt W (hrl2 ▸ Kd.C_below hC2 hb) (HRLN.out ▸ Kd.C_below HC1'.out hb))
            rw [hrl2] at q2
            have hj1 : wrap64 ((i : Int) - 1) = (j : Int) := by have := HR9.out; have := HLT.out; unfold wrap64; omega
            have hj0 : (0 : Int) ≤ (j : Int) := by omega
            have hjl1 : (j : Int) < (rs.length : Int) := by omega
            have HBD := Aside0.mk HBR.out.drew
            refine start_ (n := 24) (S := fun w' => w'.cell? (ad.add i) = some (.slice A1 xs.length c1) ∧ w'.cell? (ad.add j) = some (.slice A2 xs.length c2)) (ds := [20]) (ba 24 0) (by kernel_rfl) rfl rfl ⟨q1, q2⟩ (fun hHeld => ?_)
            refine with_tabW RightR.tab12 RightR.bits12 (fun HT_ HW_ => ?_)
            clear q1 q2 hr2 hrm2 hrl2 hbt hlx hc2 hC2 hz hji
            refine pur_ 0 77 (ba 24 1) HT_.out ?_
            refine pur_ 1 78 (ba 24 3) HT_.out ?_
            refine pur_ 2 79 (ba 24 7) HT_.out ?_
            refine pur_ 3 80 (ba 24 15) HT_.out ?_
            refine tak_ 4 81 (ba 24 31) HT_.out HW_.out hHeld ?_
            refine on_ 5 (some 82) (ba 24 63) HT_.out (fun K hK => ?_)
            refine goes_ Tryd.func31 (by kernel_rfl) rfl #[.slice (some ⟨bl, 0, none⟩) xs.length cl, .slice A1 xs.length c1] (by rfl) rfl rfl (by (simp only [List.map_toArray, List.map_cons, List.map_nil]); rfl) ?_
            refine HR1.out.mono ?_
            rintro e w8 ⟨rfl, hb8⟩
            refine ⟨_, rfl, ?_⟩
            have HB8 := Aside0.mk (below_then HBD.out HBD.out.size hb8)
            have g1 := (hb8.cell (World.block_lt_of_cell? _ _ hHeld.1)).trans hHeld.1
            have g2 := (hb8.cell (World.block_lt_of_cell? _ _ hHeld.2)).trans hHeld.2
            refine hK.out _ _ ⟨g1, g2⟩ (fun hHeld => ?_)
            clear hK K hb8 g1 g2
            refine nrm_ ?_
            refine pur_ 6 83 (ba 24 127) HT_.out ?_
            refine pur_ 7 84 (ba 24 255) HT_.out ?_
            refine pur_ 8 85 (ba 24 511) HT_.out ?_
            refine pur_ 9 86 (ba 24 1023) HT_.out ?_
            refine pur_ 10 87 (ba 24 2047) HT_.out ?_
            refine pur_ 11 88 (ba 24 4095) HT_.out ?_
            refine pur_ 12 89 (ba 24 8191) HT_.out ?_
            refine pur_ 13 90 (ba 24 16383) HT_.out ?_
            refine pur_ 14 91 (ba 24 32767) HT_.out ?_
            refine tak_ 15 92 (ba 24 65535) HT_.out HW_.out hHeld ?_
            refine pur_ 16 93 (ba 24 131071) HT_.out ?_
            refine pur_ 17 94 (ba 24 262143) HT_.out ?_
            refine pur_ 18 95 (ba 24 524287) HT_.out ?_
            refine tak_ 19 96 (ba 24 1048575) HT_.out HW_.out hHeld ?_
            refine las_ 20 (some 97) (ba 24 2097151) HT_.out (fun K hK => ?_)
            refine goes_ Tryd.func32 (by kernel_rfl) rfl #[.slice A2 xs.length c2, .slice A1 xs.length c1] (by rfl) rfl rfl (by (simp only [List.map_toArray, List.map_cons, List.map_nil]); rfl) ?_
            refine (HBT.out w8 HB8.out).mono ?_
            rintro e w9 ⟨rfl, hb9⟩
            refine ⟨_, rfl, ?_⟩
            have HB9 := Aside0.mk (below_then HB8.out HB8.out.size hb9)
            refine hK.out _ _ ?_
            clear hK K hb9 hHeld
            refine nrm_ ?_
            refine pur_ 21 98 (ba 24 4194303) HT_.out ?_
            refine pur_ 22 99 (ba 24 8388607) HT_.out ?_
            refine pur_ 23 100 (ba 24 16777215) HT_.out ?_
            refine don_ HT_.out ?_
            go_wp2_with (fail)
            go_meet
            case rel => exact ⟨rfl, HB9⟩
        case rest =>
          obtain ⟨rfl, HB9⟩ := hcut
          clear q1 HBR HR1
          go_wp2_with (fail)
          go_roundw
          case rel => exact ⟨i + 1, HLT.out, by rw [w_up HLT.out HR9.out], HB9⟩
          case measure => exact meas_up HLT.out HR9.out
      · obtain rfl : i = rs.length := by omega
        have hd1 : decide ((rs.length : Int) < (rs.length : Int)) = false := by simp
        have hd2 : decide (rs.length < rs.length) = false := by simp
        clear hlt hi
        go_wp2_with (fail)
        go_loopw [2, 14, 101, 102, 103, 104, 105, 106, 107, 108, 109, 110, 111, 112, 113, 114, 115, 116] (fun _ v14 _ _ _ _ _ _ _ _ _ _ _ _ _ _ _ _ wr => ∃ i : Nat, i ≤ xs.length ∧ v14 = .int .i64 (i : Int) ∧ Aside0 (Below w6.heap.size w6 wr)) (fun _ v14 _ _ _ _ _ _ _ _ _ _ _ _ _ _ _ _ _ => xs.length - (intOf v14).toNat)
        case atStart => exact ⟨0, Nat.zero_le _, rfl, HBR⟩
        case round =>
          clear HBR
          obtain ⟨i, hi, rfl, HBR⟩ := hrel
          by_cases hlt : i < xs.length
          · have hd1 : decide ((i : Int) < (xs.length : Int)) = true := by simp; omega
            have hd2 : decide (i < xs.length) = true := by simp; omega
            have HLT := Aside0.mk hlt
            obtain ⟨cols, hcols⟩ : ∃ cols, cols = (List.range xs.length).map (columnP (readsL xs)) := ⟨_, rfl⟩
            have hAA := HAA.out
            rw [← hcols] at hAA
            have hcl : cols.length = xs.length := by rw [hcols]; simp
            obtain ⟨ad, A1, c1, e1, hc1, hC1⟩ := rowI_at hAA (j := i) (by rw [hcl]; exact hlt)
            subst e1
            obtain ⟨col, hcol⟩ : ∃ col, col = cols.getD i [] := ⟨_, rfl⟩
            rw [← hcol] at hc1 hC1
            obtain ⟨avd, e2, hv2⟩ := Kd.at_int HV6.out i (by omega) (by rw [HVLN.out]; omega)
            subst e2
            obtain ⟨vi, hvi⟩ : ∃ vi, vi = rd vals (i : Int) := ⟨_, rfl⟩
            rw [← hvi, Int.toNat_natCast] at hv2
            have hin : vi ∈ col := by
              have hh := SumPlain.reading_in_column HV.out i (by rw [List.length_map]; exact hlt)
              have e3 : cols.getD i [] = columnP (readsL xs) i := by rw [hcols]; simp [List.getD_eq_getElem?_getD, hlt]
              rw [hcol, e3]
              have e4 : vals.getD i (-1) = vi := by
                rw [hvi]
                have hvl : i < vals.length := by rw [HVLN.out]; exact hlt
                simp [rd, List.getD_eq_getElem?_getD, List.getElem?_eq_getElem hvl]
              rw [← e4]
              exact hh
            have q1 := (HBR.out.cell (World.block_lt_of_cell? w6 _ hc1)).trans hc1
            have q2 := (HBR.out.cell (World.block_lt_of_cell? w6 _ hv2)).trans hv2
            have HIN := Aside0.mk (in_calls A1 c1 col vi wr.drew (Kd.C_below hC1 HBR.out.drew) hin)
            clear hAA hcols hcl hcol hc1 hC1 hv2 hvi hin hi
            have hi0 : (0 : Int) ≤ (i : Int) := by omega
            have hi1 : (i : Int) < (xs.length : Int) := by omega
            go_upto_region 17 with (fail)
            clear hd1 hd2
            go_cut [115, 116] (fun _ v116 wc => v116 = .bool false ∧ Aside0 (Below w6.heap.size w6 wc))
            case first =>
              have HBD := Aside0.mk HBR.out.drew
              refine start_ (n := 10) (S := fun w' => w'.cell? (ad.add i) = some (.slice A1 col.length c1) ∧ w'.cell? (avd.add i) = some (.int .i64 vi)) (ds := [8]) (ba 10 0) (by kernel_rfl) rfl rfl ⟨q1, q2⟩ (fun hHeld => ?_)
              refine with_tabW RightR.tab17 RightR.bits17 (fun HT_ HW_ => ?_)
              clear q1 q2
              refine pur_ 0 107 (ba 10 1) HT_.out ?_
              refine pur_ 1 108 (ba 10 3) HT_.out ?_
              refine pur_ 2 109 (ba 10 7) HT_.out ?_
              refine tak_ 3 110 (ba 10 15) HT_.out HW_.out hHeld ?_
              refine pur_ 4 111 (ba 10 31) HT_.out ?_
              refine pur_ 5 112 (ba 10 63) HT_.out ?_
              refine pur_ 6 113 (ba 10 127) HT_.out ?_
              refine tak_ 7 114 (ba 10 255) HT_.out HW_.out hHeld ?_
              refine las_ 8 (some 115) (ba 10 511) HT_.out (fun K hK => ?_)
              refine goes_ Tryd.func20 (by kernel_rfl) rfl #[.slice A1 col.length c1, .int .i64 vi] (by rfl) rfl rfl (by (simp only [List.map_toArray, List.map_cons, List.map_nil]); rfl) ?_
              refine HIN.out.mono ?_
              rintro e w9 ⟨rfl, hb9⟩
              refine ⟨_, rfl, ?_⟩
              have HB9 := Aside0.mk (below_then HBD.out HBD.out.size hb9)
              refine hK.out _ _ ?_
              clear hK K hb9 hHeld
              refine nrm_ ?_
              refine pur_ 9 116 (ba 10 1023) HT_.out ?_
              refine don_ HT_.out ?_
              go_wp2_with (fail)
              go_meet
              case rel => exact ⟨rfl, HB9⟩
            case rest =>
              obtain ⟨rfl, HB9⟩ := hcut
              clear q1 q2 HBR HIN
              go_wp2_with (fail)
              go_roundw
              case rel => exact ⟨i + 1, HLT.out, by rw [w_up HLT.out HX8.out], HB9⟩
              case measure => exact meas_up HLT.out HX8.out
          · obtain rfl : i = xs.length := by omega
            have hd1 : decide ((xs.length : Int) < (xs.length : Int)) = false := by simp
            have hd2 : decide (xs.length < xs.length) = false := by simp
            clear hlt hi
            have HB66 := Aside0.mk (below_then HB6.out HB6.out.size HBR.out)
            go_wp2_with (go_at_call 21; with_reducible refine (alert_calls wr (HS.out.new HB66.out)).mono ?_; rintro e w17 ⟨rfl, hb⟩; have HB17 := Aside0.mk (below_then HB66.out HB66.out.size hb); clear hb)
            go_ret
            exact ⟨rfl, HB17.out⟩
end Go.Proofs.YtgfikondoehblaaDoor.Pr
end
