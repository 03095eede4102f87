/- Part 1 of 21 of the proof of: SumsLess: for every slice of numbers, the law returns true: without the entries that Struck names an account made of them adds up, and without fewer ones, or as many that come before, it does not; no condition beyond the statement's own. -/

set_option linter.unusedVariables false
set_option linter.unusedSimpArgs false
set_option linter.unusedSectionVars false
section
namespace SumPlain
def signsP : List (Int × Nat) := [(77, 1000), (68, 500), (67, 100), (76, 50), (88, 10), (86, 5), (73, 1)]
def numGo : List (Int × Nat) → Nat → List Int
  | [], _ => []
  | (c, v) :: r, n => List.replicate (n / v) c ++ numGo r (n % v)
def numeralP (n : Nat) : List Int := numGo signsP n
def fitsP : List Int → List Int → Bool
  | [], [] => true
  | a :: r, b :: s => (b == 63 || b == a) && fitsP r s
  | _, _ => false
def valuesTo (p : List Int) : Nat → List Int
  | 0 => []
  | n + 1 => if fitsP (numeralP (n + 1)) p then valuesTo p n ++ [((n + 1 : Nat) : Int)] else valuesTo p n
def valuesP (p : List Int) : List Int := valuesTo p 4999
theorem mem_valuesTo (p : List Int) (x : Int) : ∀ n, x ∈ valuesTo p n ↔ ∃ k : Nat, 1 ≤ k ∧ k ≤ n ∧ x = (k : Int) ∧ fitsP (numeralP k) p = true
  | 0 => by simp [valuesTo]; omega
  | n + 1 => by
    rw [valuesTo]
    have ih := mem_valuesTo p x n
    split
    · rename_i h
      rw [List.mem_append, ih, List.mem_singleton]
      constructor
      · rintro (⟨k, h1, h2, h3, h4⟩ | rfl)
        · exact ⟨k, h1, by omega, h3, h4⟩
        · exact ⟨n + 1, by omega, by omega, rfl, h⟩
      · rintro ⟨k, h1, h2, h3, h4⟩
        rcases Nat.lt_or_eq_of_le h2 with h5 | rfl
        · exact .inl ⟨k, h1, by omega, h3, h4⟩
        · exact .inr h3
    · rename_i h
      rw [ih]
      constructor
      · rintro ⟨k, h1, h2, h3, h4⟩
        exact ⟨k, h1, by omega, h3, h4⟩
      · rintro ⟨k, h1, h2, h3, h4⟩
        rcases Nat.lt_or_eq_of_le h2 with h5 | rfl
        · exact ⟨k, h1, by omega, h3, h4⟩
        · exact absurd h4 h
theorem asc_valuesTo (p : List Int) : ∀ n, (valuesTo p n).Pairwise (· < ·)
  | 0 => List.Pairwise.nil
  | n + 1 => by
    rw [valuesTo]
    split
    · refine List.pairwise_append.2 ⟨asc_valuesTo p n, by simp, fun a ha b hb => ?_⟩
      obtain ⟨k, _, h2, rfl, _⟩ := (mem_valuesTo p a n).1 ha
      rw [List.mem_singleton.1 hb]
      omega
    · exact asc_valuesTo p n
structure Ent where
  kind : Int
  signs : List Int
abbrev May := Int × List Int
def nextP : List May → List Int → Int → Int → List (List Int)
  | [], begun, _, _ => [begun]
  | (k, may) :: r, begun, since, sum =>
    if k = 1 then may.flatMap fun n => nextP r (begun ++ [n]) (since + n) (sum + n)
    else if k = 2 then (if since ∈ may then nextP r (begun ++ [since]) 0 sum else [])
    else (if sum ∈ may then nextP r (begun ++ [sum]) since sum else [])
def readingsP (l : List Ent) : List (List Int) := nextP (l.map fun e => (e.kind, valuesP e.signs)) [] 0 0
def Reads : List May → Int → Int → List Int → Prop
  | [], _, _, [] => True
  | (k, may) :: r, since, sum, n :: t => n ∈ may ∧ (if k = 1 then Reads r (since + n) (sum + n) t else if k = 2 then n = since ∧ Reads r 0 sum t else n = sum ∧ Reads r since sum t)
  | _, _, _, _ => False
theorem mem_nextP : ∀ (es : List May) (begun : List Int) (since sum : Int) (x : List Int), x ∈ nextP es begun since sum ↔ ∃ t, x = begun ++ t ∧ Reads es since sum t
  | [], begun, since, sum, x => by
    rw [nextP, List.mem_singleton]
    constructor
    · rintro rfl
      exact ⟨[], by simp, trivial⟩
    · rintro ⟨t, rfl, h⟩
      cases t with
      | nil => simp
      | cons n t => exact h.elim
  | (k, may) :: r, begun, since, sum, x => by
    rw [nextP]
    by_cases h1 : k = 1
    · rw [if_pos h1, List.mem_flatMap]
      constructor
      · rintro ⟨n, hn, hx⟩
        obtain ⟨t, rfl, ht⟩ := (mem_nextP r _ _ _ _).1 hx
        exact ⟨n :: t, by simp, hn, by rw [if_pos h1]; exact ht⟩
      · rintro ⟨t, rfl, h⟩
        cases t with
        | nil => exact h.elim
        | cons n t =>
          obtain ⟨hn, h⟩ := h
          rw [if_pos h1] at h
          exact ⟨n, hn, (mem_nextP r _ _ _ _).2 ⟨t, by simp, h⟩⟩
    · rw [if_neg h1]
      by_cases h2 : k = 2
      · rw [if_pos h2]
        constructor
        · intro hx
          split at hx
          · rename_i hm
            obtain ⟨t, rfl, ht⟩ := (mem_nextP r _ _ _ _).1 hx
            exact ⟨since :: t, by simp, hm, by rw [if_neg h1, if_pos h2]; exact ⟨rfl, ht⟩⟩
          · cases hx
        · rintro ⟨t, rfl, h⟩
          cases t with
          | nil => exact h.elim
          | cons n t =>
            obtain ⟨hn, h⟩ := h
            rw [if_neg h1, if_pos h2] at h
            obtain ⟨rfl, h⟩ := h
            rw [if_pos hn]
            exact (mem_nextP r _ _ _ _).2 ⟨t, by simp, h⟩
      · rw [if_neg h2]
        constructor
        · intro hx
          split at hx
          · rename_i hm
            obtain ⟨t, rfl, ht⟩ := (mem_nextP r _ _ _ _).1 hx
            exact ⟨sum :: t, by simp, hm, by rw [if_neg h1, if_neg h2]; exact ⟨rfl, ht⟩⟩
          · cases hx
        · rintro ⟨t, rfl, h⟩
          cases t with
          | nil => exact h.elim
          | cons n t =>
            obtain ⟨hn, h⟩ := h
            rw [if_neg h1, if_neg h2] at h
            obtain ⟨rfl, h⟩ := h
            rw [if_pos hn]
            exact (mem_nextP r _ _ _ _).2 ⟨t, by simp, h⟩
def lexLt : List Int → List Int → Prop
  | a :: r, b :: s => a < b ∨ a = b ∧ lexLt r s
  | _, _ => False
theorem lexLt_append : ∀ (p r s : List Int), lexLt r s → lexLt (p ++ r) (p ++ s)
  | [], _, _, h => h
  | a :: p, r, s, h => .inr ⟨rfl, lexLt_append p r s h⟩
theorem Reads.length : ∀ {es : List May} {since sum : Int} {t : List Int}, Reads es since sum t → t.length = es.length
  | [], _, _, [], _ => rfl
  | [], _, _, _ :: _, h => h.elim
  | (k, may) :: r, since, sum, [], h => h.elim
  | (k, may) :: r, since, sum, n :: t, h => by
    obtain ⟨_, h⟩ := h
    rw [List.length_cons, List.length_cons]
    congr 1
    split at h
    · exact Reads.length h
    · split at h
      · exact Reads.length h.2
      · exact Reads.length h.2
theorem mem_readings (l : List Ent) (x : List Int) : x ∈ readingsP l ↔ Reads (l.map fun e => (e.kind, valuesP e.signs)) 0 0 x := by
  rw [readingsP, mem_nextP]
  simp
end SumPlain
namespace SumPlain
theorem fits_iff : ∀ (s p : List Int), fitsP s p = true ↔ s.length = p.length ∧ ∀ i (h : i < s.length) (h' : i < p.length), p[i] = 63 ∨ p[i] = s[i]
  | [], [] => by simp [fitsP]
  | [], b :: p => by simp [fitsP]
  | a :: s, [] => by simp [fitsP]
  | a :: s, b :: p => by
    have ih := fits_iff s p
    simp only [fitsP, Bool.and_eq_true, Bool.or_eq_true, beq_iff_eq, List.length_cons]
    rw [ih]
    constructor
    · rintro ⟨h1, h2, h3⟩
      refine ⟨by omega, fun i h h' => ?_⟩
      cases i with
      | zero => exact h1
      | succ i => exact h3 i (by simpa using h) (by simpa using h')
    · rintro ⟨h1, h2⟩
      exact ⟨h2 0 (by simp) (by simp), by omega, fun i h h' => h2 (i + 1) (by simpa using h) (by simpa using h')⟩
def placeP (c : Int) : Int := if c = 77 then 0 else if c = 68 then 1 else if c = 67 then 2 else if c = 76 then 3 else if c = 88 then 4 else if c = 86 then 5 else if c = 73 then 6 else -1
def worthP (i : Int) : Int := if i = 0 then 1000 else if i = 1 then 500 else if i = 2 then 100 else if i = 3 then 50 else if i = 4 then 10 else if i = 5 then 5 else 1
def mostP (i : Int) : Int := if i = 1 ∨ i = 3 ∨ i = 5 then 1 else 4
def numberGo : List Int → Int → Int → Int → Int
  | [], _, _, n => n
  | c :: r, last, cnt, n =>
    if placeP c < last then -1
    else if (if placeP c = last then cnt + 1 else 1) > mostP (placeP c) then -1
    else numberGo r (placeP c) (if placeP c = last then cnt + 1 else 1) (n + worthP (placeP c))
def numberP (s : List Int) : Int := numberGo s 0 0 0
def stepS (k n since : Int) : Int := if k = 1 then since + n else if k = 2 then 0 else since
def stepW (k n sum : Int) : Int := if k = 1 then sum + n else sum
def fin : List May → List Int → Int → Int → Int × Int
  | (k, _) :: r, n :: t, since, sum => fin r t (stepS k n since) (stepW k n sum)
  | _, _, since, sum => (since, sum)
def OkAt (k n since sum : Int) : Prop := if k = 1 then True else if k = 2 then n = since else n = sum
theorem reads_cons {k : Int} {may : List Int} {r : List May} {since sum n : Int} {t : List Int} : Reads ((k, may) :: r) since sum (n :: t) ↔ n ∈ may ∧ OkAt k n since sum ∧ Reads r (stepS k n since) (stepW k n sum) t := by
  unfold OkAt stepS stepW
  by_cases h1 : k = 1
  · simp [Reads, h1]
  · by_cases h2 : k = 2
    · subst h2
      simp [Reads]
    · simp [Reads, h1, h2]
theorem reads_snoc : ∀ {es : List May} {since sum : Int} {t : List Int}, Reads es since sum t → ∀ (k n : Int) (may : List Int), n ∈ may → OkAt k n (fin es t since sum).1 (fin es t since sum).2 → Reads (es ++ [(k, may)]) since sum (t ++ [n])
  | [], since, sum, [], _, k, n, may, hn, h => reads_cons.2 ⟨hn, h, trivial⟩
  | [], _, _, _ :: _, h, _, _, _, _, _ => h.elim
  | (k', m') :: r, since, sum, [], h, _, _, _, _, _ => h.elim
  | (k', m') :: r, since, sum, n' :: t, h, k, n, may, hn, ho => by
    obtain ⟨h1, h2, h3⟩ := reads_cons.1 h
    exact reads_cons.2 ⟨h1, h2, reads_snoc h3 k n may hn ho⟩
theorem fin_snoc : ∀ {es : List May} {t : List Int} (since sum : Int), es.length = t.length → ∀ (k n : Int) (may : List Int), fin (es ++ [(k, may)]) (t ++ [n]) since sum = (stepS k n (fin es t since sum).1, stepW k n (fin es t since sum).2)
  | [], [], since, sum, _, k, n, may => rfl
  | [], _ :: _, _, _, h, _, _, _ => by simp at h
  | _ :: _, [], _, _, h, _, _, _ => by simp at h
  | (k', m') :: r, n' :: t, since, sum, h, k, n, may => fin_snoc (es := r) (t := t) (stepS k' n' since) (stepW k' n' sum) (by simpa using h) k n may
def columnP (rs : List (List Int)) (i : Nat) : List Int := ((List.range 5000).map Int.ofNat).filter fun v => rs.any fun r => r.getD i (-1) == v
theorem mem_column (rs : List (List Int)) (i : Nat) (v : Int) (hv : 0 ≤ v ∧ v < 5000) : v ∈ columnP rs i ↔ ∃ r ∈ rs, r.getD i (-1) = v := by
  unfold columnP
  rw [List.mem_filter, List.any_eq_true]
  constructor
  · rintro ⟨_, r, hr, h⟩
    exact ⟨r, hr, by simpa using h⟩
  · rintro ⟨r, hr, h⟩
    refine ⟨List.mem_map.2 ⟨v.toNat, List.mem_range.2 (by omega), ?_⟩, r, hr, by simpa using h⟩
    simp only [Int.ofNat_eq_natCast]
    omega
theorem asc_column (rs : List (List Int)) (i : Nat) : (columnP rs i).Pairwise (· < ·) := by
  unfold columnP
  refine List.Pairwise.filter _ ?_
  rw [List.pairwise_map]
  exact (List.pairwise_lt_range).imp (fun h => Int.ofNat_lt.2 h)
theorem Reads.mem : ∀ {es : List May} {since sum : Int} {t : List Int}, Reads es since sum t → ∀ i (h : i < t.length) (h' : i < es.length), t[i] ∈ es[i].2
  | [], _, _, [], _, i, h, _ => by simp at h
  | [], _, _, _ :: _, h, _, _, _ => h.elim
  | (k, may) :: r, _, _, [], h, _, _, _ => h.elim
  | (k, may) :: r, since, sum, n :: t, h, i, hi, hi' => by
    obtain ⟨h1, _, h3⟩ := reads_cons.1 h
    cases i with
    | zero => exact h1
    | succ i => exact Reads.mem h3 i (by simpa using hi) (by simpa using hi')
theorem reading_in_column {l : List Ent} {x : List Int} (h : x ∈ readingsP l) (i : Nat) (hi : i < l.length) : x.getD i (-1) ∈ columnP (readingsP l) i := by
  have hr := (mem_readings l x).1 h
  have hl := hr.length
  rw [List.length_map] at hl
  have hm := hr.mem i (by omega) (by rw [List.length_map]; exact hi)
  have e : x.getD i (-1) = x[i]'(by omega) := by rw [List.getD_eq_getElem?_getD, List.getElem?_eq_getElem (by omega)]; rfl
  rw [e]
  simp only [List.getElem_map] at hm
  obtain ⟨k, h1, h2, h3, _⟩ := (mem_valuesTo _ _ _).1 hm
  exact (mem_column _ _ _ (by omega)).2 ⟨x, h, e⟩
set_option maxRecDepth 100000 in
theorem number_numeral_all : ∀ n : Fin 5000, numberP (numeralP n.1) = (n.1 : Int) := by decide +kernel
theorem number_numeral {n : Nat} (h : n ≤ 4999) : numberP (numeralP n) = (n : Int) := number_numeral_all ⟨n, by omega⟩
theorem numeral_inj {m n : Nat} (hm : m ≤ 4999) (hn : n ≤ 4999) (h : numeralP m = numeralP n) : m = n := by
  have h1 := number_numeral hm
  rw [h, number_numeral hn] at h1
  omega
set_option maxRecDepth 100000 in
theorem numeral_len_all : ∀ n : Fin 5000, (numeralP n.1).length ≤ 19 ∧ (1 ≤ n.1 → 1 ≤ (numeralP n.1).length) := by decide +kernel
def entryErr (e : Ent) : Int :=
  if e.kind < 1 ∨ e.kind > 3 then 8
  else if e.signs.length = 0 ∨ e.signs.length > 19 then 2
  else if e.signs.any (fun c => c != 63 && decide (placeP c < 0)) = true then 2
  else if valuesP e.signs = [] then 11 else 0
def lostP (s : List Int) : Nat := (s.filter (· == 63)).length
def entriesErr : List Ent → Int
  | [] => 0
  | e :: r => if entryErr e = 0 then entriesErr r else entryErr e
def checkA (l : List Ent) : Int :=
  if l.length = 0 then 7 else if l.length > 8 then 6 else if entriesErr l = 0 then (if ((l.map fun e => lostP e.signs).sum) > 5 then 6 else 0) else entriesErr l
theorem entriesErr_zero : ∀ {l : List Ent}, (∀ e ∈ l, entryErr e = 0) → entriesErr l = 0
  | [], _ => rfl
  | e :: r, h => by
    rw [entriesErr, if_pos (h e List.mem_cons_self)]
    exact entriesErr_zero (fun x hx => h x (List.mem_cons_of_mem _ hx))
structure EntOk (e : Ent) (n : Nat) : Prop where
  kind : 1 ≤ e.kind ∧ e.kind ≤ 3
  pos : 1 ≤ n ∧ n ≤ 4999
  fits : fitsP (numeralP n) e.signs = true
theorem sign_place : ∀ c ∈ ([77, 68, 67, 76, 88, 86, 73] : List Int), ¬ placeP c < 0 := by decide
theorem numGo_mem : ∀ (S : List (Int × Nat)) (n : Nat) (c : Int), c ∈ numGo S n → c ∈ S.map (·.1)
  | [], n, c, h => by cases h
  | (b, v) :: r, n, c, h => by
    rw [numGo, List.mem_append] at h
    rw [List.map_cons]
    rcases h with h | h
    · rw [List.eq_of_mem_replicate h]
      exact List.mem_cons_self
    · exact List.mem_cons_of_mem _ (numGo_mem r _ c h)
theorem EntOk.err {e : Ent} {n : Nat} (h : EntOk e n) (hlen : (numeralP n).length ≤ 19 ∧ 1 ≤ (numeralP n).length) : entryErr e = 0 := by
  obtain ⟨f1, f2⟩ := (fits_iff _ _).1 h.fits
  have hk := h.kind
  have hmem : valuesP e.signs ≠ [] := fun hc => by
    have := (mem_valuesTo e.signs (n : Int) 4999).2 ⟨n, h.pos.1, h.pos.2, rfl, h.fits⟩
    rw [valuesP] at hc
    rw [hc] at this
    cases this
  unfold entryErr
  rw [if_neg (by omega), if_neg (by omega), if_neg ?_, if_neg hmem]
  intro hany
  obtain ⟨c, hc, h3⟩ := List.any_eq_true.1 hany
  obtain ⟨i, hi, rfl⟩ := List.getElem_of_mem hc
  simp only [Bool.and_eq_true, bne_iff_ne, decide_eq_true_eq] at h3
  rcases f2 i (by omega) hi with h4 | h4
  · exact h3.1 h4
  · refine sign_place (e.signs[i]) ?_ h3.2
    rw [h4]
    exact numGo_mem signsP n _ (List.getElem_mem _)
theorem account_check {l : List Ent} {vs : List Nat} (h1 : 1 ≤ l.length) (h8 : l.length ≤ 8) (hn : ∀ e ∈ l, ∃ n, EntOk e n) (hlen : ∀ n, 1 ≤ n → n ≤ 4999 → (numeralP n).length ≤ 19 ∧ 1 ≤ (numeralP n).length) (hlost : ((l.map fun e => lostP e.signs).sum) ≤ 5) : checkA l = 0 := by
  unfold checkA
  rw [if_neg (by omega), if_neg (by omega), if_pos (entriesErr_zero (fun e he => by
    obtain ⟨n, hn⟩ := hn e he
    exact hn.err (hlen n hn.pos.1 hn.pos.2))), if_neg (by omega)]
end SumPlain
namespace SumPlain
def rightGo : List Ent → List Int → Int → Int → Bool
  | [], _, _, _ => true
  | e :: l, n :: r, since, sum =>
    if 1 ≤ n ∧ n ≤ 4999 ∧ fitsP (numeralP n.toNat) e.signs = true then
      (if e.kind = 1 then rightGo l r (since + n) (sum + n) else if e.kind = 2 then (if n = since then rightGo l r 0 sum else false) else (if n = sum then rightGo l r since sum else false))
    else false
  | _ :: _, [], _, _ => false
theorem right_iff : ∀ (l : List Ent) (r : List Int) (since sum : Int), r.length = l.length → (rightGo l r since sum = true ↔ Reads (l.map fun e => (e.kind, valuesP e.signs)) since sum r)
  | [], [], _, _, _ => by simp [rightGo, Reads]
  | [], _ :: _, _, _, h => by simp at h
  | e :: l, [], _, _, h => by simp at h
  | e :: l, n :: r, since, sum, h => by
    have hl : r.length = l.length := by simpa using h
    have hmem : n ∈ valuesP e.signs ↔ 1 ≤ n ∧ n ≤ 4999 ∧ fitsP (numeralP n.toNat) e.signs = true := by
      rw [valuesP, mem_valuesTo]
      constructor
      · rintro ⟨k, h1, h2, rfl, h4⟩
        exact ⟨by omega, by omega, by simpa using h4⟩
      · rintro ⟨h1, h2, h3⟩
        exact ⟨n.toNat, by omega, by omega, by omega, h3⟩
    rw [rightGo, List.map_cons, reads_cons, hmem]
    have ih := fun a b => right_iff l r a b hl
    unfold OkAt stepS stepW
    by_cases hc : 1 ≤ n ∧ n ≤ 4999 ∧ fitsP (numeralP n.toNat) e.signs = true
    · rw [if_pos hc]
      by_cases h1 : e.kind = 1
      · simp [h1, hc, ih]
      · by_cases h2 : e.kind = 2
        · by_cases hn : n = since
          · subst hn
            simp only [if_neg h1, if_pos h2, if_true, ih]
            exact ⟨fun h => ⟨hc, trivial, h⟩, fun h => h.2.2⟩
          · simp only [if_neg h1, if_pos h2, if_neg hn]
            exact ⟨(fun h => by cases h), fun h => absurd h.2.1 hn⟩
        · by_cases hn : n = sum
          · subst hn
            simp only [if_neg h1, if_neg h2, if_true, ih]
            exact ⟨fun h => ⟨hc, trivial, h⟩, fun h => h.2.2⟩
          · simp only [if_neg h1, if_neg h2, if_neg hn]
            exact ⟨(fun h => by cases h), fun h => absurd h.2.1 hn⟩
    · rw [if_neg hc]
      exact ⟨(fun h => by cases h), fun h => absurd h.1 hc⟩
theorem fits_same {s p : List Int} (h : fitsP s p = true) (hl : lostP p = 0) : s = p := by
  obtain ⟨h1, h2⟩ := (fits_iff s p).1 h
  refine List.ext_getElem h1 fun i hi hi' => ?_
  rcases h2 i hi hi' with h3 | h3
  · have h4 : p[i] ∈ p.filter (· == 63) := List.mem_filter.2 ⟨List.getElem_mem _, by simp [h3]⟩
    rw [List.length_eq_zero_iff.1 hl] at h4
    cases h4
  · exact h3.symm
theorem values_one {p : List Int} (hl : lostP p = 0) : (valuesP p).length ≤ 1 := by
  have ha := asc_valuesTo p 4999
  have hm := fun x => (mem_valuesTo p x 4999).1
  unfold valuesP
  generalize valuesTo p 4999 = vs at ha hm
  match vs, ha, hm with
  | [], _, _ => simp
  | [_], _, _ => simp
  | a :: b :: r, ha, hm =>
    obtain ⟨k, _, h2, rfl, h4⟩ := hm a List.mem_cons_self
    obtain ⟨k', _, h2', rfl, h4'⟩ := hm b (List.mem_cons_of_mem _ List.mem_cons_self)
    have hlt := (List.pairwise_cons.1 ha).1 _ List.mem_cons_self
    have := numeral_inj h2 h2' ((fits_same h4 hl).trans (fits_same h4' hl).symm)
    omega
theorem valuesTo_le (p : List Int) : ∀ n, (valuesTo p n).length ≤ n
  | 0 => Nat.le_refl _
  | n + 1 => by
    have := valuesTo_le p n
    rw [valuesTo]
    split
    · rw [List.length_append, List.length_singleton]
      omega
    · omega
theorem values_pow (p : List Int) : max 1 (valuesP p).length ≤ 4999 ^ lostP p := by
  cases h : lostP p with
  | zero => have := values_one h; omega
  | succ k =>
    have h1 := valuesTo_le p 4999
    have h2 : 1 ≤ 4999 ^ k := Nat.one_le_pow _ _ (by omega)
    rw [Nat.pow_succ]
    unfold valuesP
    omega
def prodM : List May → Nat
  | [] => 1
  | m :: r => max 1 m.2.length * prodM r
theorem prodM_pos : ∀ es : List May, 1 ≤ prodM es
  | [] => Nat.le_refl _
  | m :: r => by
    have := prodM_pos r
    exact Nat.le_trans this (Nat.le_mul_of_pos_left _ (by omega))
theorem next_length : ∀ (es : List May) (bg : List Int) (s t : Int), (nextP es bg s t).length ≤ prodM es
  | [], _, _, _ => by simp [nextP, prodM]
  | (k, may) :: r, bg, s, t => by
    have ih := next_length r
    have hp := prodM_pos r
    have h1 : prodM r ≤ max 1 may.length * prodM r := Nat.le_mul_of_pos_left _ (by omega)
    rw [nextP, prodM]
    split
    · rw [List.length_flatMap]
      refine Nat.le_trans ?_ (Nat.mul_le_mul_right _ (Nat.le_max_right 1 may.length))
      clear h1
      induction may with
      | nil => simp
      | cons a m ih2 =>
        have h3 := ih (bg ++ [a]) (s + a) (t + a)
        rw [List.map_cons, List.sum_cons, List.length_cons, Nat.succ_mul]
        omega
    · split
      · split
        · exact Nat.le_trans (ih _ _ _) h1
        · simp
      · split
        · exact Nat.le_trans (ih _ _ _) h1
        · simp
theorem prod_pow : ∀ l : List Ent, prodM (l.map fun e => (e.kind, valuesP e.signs)) ≤ 4999 ^ (l.map fun e => lostP e.signs).sum
  | [] => Nat.le_refl _
  | e :: r => by
    have ih := prod_pow r
    have h := values_pow e.signs
    rw [List.map_cons, List.map_cons, prodM, List.sum_cons, Nat.pow_add]
    exact Nat.mul_le_mul h ih
theorem readings_many {l : List Ent} (h : checkA l = 0) : (readingsP l).length ≤ 3121877499950004999 := by
  have h1 : (l.map fun e => lostP e.signs).sum ≤ 5 := by
    unfold checkA at h
    split at h
    · cases h
    · split at h
      · cases h
      · split at h
        · split at h
          · cases h
          · omega
        · rename_i h3
          exact absurd h h3
  have h2 := Nat.le_trans (next_length _ [] 0 0) (prod_pow l)
  have h3 : 4999 ^ (l.map fun e => lostP e.signs).sum ≤ 4999 ^ 5 := Nat.pow_le_pow_right (by omega) h1
  exact Nat.le_trans h2 (Nat.le_trans h3 (by decide))
theorem check_len {l : List Ent} (h : checkA l = 0) : 1 ≤ l.length ∧ l.length ≤ 8 := by
  unfold checkA at h
  split at h
  · cases h
  · split at h
    · cases h
    · omega
abbrev maysP (es : List Ent) : List May := es.map fun e => (e.kind, valuesP e.signs)
def lostSum (es : List Ent) : Nat := (es.map fun e => lostP e.signs).sum
structure AccSo (es : List Ent) (vals : List Int) (sum whole : Int) : Prop where
  len : es.length = vals.length
  reads : Reads (maysP es) 0 0 vals
  fin_ : fin (maysP es) vals 0 0 = (sum, whole)
  ok : ∀ e ∈ es, ∃ n, EntOk e n
  nn : 0 ≤ sum ∧ sum ≤ whole ∧ whole ≤ 4999
theorem AccSo.nil : AccSo [] [] 0 0 := ⟨rfl, trivial, rfl, fun e he => absurd he List.not_mem_nil, by omega⟩
def KindOk (kd n sum whole : Int) : Prop := (kd = 1 ∧ 1 ≤ n ∧ whole + n ≤ 4999) ∨ (kd = 2 ∧ n = sum ∧ 0 < sum) ∨ (kd = 3 ∧ n = whole ∧ 0 < whole)
theorem AccSo.step {es : List Ent} {vals : List Int} {sum whole kd n : Int} {cs : List Int} (h : AccSo es vals sum whole) (hk : KindOk kd n sum whole) (hf : fitsP (numeralP n.toNat) cs = true) :
    AccSo (es ++ [⟨kd, cs⟩]) (vals ++ [n]) (stepS kd n sum) (stepW kd n whole) := by
  have hnn := h.nn
  have hn : 1 ≤ n ∧ n ≤ 4999 := by rcases hk with h | h | h <;> omega
  have hkd : 1 ≤ kd ∧ kd ≤ 3 := by rcases hk with h | h | h <;> omega
  have hmem : n ∈ valuesP cs := by
    rw [valuesP, mem_valuesTo]
    exact ⟨n.toNat, by omega, by omega, by omega, hf⟩
  have hok : OkAt kd n sum whole := by
    unfold OkAt
    rcases hk with ⟨h1, _⟩ | ⟨h1, h2, _⟩ | ⟨h1, h2, _⟩
    · rw [if_pos h1]; trivial
    · rw [if_neg (by omega), if_pos h1]; exact h2
    · rw [if_neg (by omega), if_neg (by omega)]; exact h2
  have e : maysP (es ++ [⟨kd, cs⟩]) = maysP es ++ [(kd, valuesP cs)] := by simp [maysP]
  refine ⟨by simp [h.len], ?_, ?_, fun x hx => ?_, ?_⟩
  · rw [e]
    exact reads_snoc h.reads kd n _ hmem (by rw [h.fin_]; exact hok)
  · rw [e, fin_snoc 0 0 (by simp [maysP, h.len]) kd n _, h.fin_]
  · rcases List.mem_append.1 hx with hx | hx
    · exact h.ok x hx
    · rw [List.mem_singleton.1 hx]
      exact ⟨n.toNat, hkd, by omega, hf⟩
  · unfold stepS stepW
    rcases hk with ⟨h1, h2, h3⟩ | ⟨h1, h2, h3⟩ | ⟨h1, h2, h3⟩
    · rw [if_pos h1, if_pos h1]; omega
    · rw [if_neg (by omega), if_pos h1, if_neg (by omega)]; omega
    · rw [if_neg (by omega), if_neg (by omega), if_neg (by omega)]; omega
theorem lostSum_snoc (es : List Ent) (e : Ent) : lostSum (es ++ [e]) = lostSum es + lostP e.signs := by simp [lostSum]
theorem numeral_len2 (n : Nat) (h1 : 1 ≤ n) (h2 : n ≤ 4999) : (numeralP n).length ≤ 19 ∧ 1 ≤ (numeralP n).length :=
  ⟨(numeral_len_all ⟨n, by omega⟩).1, (numeral_len_all ⟨n, by omega⟩).2 h1⟩
theorem AccSo.check {es : List Ent} {vals : List Int} {sum whole : Int} (h : AccSo es vals sum whole) (h1 : 1 ≤ es.length) (h8 : es.length ≤ 8) (hl : lostSum es ≤ 5) : checkA es = 0 := account_check (vs := []) h1 h8 h.ok numeral_len2 hl
theorem AccSo.reading {es : List Ent} {vals : List Int} {sum whole : Int} (h : AccSo es vals sum whole) : vals ∈ readingsP es := (mem_readings es vals).2 h.reads
structure SignSo (n : Nat) (k : Nat) (cs : List Int) (d : Nat) : Prop where
  fits : fitsP (numeralP n) cs = true
  rest : ∀ j, k ≤ j → j < cs.length → cs.getD j 0 = (numeralP n).getD j 0
  lost : lostP cs = d
theorem numeral_no63 (n : Nat) (c : Int) (h : c ∈ numeralP n) : c ≠ 63 := by
  have h1 := numGo_mem signsP n c h
  intro e
  rw [e] at h1
  exact absurd h1 (by decide)
theorem SignSo.start (n : Nat) : SignSo n 0 (numeralP n) 0 := by
  refine ⟨(fits_iff _ _).2 ⟨rfl, fun i h h' => .inr rfl⟩, fun j _ _ => rfl, ?_⟩
  unfold lostP
  rw [List.length_eq_zero_iff, List.filter_eq_nil_iff]
  intro c hc
  have := numeral_no63 n c hc
  simpa using this
theorem SignSo.skip {n k d : Nat} {cs : List Int} (h : SignSo n k cs d) : SignSo n (k + 1) cs d := ⟨h.fits, fun j hj hl => h.rest j (by omega) hl, h.lost⟩
theorem lost_set : ∀ (cs : List Int) (k : Nat) (h : k < cs.length), cs[k] ≠ 63 → lostP (cs.set k 63) = lostP cs + 1
  | [], k, h, _ => by simp at h
  | c :: cs, 0, h, hne => by
    have hc : (c == 63) = false := by simpa using hne
    simp [lostP, List.filter_cons, hc]
  | c :: cs, k + 1, h, hne => by
    have ih := lost_set cs k (by simpa using h) (by simpa using hne)
    simp only [List.set_cons_succ, lostP, List.filter_cons] at ih ⊢
    by_cases hc : (c == 63) = true
    · simp only [hc, if_true, List.length_cons] at ih ⊢; omega
    · simp only [hc, if_false] at ih ⊢; exact ih
theorem SignSo.strike {n k d : Nat} {cs : List Int} (h : SignSo n k cs d) (hk : k < cs.length) : SignSo n (k + 1) (cs.set k 63) (d + 1) := by
  obtain ⟨f1, f2⟩ := (fits_iff _ _).1 h.fits
  refine ⟨(fits_iff _ _).2 ⟨by rw [List.length_set]; exact f1, fun i h1 h2 => ?_⟩, fun j hj hl => ?_, ?_⟩
  · rw [List.length_set] at h2
    by_cases hik : k = i
    · subst hik
      exact .inl (by simp)
    · rw [List.getElem_set_ne hik]
      exact f2 i h1 h2
  · rw [List.length_set] at hl
    have := h.rest j (by omega) hl
    rw [List.getD_eq_getElem?_getD, List.getElem?_set_ne (by omega), ← List.getD_eq_getElem?_getD]
    exact this
  · rw [lost_set cs k hk, h.lost]
    have hr := h.rest k (Nat.le_refl _) hk
    rw [List.getD_eq_getElem?_getD, List.getElem?_eq_getElem hk, List.getD_eq_getElem?_getD, List.getElem?_eq_getElem (by omega)] at hr
    have hr' : cs[k] = (numeralP n)[k] := hr
    rw [hr']
    exact numeral_no63 n _ (List.getElem_mem _)
theorem reads_swap {a b : May} {s : List May} (ha : a.1 = 1) (hb : b.1 = 1) : ∀ (p : List May) (since sum : Int) (tp ts : List Int) (m n : Int), tp.length = p.length → Reads (p ++ a :: b :: s) since sum (tp ++ m :: n :: ts) → Reads (p ++ b :: a :: s) since sum (tp ++ n :: m :: ts)
  | [], since, sum, [], ts, m, n, _, h => by
    obtain ⟨ka, ma⟩ := a
    obtain ⟨kb, mb⟩ := b
    dsimp only at ha hb
    subst ha hb
    rw [List.nil_append, List.nil_append] at h ⊢
    obtain ⟨h1, _, h2⟩ := reads_cons.1 h
    obtain ⟨h3, _, h4⟩ := reads_cons.1 h2
    refine reads_cons.2 ⟨h3, by unfold OkAt; rw [if_pos rfl]; trivial, reads_cons.2 ⟨h1, by unfold OkAt; rw [if_pos rfl]; trivial, ?_⟩⟩
    unfold stepS stepW at h4 ⊢
    simp only [if_true] at h4 ⊢
    rw [show since + n + m = since + m + n by omega, show sum + n + m = sum + m + n by omega]
    exact h4
  | [], _, _, _ :: _, _, _, _, h, _ => by simp at h
  | _ :: _, _, _, [], _, _, _, h, _ => by simp at h
  | (k, may) :: p, since, sum, x :: tp, ts, m, n, hl, h => by
    rw [List.cons_append, List.cons_append] at h ⊢
    obtain ⟨h1, h2, h3⟩ := reads_cons.1 h
    exact reads_cons.2 ⟨h1, h2, reads_swap ha hb p _ _ tp ts m n (by simpa using hl) h3⟩
def swapL {α : Type} (l : List α) (at_ : Nat) (d : α) : List α := (l.set at_ (l.getD (at_ + 1) d)).set (at_ + 1) (l.getD at_ d)
theorem swap_split {α : Type} (l : List α) (k : Nat) (d : α) (h : k + 1 < l.length) : l = l.take k ++ l.getD k d :: l.getD (k + 1) d :: l.drop (k + 2) ∧ swapL l k d = l.take k ++ l.getD (k + 1) d :: l.getD k d :: l.drop (k + 2) := by
  have e1 : l.getD k d = l[k] := by rw [List.getD_eq_getElem?_getD, List.getElem?_eq_getElem (by omega)]; rfl
  have e2 : l.getD (k + 1) d = l[k + 1] := by rw [List.getD_eq_getElem?_getD, List.getElem?_eq_getElem h]; rfl
  have h1 : l = l.take k ++ l[k] :: l[k + 1] :: l.drop (k + 2) := by
    rw [← List.drop_eq_getElem_cons h, ← List.drop_eq_getElem_cons (by omega), List.take_append_drop]
  rw [swapL, e1, e2]
  refine ⟨h1, ?_⟩
  have hk : (l.take k).length = k := by rw [List.length_take]; omega
  generalize l[k] = x at h1 ⊢
  generalize l[k + 1] = y at h1 ⊢
  generalize l.take k = p at h1 hk ⊢
  generalize l.drop (k + 2) = s at h1 ⊢
  subst h1 hk
  rw [List.set_append_right _ _ (Nat.le_refl _), Nat.sub_self, List.set_append_right _ _ (by omega), show p.length + 1 - p.length = 1 by omega]
  rfl
theorem read_swap {p s : List May} {a b : May} (ha : a.1 = 1) (hb : b.1 = 1) {r : List Int} (h : Reads (p ++ a :: b :: s) 0 0 r) :
    ∃ r', Reads (p ++ b :: a :: s) 0 0 r' ∧ (∀ i, i ≠ p.length → i ≠ p.length + 1 → r'.getD i (-1) = r.getD i (-1)) ∧ r'.getD p.length (-1) = r.getD (p.length + 1) (-1) ∧ r'.getD (p.length + 1) (-1) = r.getD p.length (-1) := by
  have hl := h.length
  rw [List.length_append, List.length_cons, List.length_cons] at hl
  have hs := (swap_split r p.length (-1) (by omega)).1
  have hk : (r.take p.length).length = p.length := by rw [List.length_take]; omega
  generalize r.getD p.length (-1) = m at hs
  generalize r.getD (p.length + 1) (-1) = n at hs
  generalize r.take p.length = tp at hs hk
  generalize r.drop (p.length + 2) = ts at hs
  subst hs
  refine ⟨tp ++ n :: m :: ts, reads_swap ha hb p 0 0 tp ts m n hk h, fun i h1 h2 => ?_, ?_, ?_⟩
  · simp only [List.getD_eq_getElem?_getD]
    by_cases hi : i < tp.length
    · rw [List.getElem?_append_left hi, List.getElem?_append_left hi]
    · rw [List.getElem?_append_right (by omega), List.getElem?_append_right (by omega)]
      obtain ⟨j, hj⟩ : ∃ j, i - tp.length = j + 2 := ⟨i - tp.length - 2, by omega⟩
      rw [hj]
      rfl
  · simp only [List.getD_eq_getElem?_getD]
    rw [List.getElem?_append_right (by omega), ← hk, Nat.sub_self]
    rfl
  · simp only [List.getD_eq_getElem?_getD]
    rw [List.getElem?_append_right (by omega), ← hk, show tp.length + 1 - tp.length = 1 by omega]
    rfl
def movedTo (k i : Nat) : Nat := if i = k then k + 1 else if i = k + 1 then k else i
theorem column_congr {rs rs' : List (List Int)} {i i' : Nat} (h : ∀ v, (∃ r ∈ rs, r.getD i (-1) = v) ↔ ∃ r ∈ rs', r.getD i' (-1) = v) : columnP rs i = columnP rs' i' := by
  unfold columnP
  congr 1
  funext v
  rw [Bool.eq_iff_iff, List.any_eq_true, List.any_eq_true]
  simpa using h v
theorem moved_column (l : List Ent) (k : Nat) (d : Ent) (h : k + 1 < l.length) (h1 : (l.getD k d).kind = 1) (h2 : (l.getD (k + 1) d).kind = 1) (i : Nat) : columnP (readingsP l) i = columnP (readingsP (swapL l k d)) (movedTo k i) := by
  obtain ⟨e1, e2⟩ := swap_split l k d h
  have hk : (l.take k).length = k := by rw [List.length_take]; omega
  rw [e2]
  conv => lhs; rw [e1]
  generalize l.getD k d = a at h1
  generalize l.getD (k + 1) d = b at h2
  generalize l.take k = p at hk
  generalize l.drop (k + 2) = s
  have key : ∀ (a b : Ent), a.kind = 1 → b.kind = 1 → ∀ v i, (∃ r ∈ readingsP (p ++ a :: b :: s), r.getD i (-1) = v) → ∃ r ∈ readingsP (p ++ b :: a :: s), r.getD (movedTo k i) (-1) = v := by
    intro a b ha hb v i
    rintro ⟨r, hr, hv⟩
    rw [mem_readings, List.map_append, List.map_cons, List.map_cons] at hr
    obtain ⟨r', hr', g1, g2, g3⟩ := read_swap (a := (a.kind, valuesP a.signs)) (b := (b.kind, valuesP b.signs)) ha hb hr
    rw [List.length_map, hk] at g1 g2 g3
    refine ⟨r', by rw [mem_readings, List.map_append, List.map_cons, List.map_cons]; exact hr', ?_⟩
    unfold movedTo
    by_cases c1 : i = k
    · rw [if_pos c1, g3, ← c1, hv]
    · rw [if_neg c1]
      by_cases c2 : i = k + 1
      · rw [if_pos c2, g2, ← c2, hv]
      · rw [if_neg c2, g1 i c1 c2, hv]
  have hmm : movedTo k (movedTo k i) = i := by
    unfold movedTo
    by_cases c1 : i = k
    · subst c1; simp
    · by_cases c2 : i = k + 1
      · subst c2; simp
      · simp [c1, c2]
  refine column_congr fun v => ⟨key a b h1 h2 v i, fun h => ?_⟩
  have := key b a h2 h1 v _ h
  rwa [hmm] at this
theorem entriesErr_all : ∀ {l : List Ent}, entriesErr l = 0 → ∀ e ∈ l, entryErr e = 0
  | [], _, e, he => by cases he
  | x :: r, h, e, he => by
    rw [entriesErr] at h
    by_cases hx : entryErr x = 0
    · rw [if_pos hx] at h
      rcases List.mem_cons.1 he with rfl | he
      · exact hx
      · exact entriesErr_all h e he
    · rw [if_neg hx] at h
      exact absurd h hx
theorem checkA_zero {l : List Ent} : checkA l = 0 ↔ 1 ≤ l.length ∧ l.length ≤ 8 ∧ (∀ e ∈ l, entryErr e = 0) ∧ (l.map fun e => lostP e.signs).sum ≤ 5 := by
  unfold checkA
  constructor
  · intro h
    split at h
    · cases h
    · split at h
      · cases h
      · split at h
        · rename_i h3
          split at h
          · cases h
          · exact ⟨by omega, by omega, entriesErr_all h3, by omega⟩
        · rename_i h3
          exact absurd h h3
  · rintro ⟨h1, h2, h3, h4⟩
    rw [if_neg (by omega), if_neg (by omega), if_pos (entriesErr_zero h3), if_neg (by omega)]
theorem moved_none (l : List Ent) (k : Nat) (d : Ent) (h : k + 1 < l.length) (h1 : (l.getD k d).kind = 1) (h2 : (l.getD (k + 1) d).kind = 1) (hr : readingsP l ≠ []) : readingsP (swapL l k d) ≠ [] := by
  obtain ⟨r, hr⟩ := List.exists_mem_of_ne_nil _ hr
  have hm := reading_in_column hr k (by omega)
  rw [moved_column l k d h h1 h2 k] at hm
  intro e
  rw [e] at hm
  have := (List.mem_filter.1 hm).2
  simp at this
def lexLtB : List Int → List Int → Bool
  | a :: r, b :: s => decide (a < b) || (decide (a = b) && lexLtB r s)
  | _, _ => false
theorem lexLtB_iff : ∀ a b, lexLtB a b = true ↔ lexLt a b
  | [], [] => by simp [lexLtB, lexLt]
  | [], _ :: _ => by simp [lexLtB, lexLt]
  | _ :: _, [] => by simp [lexLtB, lexLt]
  | a :: r, b :: s => by simp [lexLtB, lexLt, lexLtB_iff r s]
theorem lexLt_irrefl : ∀ a, ¬ lexLt a a
  | [], h => h
  | a :: r, h => by
    rcases h with h | ⟨_, h⟩
    · omega
    · exact lexLt_irrefl r h
theorem lexLt_trans : ∀ a b c, lexLt a b → lexLt b c → lexLt a c
  | [], b, c, h, _ => by cases b <;> exact h.elim
  | a :: r, [], c, h, _ => h.elim
  | a :: r, b :: s, [], _, h => h.elim
  | a :: r, b :: s, c :: t, h1, h2 => by
    rcases h1 with h1 | ⟨h1, h1'⟩ <;> rcases h2 with h2 | ⟨h2, h2'⟩
    · exact .inl (by omega)
    · exact .inl (by omega)
    · exact .inl (by omega)
    · exact .inr ⟨by omega, lexLt_trans r s t h1' h2'⟩
def fewer (a b : List Int) : Bool := decide (a.length < b.length) || (decide (a.length = b.length) && lexLtB a b)
theorem fewer_iff (a b : List Int) : fewer a b = true ↔ a.length < b.length ∨ a.length = b.length ∧ lexLt a b := by simp [fewer, lexLtB_iff]
theorem fewer_trans {a b c : List Int} (h : fewer a b = true) (h' : fewer b c = true) : fewer a c = true := by
  rw [fewer_iff] at *
  rcases h with h | ⟨h, h1⟩ <;> rcases h' with h' | ⟨h', h2⟩
  · exact .inl (by omega)
  · exact .inl (by omega)
  · exact .inl (by omega)
  · exact .inr ⟨by omega, lexLt_trans _ _ _ h1 h2⟩
theorem fewer_irrefl (a : List Int) : fewer a a = false := by
  rw [Bool.eq_false_iff, ne_eq, fewer_iff]
  rintro (h | ⟨_, h⟩)
  · omega
  · exact lexLt_irrefl a h
def strikeStep (ok : List Int → Bool) (best : Option (List Int)) (c : List Int) : Option (List Int) :=
  match best with
  | some b => if fewer c b = true then (if ok c = true then some c else some b) else some b
  | none => if ok c = true then some c else none
theorem strike_fold (ok : List Int → Bool) : ∀ (cs : List (List Int)) (b : Option (List Int)),
    (∀ r, cs.foldl (strikeStep ok) b = some r → (b = some r ∨ r ∈ cs ∧ ok r = true) ∧ (∀ c ∈ cs, ok c = true → fewer c r = false) ∧ (∀ b', b = some b' → b' = r ∨ fewer r b' = true)) ∧
    (cs.foldl (strikeStep ok) b = none → b = none ∧ ∀ c ∈ cs, ok c = false)
  | [], b => by
    refine ⟨fun r h => ⟨.inl h, fun c hc => absurd hc List.not_mem_nil, fun b' hb' => .inl ?_⟩, fun h => ⟨h, fun c hc => absurd hc List.not_mem_nil⟩⟩
    have h' : b = some r := h
    rw [hb'] at h'
    injection h'
  | c :: cs, b => by
    rw [List.foldl_cons]
    obtain ⟨h1, h2⟩ := strike_fold ok cs (strikeStep ok b c)
    constructor
    · intro r hr
      obtain ⟨h3, h4, h5⟩ := h1 r hr
      cases b with
      | none =>
        by_cases hc : ok c = true
        · have e : strikeStep ok none c = some c := by simp [strikeStep, hc]
          rw [e] at h3 h5
          refine ⟨.inr ?_, fun x hx hok => ?_, fun b' hb' => by cases hb'⟩
          · rcases h3 with h3 | h3
            · injection h3 with h3
              subst h3
              exact ⟨List.mem_cons_self, hc⟩
            · exact ⟨List.mem_cons_of_mem _ h3.1, h3.2⟩
          · rcases List.mem_cons.1 hx with rfl | hx
            · rcases h5 x rfl with rfl | h6
              · exact fewer_irrefl _
              · rw [Bool.eq_false_iff]
                intro h7
                have := fewer_trans h7 h6
                rw [fewer_irrefl] at this
                cases this
            · exact h4 x hx hok
        · have e : strikeStep ok none c = none := by simp [strikeStep, hc]
          rw [e] at h3 h5
          refine ⟨.inr ?_, fun x hx hok => ?_, fun b' hb' => by cases hb'⟩
          · rcases h3 with h3 | h3
            · cases h3
            · exact ⟨List.mem_cons_of_mem _ h3.1, h3.2⟩
          · rcases List.mem_cons.1 hx with rfl | hx
            · exact absurd hok hc
            · exact h4 x hx hok
      | some b0 =>
        by_cases hf : fewer c b0 = true
        · by_cases hc : ok c = true
          · have e : strikeStep ok (some b0) c = some c := by simp [strikeStep, hc, hf]
            rw [e] at h3 h5
            refine ⟨.inr ?_, fun x hx hok => ?_, fun b' hb' => ?_⟩
            · rcases h3 with h3 | h3
              · injection h3 with h3
                subst h3
                exact ⟨List.mem_cons_self, hc⟩
              · exact ⟨List.mem_cons_of_mem _ h3.1, h3.2⟩
            · rcases List.mem_cons.1 hx with rfl | hx
              · rcases h5 x rfl with rfl | h6
                · exact fewer_irrefl _
                · rw [Bool.eq_false_iff]
                  intro h7
                  have := fewer_trans h7 h6
                  rw [fewer_irrefl] at this
                  cases this
              · exact h4 x hx hok
            · injection hb' with hb'
              subst hb'
              rcases h5 c rfl with rfl | h6
              · exact .inr hf
              · exact .inr (fewer_trans h6 hf)
          · have e : strikeStep ok (some b0) c = some b0 := by simp [strikeStep, hc, hf]
            rw [e] at h3 h5
            refine ⟨?_, fun x hx hok => ?_, h5⟩
            · rcases h3 with h3 | h3
              · exact .inl h3
              · exact .inr ⟨List.mem_cons_of_mem _ h3.1, h3.2⟩
            · rcases List.mem_cons.1 hx with rfl | hx
              · exact absurd hok hc
              · exact h4 x hx hok
        · have e : strikeStep ok (some b0) c = some b0 := by simp [strikeStep, hf]
          rw [e] at h3 h5
          refine ⟨?_, fun x hx hok => ?_, h5⟩
          · rcases h3 with h3 | h3
            · exact .inl h3
            · exact .inr ⟨List.mem_cons_of_mem _ h3.1, h3.2⟩
          · rcases List.mem_cons.1 hx with rfl | hx
            · rcases h5 b0 rfl with rfl | h6
              · exact Bool.eq_false_iff.2 hf
              · rw [Bool.eq_false_iff]
                exact fun h7 => hf (fewer_trans h7 h6)
            · exact h4 x hx hok
    · intro h
      obtain ⟨h3, h4⟩ := h2 h
      cases b with
      | none =>
        by_cases hc : ok c = true
        · simp [strikeStep, hc] at h3
        · refine ⟨rfl, fun x hx => ?_⟩
          rcases List.mem_cons.1 hx with rfl | hx
          · exact Bool.eq_false_iff.2 hc
          · exact h4 x hx
      | some b0 =>
        exfalso
        unfold strikeStep at h3
        by_cases hf : fewer c b0 = true
        · by_cases hc : ok c = true <;> simp [hf, hc] at h3
        · simp [hf] at h3
def listsP : Nat → Nat → Nat → List (List Int)
  | _, _, 0 => [[]]
  | 0, _, _ + 1 => []
  | d + 1, n, m + 1 => ((listsP d n m).map fun r => ((n - (d + 1) : Nat) : Int) :: r) ++ listsP d n (m + 1)
def allLists (n : Nat) : List (List Int) := (List.range n).flatMap fun m => listsP n n m
def setL' (n s : Nat) : List Int := ((List.range n).filter fun i : Nat => s.testBit i).map fun i : Nat => (i : Int)
def sets (n : Nat) : List (List Int) := (List.range (2 ^ n - 1)).map (setL' n)
theorem lists_asc : ∀ n : Fin 6, (allLists n.1).Pairwise (fun a b => fewer a b = true) := by decide +kernel
theorem lists_sets : ∀ n : Fin 6, (∀ c ∈ allLists n.1, c ∈ sets n.1) ∧ ∀ c ∈ sets n.1, c ∈ allLists n.1 := by decide +kernel
theorem fewer_total : ∀ n : Fin 6, ∀ a ∈ allLists n.1, ∀ b ∈ allLists n.1, a = b ∨ fewer a b = true ∨ fewer b a = true := by decide +kernel
theorem strike_find (n : Nat) (hn : n < 6) (ok : List Int → Bool) : (sets n).foldl (strikeStep ok) none = (allLists n).find? ok := by
  obtain ⟨h1, h2⟩ := strike_fold ok (sets n) none
  obtain ⟨s1, s2⟩ := lists_sets ⟨n, hn⟩
  have ha := lists_asc ⟨n, hn⟩
  have ht := fewer_total ⟨n, hn⟩
  dsimp only at s1 s2 ha ht
  cases hf : (allLists n).find? ok with
  | none =>
    rw [List.find?_eq_none] at hf
    cases hs : (sets n).foldl (strikeStep ok) none with
    | none => rfl
    | some r =>
      obtain ⟨h3, _, _⟩ := h1 r hs
      rcases h3 with h3 | ⟨h3, h4⟩
      · cases h3
      · exact absurd h4 (hf r (s2 r h3))
  | some x =>
    obtain ⟨hx, p, q, hpq, hp⟩ := List.find?_eq_some_iff_append.1 hf
    have hxm : x ∈ allLists n := by rw [hpq]; simp
    cases hs : (sets n).foldl (strikeStep ok) none with
    | none =>
      have := (h2 hs).2 x (s1 x hxm)
      rw [hx] at this
      cases this
    | some r =>
      obtain ⟨h3, h4, _⟩ := h1 r hs
      rcases h3 with h3 | ⟨h3, h5⟩
      · cases h3
      · have hrm := s2 r h3
        have hxr := h4 x (s1 x hxm) hx
        rcases ht r hrm x hxm with h6 | h6 | h6
        · rw [h6]
        · exfalso
          rw [hpq] at hrm ha
          rcases List.mem_append.1 hrm with h7 | h7
          · have := hp r h7
            rw [h5] at this
            cases this
          · have ha2 := (List.pairwise_append.1 ha).2.1
            rcases List.mem_cons.1 h7 with rfl | h7
            · rw [fewer_irrefl] at h6
              cases h6
            · have := (List.pairwise_cons.1 ha2).1 r h7
              have := fewer_trans h6 this
              rw [fewer_irrefl] at this
              cases this
        · rw [h6] at hxr
          cases hxr
def Adds : List Int → Int → Int → List Int → Prop
  | [], _, _, [] => True
  | k :: ks, s, t, n :: r => OkAt k n s t ∧ Adds ks (stepS k n s) (stepW k n t) r
  | _, _, _, _ => False
theorem reads_adds : ∀ (es : List May) (s t : Int) (r : List Int), Reads es s t r ↔ r.length = es.length ∧ (∀ i, i < es.length → r.getD i (-1) ∈ (es.getD i (0, [])).2) ∧ Adds (es.map (·.1)) s t r
  | [], s, t, [] => by simp [Reads, Adds]
  | [], s, t, _ :: _ => by simp [Reads, Adds]
  | _ :: _, s, t, [] => by simp [Reads, Adds]
  | (k, may) :: es, s, t, n :: r => by
    rw [reads_cons, reads_adds es]
    constructor
    · rintro ⟨h1, h2, h3, h4, h5⟩
      refine ⟨by simp [h3], fun i hi => ?_, h2, h5⟩
      cases i with
      | zero => exact h1
      | succ i => exact h4 i (by simpa using hi)
    · rintro ⟨h1, h2, h3, h4⟩
      exact ⟨h2 0 (by simp), h3, by simpa using h1, fun i hi => h2 (i + 1) (by simpa using hi), h4⟩
abbrev sgnsP : List Int := [77, 68, 67, 76, 88, 86, 73]
abbrev noEnt : Ent := ⟨0, []⟩
theorem mem_adds (l : List Ent) (r : List Int) : r ∈ readingsP l ↔ r.length = l.length ∧ (∀ i, i < l.length → r.getD i (-1) ∈ valuesP (l.getD i noEnt).signs) ∧ Adds (l.map (·.kind)) 0 0 r := by
  rw [mem_readings, reads_adds, List.length_map, List.map_map]
  have e : ∀ i, i < l.length → ((l.map fun e => (e.kind, valuesP e.signs)).getD i (0, [])).2 = valuesP (l.getD i noEnt).signs := fun i hi => by
    simp [List.getD_eq_getElem?_getD, List.getElem?_eq_getElem hi]
  constructor
  · rintro ⟨h1, h2, h3⟩
    exact ⟨h1, fun i hi => e i hi ▸ h2 i hi, h3⟩
  · rintro ⟨h1, h2, h3⟩
    exact ⟨h1, fun i hi => (e i hi).symm ▸ h2 i hi, h3⟩
theorem fits_set {s p : List Int} {c : Int} {k : Nat} (hk : k < p.length) (h63 : p.getD k 0 = 63) (hc : c ≠ 63) : fitsP s (p.set k c) = true ↔ fitsP s p = true ∧ s.getD k 0 = c := by
  have e63 : p[k] = 63 := by
    rw [← h63, List.getD_eq_getElem?_getD, List.getElem?_eq_getElem hk]
    rfl
  rw [fits_iff, fits_iff]
  have hls : (p.set k c).length = p.length := List.length_set
  constructor
  · rintro ⟨h1, h2⟩
    rw [hls] at h1
    refine ⟨⟨h1, fun i hi hi' => ?_⟩, ?_⟩
    · by_cases hik : k = i
      · subst hik
        exact .inl e63
      · have := h2 i hi (by rw [List.length_set]; exact hi')
        rwa [List.getElem_set_ne hik] at this
    · have := h2 k (by omega) (by rw [List.length_set]; exact hk)
      rw [List.getElem_set_self] at this
      rw [List.getD_eq_getElem?_getD, List.getElem?_eq_getElem (by omega)]
      rcases this with h | h
      · exact absurd h hc
      · exact h.symm
  · rintro ⟨⟨h1, h2⟩, h3⟩
    refine ⟨h1.trans hls.symm, fun i hi hi' => ?_⟩
    by_cases hik : k = i
    · subst hik
      rw [List.getElem_set_self]
      rw [List.getD_eq_getElem?_getD, List.getElem?_eq_getElem (by omega)] at h3
      exact .inr h3.symm
    · rw [List.getElem_set_ne hik]
      exact h2 i hi (by rw [List.length_set] at hi'; exact hi')
theorem mem_values (p : List Int) (x : Int) : x ∈ valuesP p ↔ 1 ≤ x ∧ x ≤ 4999 ∧ fitsP (numeralP x.toNat) p = true := by
  rw [valuesP, mem_valuesTo]
  constructor
  · rintro ⟨k, h1, h2, rfl, h4⟩
    exact ⟨by omega, by omega, by simpa using h4⟩
  · rintro ⟨h1, h2, h3⟩
    exact ⟨x.toNat, by omega, by omega, by omega, h3⟩
theorem values_set {p : List Int} {c : Int} {k : Nat} (hk : k < p.length) (h63 : p.getD k 0 = 63) (hc : c ≠ 63) (x : Int) : x ∈ valuesP (p.set k c) ↔ x ∈ valuesP p ∧ (numeralP x.toNat).getD k 0 = c := by
  rw [mem_values, mem_values, fits_set hk h63 hc]
  constructor
  · rintro ⟨h1, h2, h3, h4⟩
    exact ⟨⟨h1, h2, h3⟩, h4⟩
  · rintro ⟨⟨h1, h2, h3⟩, h4⟩
    exact ⟨h1, h2, h3, h4⟩
def putSign (l : List Ent) (i k : Nat) (c : Int) : List Ent := l.set i ⟨(l.getD i noEnt).kind, (l.getD i noEnt).signs.set k c⟩
theorem put_len (l : List Ent) (i k : Nat) (c : Int) : (putSign l i k c).length = l.length := by simp [putSign]
theorem put_at (l : List Ent) {i : Nat} (k : Nat) (c : Int) (hi : i < l.length) (j : Nat) : (putSign l i k c).getD j noEnt = if j = i then ⟨(l.getD i noEnt).kind, (l.getD i noEnt).signs.set k c⟩ else l.getD j noEnt := by
  unfold putSign
  by_cases h : j = i
  · subst h
    rw [if_pos rfl, List.getD_eq_getElem?_getD, List.getElem?_set_self hi]
    rfl
  · rw [if_neg h, List.getD_eq_getElem?_getD, List.getElem?_set_ne (Ne.symm h), ← List.getD_eq_getElem?_getD]
theorem put_kinds (l : List Ent) {i : Nat} (k : Nat) (c : Int) (hi : i < l.length) : (putSign l i k c).map (·.kind) = l.map (·.kind) := by
  unfold putSign
  rw [List.map_set]
  refine List.ext_getElem (by simp) fun j h1 h2 => ?_
  by_cases h : i = j
  · subst h
    rw [List.getElem_set_self, List.getElem_map]
    simp [List.getD_eq_getElem?_getD, List.getElem?_eq_getElem hi]
  · rw [List.getElem_set_ne h]
structure Lost (l : List Ent) (i k : Nat) : Prop where
  hi : i < l.length
  hk : k < (l.getD i noEnt).signs.length
  hq : (l.getD i noEnt).signs.getD k 0 = 63
theorem put_reads {l : List Ent} {i k : Nat} (h : Lost l i k) {c : Int} (hc : c ≠ 63) (r : List Int) : r ∈ readingsP (putSign l i k c) ↔ r ∈ readingsP l ∧ (numeralP (r.getD i (-1)).toNat).getD k 0 = c := by
  rw [mem_adds, mem_adds, put_len, put_kinds l k c h.hi]
  constructor
  · rintro ⟨h1, h2, h3⟩
    refine ⟨⟨h1, fun j hj => ?_, h3⟩, ?_⟩
    · have := h2 j hj
      rw [put_at l k c h.hi] at this
      by_cases e : j = i
      · subst e
        rw [if_pos rfl] at this
        exact ((values_set h.hk h.hq hc _).1 this).1
      · rwa [if_neg e] at this
    · have := h2 i h.hi
      rw [put_at l k c h.hi, if_pos rfl] at this
      exact ((values_set h.hk h.hq hc _).1 this).2
  · rintro ⟨⟨h1, h2, h3⟩, h4⟩
    refine ⟨h1, fun j hj => ?_, h3⟩
    rw [put_at l k c h.hi]
    by_cases e : j = i
    · subst e
      rw [if_pos rfl]
      exact (values_set h.hk h.hq hc _).2 ⟨h2 _ hj, h4⟩
    · rw [if_neg e]
      exact h2 j hj
theorem lexLt_ne : ∀ {a : List Int}, ¬ lexLt a a
  | [], h => h
  | a :: r, h => by
    rcases h with h | ⟨_, h⟩
    · omega
    · exact lexLt_ne h
theorem lexLt_asymm : ∀ {a b : List Int}, lexLt a b → ¬ lexLt b a
  | [], [], h, _ => h
  | [], _ :: _, h, _ => h
  | _ :: _, [], h, _ => h
  | a :: r, b :: s, h, h' => by
    rcases h with h | ⟨rfl, h⟩ <;> rcases h' with h' | ⟨h1, h'⟩
    · omega
    · omega
    · omega
    · exact lexLt_asymm h h'
theorem asc_eq : ∀ {a b : List (List Int)}, a.Pairwise lexLt → b.Pairwise lexLt → (∀ x, x ∈ a ↔ x ∈ b) → a = b
  | [], [], _, _, _ => rfl
  | [], y :: b, _, _, h => by have := (h y).2 List.mem_cons_self; cases this
  | x :: a, [], _, _, h => by have := (h x).1 List.mem_cons_self; cases this
  | x :: a, y :: b, ha, hb, h => by
    obtain ⟨ha1, ha2⟩ := List.pairwise_cons.1 ha
    obtain ⟨hb1, hb2⟩ := List.pairwise_cons.1 hb
    have hxy : x = y := by
      rcases List.mem_cons.1 ((h x).1 List.mem_cons_self) with h1 | h1
      · exact h1
      · rcases List.mem_cons.1 ((h y).2 List.mem_cons_self) with h2 | h2
        · exact h2.symm
        · exact absurd (hb1 x h1) (lexLt_asymm (ha1 y h2))
    subst hxy
    congr 1
    refine asc_eq ha2 hb2 fun z => ⟨fun hz => ?_, fun hz => ?_⟩
    · rcases List.mem_cons.1 ((h z).1 (List.mem_cons_of_mem _ hz)) with h1 | h1
      · subst h1
        exact absurd (ha1 z hz) lexLt_ne
      · exact h1
    · rcases List.mem_cons.1 ((h z).2 (List.mem_cons_of_mem _ hz)) with h1 | h1
      · subst h1
        exact absurd (hb1 z hz) lexLt_ne
      · exact h1
theorem sub_len : ∀ {a b : List (List Int)}, a.Pairwise lexLt → (∀ x ∈ a, x ∈ b) → a.length ≤ b.length
  | [], _, _, _ => Nat.zero_le _
  | x :: a, b, ha, h => by
    obtain ⟨ha1, ha2⟩ := List.pairwise_cons.1 ha
    have hx := h x List.mem_cons_self
    have := sub_len (b := b.erase x) ha2 (fun y hy => (List.mem_erase_of_ne (fun e => by subst e; exact lexLt_ne (ha1 _ hy))).2 (h y (List.mem_cons_of_mem _ hy)))
    rw [List.length_erase_of_mem hx] at this
    have := List.length_pos_of_mem hx
    simp only [List.length_cons]
    omega
theorem put_column {l : List Ent} {i k : Nat} (h : Lost l i k) {c : Int} (hc : c ≠ 63) (j : Nat) (v : Int) (hv : v ∈ columnP (readingsP (putSign l i k c)) j) : v ∈ columnP (readingsP l) j := by
  obtain ⟨h1, h2⟩ := List.mem_filter.1 hv
  obtain ⟨r, hr, he⟩ := List.any_eq_true.1 h2
  exact List.mem_filter.2 ⟨h1, List.any_eq_true.2 ⟨r, ((put_reads h hc r).1 hr).1, he⟩⟩
theorem lost_le : ∀ (p : List Int) (k : Nat) (c : Int), c ≠ 63 → lostP (p.set k c) ≤ lostP p
  | [], k, c, _ => by simp
  | x :: p, 0, c, hc => by
    have : (c == 63) = false := by simpa using hc
    simp only [List.set_cons_zero, lostP, List.filter_cons, this, Bool.false_eq_true, if_false]
    split <;> simp
  | x :: p, k + 1, c, hc => by
    have ih := lost_le p k c hc
    unfold lostP at ih ⊢
    rw [List.set_cons_succ, List.filter_cons, List.filter_cons]
    by_cases h : (x == 63) = true
    · rw [if_pos h, if_pos h, List.length_cons, List.length_cons]
      omega
    · rw [if_neg h, if_neg h]
      exact ih
theorem sum_set_le : ∀ (l : List Ent) (i : Nat) (e : Ent), lostP e.signs ≤ lostP (l.getD i noEnt).signs → ((l.set i e).map fun e => lostP e.signs).sum ≤ (l.map fun e => lostP e.signs).sum
  | [], i, e, _ => by simp
  | x :: l, 0, e, h => by
    have h' : lostP e.signs ≤ lostP x.signs := h
    simp only [List.set_cons_zero, List.map_cons, List.sum_cons]
    omega
  | x :: l, i + 1, e, h => by
    have := sum_set_le l i e h
    simp only [List.set_cons_succ, List.map_cons, List.sum_cons]
    omega
theorem entriesErr_or : ∀ (l : List Ent), (∀ e ∈ l, entryErr e = 0 ∨ entryErr e = 11) → entriesErr l = 0 ∨ entriesErr l = 11
  | [], _ => .inl rfl
  | e :: r, h => by
    rw [entriesErr]
    split
    · exact entriesErr_or r fun x hx => h x (List.mem_cons_of_mem _ hx)
    · rename_i h1
      exact (h e List.mem_cons_self)
end SumPlain
end
