/-
  NARROWER THAN 'FOR EVERY INPUT', by the rows' own cells (each row's printed sentence says how): SumsRestored: laid · SumsMoved: laid · SumsShared: laid · SumsLess: laid · SumsRight: laid · SumsAll: laid · SumsNumbers: laid · SumsNumerals: laid · SumsKnown: laid.
  DERIVED. THE GIVEN ROWS OF THIS SEAT. 9 by the template 'for every input the law returns true; each argument reads behind the call as it read before'; 0 by the template 'total and deterministic' (their statements: YtgfikondoehblaaDoorTotals.lean).
  GIVEN WITH THE SEED: the statements are not yours to turn. If you find one false, say at which input.
  Laid BY PROGRAM, IN A SANDBOX (cutbox-rows.mjs): the forced cells as the released guide's own fill.sh prints them over the translation 20a3cb7b033f0a1f… (all of the seat's roots in one cut). By AI agents, Wed Nov 11 2026. No macro, syntax, notation, axiom, sorry.
-/
import Derived.Test.YtgfikondoehblaaDoorChecked
import GoSem.Claim
import GoSem.ClaimJoined
import GoSem.ClaimMapViews
import Derived.JoinedTies
import Derived.KernelRfl
namespace Go.Proofs.YtgfikondoehblaaDoor
/- THE CELL 'sum', in the pinned program and in every row, IS THE sha256 OF THE DUMP (.gsa) THAT YtgfikondoehblaaDoorProg.lean LOADS. Nothing in Lean hashes anything: it is a label: what it is worth is what the hold of that sum in a sandbox is worth. -/
noncomputable def Tryd.pinned : Pinned := { name := "ytgfikondoehblaadoor", sum := "20a3cb7b033f0a1f3644643e678e82c2a8a45d1de9002857fec2106dadae89db", checked := Tryd.checked }
namespace Rows
def none {H : Type} : Left H := { results := [], args := [] }

/- WHAT THE LISTED PACKAGE-LEVEL VARIABLES READ AS WHEN THE CALL BEGINS. Each datum BY PROGRAM (the guide's laid-datum.mjs) off the statement by which the dump's own 'gosem.cut.vars' lays the variable. In a bare row this is a premise. The card (YtgfikondoehblaaDoorCards.lean) ties it to the program's text. -/
def laid_cippus_sums_signs {H : Type} : DataW H := .agg [.agg [.lit (.int .u8 77), .lit (.int .i64 1000), .lit (.int .i64 4)], .agg [.lit (.int .u8 68), .lit (.int .i64 500), .lit (.int .i64 1)], .agg [.lit (.int .u8 67), .lit (.int .i64 100), .lit (.int .i64 4)], .agg [.lit (.int .u8 76), .lit (.int .i64 50), .lit (.int .i64 1)], .agg [.lit (.int .u8 88), .lit (.int .i64 10), .lit (.int .i64 4)], .agg [.lit (.int .u8 86), .lit (.int .i64 5), .lit (.int .i64 1)], .agg [.lit (.int .u8 73), .lit (.int .i64 1), .lit (.int .i64 4)]]
def laid_math_bits_deBruijn32tab {H : Type} : DataW H := .agg [.lit (.int .u8 0), .lit (.int .u8 1), .lit (.int .u8 28), .lit (.int .u8 2), .lit (.int .u8 29), .lit (.int .u8 14), .lit (.int .u8 24), .lit (.int .u8 3), .lit (.int .u8 30), .lit (.int .u8 22), .lit (.int .u8 20), .lit (.int .u8 15), .lit (.int .u8 25), .lit (.int .u8 17), .lit (.int .u8 4), .lit (.int .u8 8), .lit (.int .u8 31), .lit (.int .u8 27), .lit (.int .u8 13), .lit (.int .u8 23), .lit (.int .u8 21), .lit (.int .u8 19), .lit (.int .u8 16), .lit (.int .u8 7), .lit (.int .u8 26), .lit (.int .u8 12), .lit (.int .u8 18), .lit (.int .u8 6), .lit (.int .u8 11), .lit (.int .u8 5), .lit (.int .u8 10), .lit (.int .u8 9)]
def laid_math_bits_deBruijn64tab {H : Type} : DataW H := .agg [.lit (.int .u8 0), .lit (.int .u8 1), .lit (.int .u8 56), .lit (.int .u8 2), .lit (.int .u8 57), .lit (.int .u8 49), .lit (.int .u8 28), .lit (.int .u8 3), .lit (.int .u8 61), .lit (.int .u8 58), .lit (.int .u8 42), .lit (.int .u8 50), .lit (.int .u8 38), .lit (.int .u8 29), .lit (.int .u8 17), .lit (.int .u8 4), .lit (.int .u8 62), .lit (.int .u8 47), .lit (.int .u8 59), .lit (.int .u8 36), .lit (.int .u8 45), .lit (.int .u8 43), .lit (.int .u8 51), .lit (.int .u8 22), .lit (.int .u8 53), .lit (.int .u8 39), .lit (.int .u8 33), .lit (.int .u8 30), .lit (.int .u8 24), .lit (.int .u8 18), .lit (.int .u8 12), .lit (.int .u8 5), .lit (.int .u8 63), .lit (.int .u8 55), .lit (.int .u8 48), .lit (.int .u8 27), .lit (.int .u8 60), .lit (.int .u8 41), .lit (.int .u8 37), .lit (.int .u8 16), .lit (.int .u8 46), .lit (.int .u8 35), .lit (.int .u8 44), .lit (.int .u8 21), .lit (.int .u8 52), .lit (.int .u8 32), .lit (.int .u8 23), .lit (.int .u8 11), .lit (.int .u8 54), .lit (.int .u8 26), .lit (.int .u8 40), .lit (.int .u8 15), .lit (.int .u8 34), .lit (.int .u8 20), .lit (.int .u8 31), .lit (.int .u8 10), .lit (.int .u8 25), .lit (.int .u8 14), .lit (.int .u8 19), .lit (.int .u8 9), .lit (.int .u8 13), .lit (.int .u8 8), .lit (.int .u8 7), .lit (.int .u8 6)]
def laid_internal_strconv_uint64pow10 {H : Type} : DataW H := .agg [.lit (.int .u64 1), .lit (.int .u64 10), .lit (.int .u64 100), .lit (.int .u64 1000), .lit (.int .u64 10000), .lit (.int .u64 100000), .lit (.int .u64 1000000), .lit (.int .u64 10000000), .lit (.int .u64 100000000), .lit (.int .u64 1000000000), .lit (.int .u64 10000000000), .lit (.int .u64 100000000000), .lit (.int .u64 1000000000000), .lit (.int .u64 10000000000000), .lit (.int .u64 100000000000000), .lit (.int .u64 1000000000000000), .lit (.int .u64 10000000000000000), .lit (.int .u64 100000000000000000), .lit (.int .u64 1000000000000000000), .lit (.int .u64 10000000000000000000)]

/-- 'cippuslaw03.SumsRestored': WHATEVER THE INPUT: true; the input reads as it did. -/
def sumsRestoredSpec : ChangeSpec := { name := "sumsRestored", fn := fun _ => fun
  | [d] => { results := [.lit (.bool true)], args := [d] }
  | _ => none }
def sumsRestoredRow : OpenClaim := { program := "ytgfikondoehblaadoor", sum := "20a3cb7b033f0a1f3644643e678e82c2a8a45d1de9002857fec2106dadae89db", func := "cippus/cippuslaw03.SumsRestored", spec := "sumsRestored", inPlace := ["internal/abi.NoEscape", "internal/bytealg.CountString", "internal/bytealg.IndexByteString", "internal/bytealg.IndexString"], unfollowed := true, recurses := true, named := ["cippus/sums.signs", "internal/bytealg.MaxLen"], apart := false, laid := [("cippus/sums.signs", laid_cippus_sums_signs)] }
def SumsRestoredSaid : Prop := sumsRestoredRow.holds Tryd.pinned (OpenSpec.ofChange sumsRestoredSpec)

/-- ITS FALSE NEIGHBOUR: 'it returns false'. Refute it at one input. -/
def sumsRestoredWrong : ChangeSpec := { name := "sumsRestored", fn := fun _ => fun
  | [d] => { results := [.lit (.bool false)], args := [d] }
  | _ => none }
def SumsRestoredWrongFalsely : Prop := sumsRestoredRow.holds Tryd.pinned (OpenSpec.ofChange sumsRestoredWrong)

/-- 'cippuslaw03.SumsMoved': WHATEVER THE INPUT: true; the input reads as it did. -/
def sumsMovedSpec : ChangeSpec := { name := "sumsMoved", fn := fun _ => fun
  | [d] => { results := [.lit (.bool true)], args := [d] }
  | _ => none }
def sumsMovedRow : OpenClaim := { program := "ytgfikondoehblaadoor", sum := "20a3cb7b033f0a1f3644643e678e82c2a8a45d1de9002857fec2106dadae89db", func := "cippus/cippuslaw03.SumsMoved", spec := "sumsMoved", inPlace := ["internal/abi.NoEscape", "internal/bytealg.CountString", "internal/bytealg.IndexByteString", "internal/bytealg.IndexString"], unfollowed := true, recurses := true, named := ["cippus/sums.signs", "internal/bytealg.MaxLen"], apart := false, laid := [("cippus/sums.signs", laid_cippus_sums_signs)] }
def SumsMovedSaid : Prop := sumsMovedRow.holds Tryd.pinned (OpenSpec.ofChange sumsMovedSpec)

/-- ITS FALSE NEIGHBOUR: 'it returns false'. Refute it at one input. -/
def sumsMovedWrong : ChangeSpec := { name := "sumsMoved", fn := fun _ => fun
  | [d] => { results := [.lit (.bool false)], args := [d] }
  | _ => none }
def SumsMovedWrongFalsely : Prop := sumsMovedRow.holds Tryd.pinned (OpenSpec.ofChange sumsMovedWrong)

/-- 'cippuslaw03.SumsShared': WHATEVER THE INPUT: true; the input reads as it did. -/
def sumsSharedSpec : ChangeSpec := { name := "sumsShared", fn := fun _ => fun
  | [d] => { results := [.lit (.bool true)], args := [d] }
  | _ => none }
def sumsSharedRow : OpenClaim := { program := "ytgfikondoehblaadoor", sum := "20a3cb7b033f0a1f3644643e678e82c2a8a45d1de9002857fec2106dadae89db", func := "cippus/cippuslaw03.SumsShared", spec := "sumsShared", inPlace := ["internal/abi.NoEscape", "internal/bytealg.CountString", "internal/bytealg.IndexByteString", "internal/bytealg.IndexString"], unfollowed := true, recurses := true, named := ["cippus/sums.signs", "internal/bytealg.MaxLen"], apart := false, laid := [("cippus/sums.signs", laid_cippus_sums_signs)] }
def SumsSharedSaid : Prop := sumsSharedRow.holds Tryd.pinned (OpenSpec.ofChange sumsSharedSpec)

/-- ITS FALSE NEIGHBOUR: 'it returns false'. Refute it at one input. -/
def sumsSharedWrong : ChangeSpec := { name := "sumsShared", fn := fun _ => fun
  | [d] => { results := [.lit (.bool false)], args := [d] }
  | _ => none }
def SumsSharedWrongFalsely : Prop := sumsSharedRow.holds Tryd.pinned (OpenSpec.ofChange sumsSharedWrong)

/-- 'cippuslaw03.SumsLess': WHATEVER THE INPUT: true; the input reads as it did. -/
def sumsLessSpec : ChangeSpec := { name := "sumsLess", fn := fun _ => fun
  | [d] => { results := [.lit (.bool true)], args := [d] }
  | _ => none }
def sumsLessRow : OpenClaim := { program := "ytgfikondoehblaadoor", sum := "20a3cb7b033f0a1f3644643e678e82c2a8a45d1de9002857fec2106dadae89db", func := "cippus/cippuslaw03.SumsLess", spec := "sumsLess", inPlace := ["internal/abi.NoEscape", "internal/bytealg.CountString", "internal/bytealg.IndexByteString", "internal/bytealg.IndexString"], unfollowed := true, recurses := true, named := ["cippus/sums.signs", "internal/bytealg.MaxLen"], apart := false, laid := [("cippus/sums.signs", laid_cippus_sums_signs)] }
def SumsLessSaid : Prop := sumsLessRow.holds Tryd.pinned (OpenSpec.ofChange sumsLessSpec)

/-- ITS FALSE NEIGHBOUR: 'it returns false'. Refute it at one input. -/
def sumsLessWrong : ChangeSpec := { name := "sumsLess", fn := fun _ => fun
  | [d] => { results := [.lit (.bool false)], args := [d] }
  | _ => none }
def SumsLessWrongFalsely : Prop := sumsLessRow.holds Tryd.pinned (OpenSpec.ofChange sumsLessWrong)

/-- 'cippuslaw03.SumsRight': WHATEVER THE INPUT: true; the input reads as it did. -/
def sumsRightSpec : ChangeSpec := { name := "sumsRight", fn := fun _ => fun
  | [d] => { results := [.lit (.bool true)], args := [d] }
  | _ => none }
def sumsRightRow : OpenClaim := { program := "ytgfikondoehblaadoor", sum := "20a3cb7b033f0a1f3644643e678e82c2a8a45d1de9002857fec2106dadae89db", func := "cippus/cippuslaw03.SumsRight", spec := "sumsRight", inPlace := ["internal/abi.NoEscape", "internal/bytealg.CountString", "internal/bytealg.IndexByteString", "internal/bytealg.IndexString"], unfollowed := true, recurses := true, named := ["cippus/sums.signs", "internal/bytealg.MaxLen"], apart := false, laid := [("cippus/sums.signs", laid_cippus_sums_signs)] }
def SumsRightSaid : Prop := sumsRightRow.holds Tryd.pinned (OpenSpec.ofChange sumsRightSpec)

/-- ITS FALSE NEIGHBOUR: 'it returns false'. Refute it at one input. -/
def sumsRightWrong : ChangeSpec := { name := "sumsRight", fn := fun _ => fun
  | [d] => { results := [.lit (.bool false)], args := [d] }
  | _ => none }
def SumsRightWrongFalsely : Prop := sumsRightRow.holds Tryd.pinned (OpenSpec.ofChange sumsRightWrong)

/-- 'cippuslaw03.SumsAll': WHATEVER THE INPUT: true; the input reads as it did. -/
def sumsAllSpec : ChangeSpec := { name := "sumsAll", fn := fun _ => fun
  | [d] => { results := [.lit (.bool true)], args := [d] }
  | _ => none }
def sumsAllRow : OpenClaim := { program := "ytgfikondoehblaadoor", sum := "20a3cb7b033f0a1f3644643e678e82c2a8a45d1de9002857fec2106dadae89db", func := "cippus/cippuslaw03.SumsAll", spec := "sumsAll", inPlace := ["internal/abi.NoEscape", "internal/bytealg.CountString", "internal/bytealg.IndexByteString", "internal/bytealg.IndexString"], unfollowed := true, recurses := true, named := ["cippus/sums.signs", "internal/bytealg.MaxLen"], apart := false, laid := [("cippus/sums.signs", laid_cippus_sums_signs)] }
def SumsAllSaid : Prop := sumsAllRow.holds Tryd.pinned (OpenSpec.ofChange sumsAllSpec)

/-- ITS FALSE NEIGHBOUR: 'it returns false'. Refute it at one input. -/
def sumsAllWrong : ChangeSpec := { name := "sumsAll", fn := fun _ => fun
  | [d] => { results := [.lit (.bool false)], args := [d] }
  | _ => none }
def SumsAllWrongFalsely : Prop := sumsAllRow.holds Tryd.pinned (OpenSpec.ofChange sumsAllWrong)

/-- 'cippuslaw03.SumsNumbers': WHATEVER THE INPUT: true; the input reads as it did. -/
def sumsNumbersSpec : ChangeSpec := { name := "sumsNumbers", fn := fun _ => fun
  | [d1, d2, d3, d4, d5] => { results := [.lit (.bool true)], args := [d1, d2, d3, d4, d5] }
  | _ => none }
def sumsNumbersRow : OpenClaim := { program := "ytgfikondoehblaadoor", sum := "20a3cb7b033f0a1f3644643e678e82c2a8a45d1de9002857fec2106dadae89db", func := "cippus/cippuslaw03.SumsNumbers", spec := "sumsNumbers", inPlace := ["internal/abi.NoEscape", "internal/bytealg.CountString", "internal/bytealg.IndexByteString", "internal/bytealg.IndexString"], unfollowed := true, recurses := true, named := ["cippus/sums.signs", "internal/bytealg.MaxLen"], apart := false, laid := [("cippus/sums.signs", laid_cippus_sums_signs)] }
def SumsNumbersSaid : Prop := sumsNumbersRow.holds Tryd.pinned (OpenSpec.ofChange sumsNumbersSpec)

/-- ITS FALSE NEIGHBOUR: 'it returns false'. Refute it at one input. -/
def sumsNumbersWrong : ChangeSpec := { name := "sumsNumbers", fn := fun _ => fun
  | [d1, d2, d3, d4, d5] => { results := [.lit (.bool false)], args := [d1, d2, d3, d4, d5] }
  | _ => none }
def SumsNumbersWrongFalsely : Prop := sumsNumbersRow.holds Tryd.pinned (OpenSpec.ofChange sumsNumbersWrong)

/-- 'cippuslaw03.SumsNumerals': WHATEVER THE INPUT: true; the input reads as it did. -/
def sumsNumeralsSpec : ChangeSpec := { name := "sumsNumerals", fn := fun _ => fun
  | [d1, d2, d3, d4, d5] => { results := [.lit (.bool true)], args := [d1, d2, d3, d4, d5] }
  | _ => none }
def sumsNumeralsRow : OpenClaim := { program := "ytgfikondoehblaadoor", sum := "20a3cb7b033f0a1f3644643e678e82c2a8a45d1de9002857fec2106dadae89db", func := "cippus/cippuslaw03.SumsNumerals", spec := "sumsNumerals", inPlace := ["internal/abi.NoEscape", "internal/bytealg.CountString", "internal/bytealg.IndexByteString", "internal/bytealg.IndexString"], unfollowed := true, recurses := true, named := ["cippus/sums.signs", "internal/bytealg.MaxLen"], apart := false, laid := [("cippus/sums.signs", laid_cippus_sums_signs)] }
def SumsNumeralsSaid : Prop := sumsNumeralsRow.holds Tryd.pinned (OpenSpec.ofChange sumsNumeralsSpec)

/-- ITS FALSE NEIGHBOUR: 'it returns false'. Refute it at one input. -/
def sumsNumeralsWrong : ChangeSpec := { name := "sumsNumerals", fn := fun _ => fun
  | [d1, d2, d3, d4, d5] => { results := [.lit (.bool false)], args := [d1, d2, d3, d4, d5] }
  | _ => none }
def SumsNumeralsWrongFalsely : Prop := sumsNumeralsRow.holds Tryd.pinned (OpenSpec.ofChange sumsNumeralsWrong)

/-- 'cippuslaw03.SumsKnown': WHATEVER THE INPUT: true; the input reads as it did. -/
def sumsKnownSpec : ChangeSpec := { name := "sumsKnown", fn := fun _ => fun
  | [] => { results := [.lit (.bool true)], args := [] }
  | _ => none }
def sumsKnownRow : OpenClaim := { program := "ytgfikondoehblaadoor", sum := "20a3cb7b033f0a1f3644643e678e82c2a8a45d1de9002857fec2106dadae89db", func := "cippus/cippuslaw03.SumsKnown", spec := "sumsKnown", inPlace := ["internal/abi.NoEscape", "internal/bytealg.CountString", "internal/bytealg.IndexByteString", "internal/bytealg.IndexString"], unfollowed := true, recurses := true, named := ["cippus/sums.signs", "internal/bytealg.MaxLen", "internal/strconv.uint64pow10", "math/bits.deBruijn32tab", "math/bits.deBruijn64tab"], apart := false, laid := [("math/bits.deBruijn32tab", laid_math_bits_deBruijn32tab), ("math/bits.deBruijn64tab", laid_math_bits_deBruijn64tab), ("internal/strconv.uint64pow10", laid_internal_strconv_uint64pow10), ("cippus/sums.signs", laid_cippus_sums_signs)] }
def SumsKnownSaid : Prop := sumsKnownRow.holds Tryd.pinned (OpenSpec.ofChange sumsKnownSpec)

/-- ITS FALSE NEIGHBOUR: 'it returns false'. Refute it at one input. -/
def sumsKnownWrong : ChangeSpec := { name := "sumsKnown", fn := fun _ => fun
  | [] => { results := [.lit (.bool false)], args := [] }
  | _ => none }
def SumsKnownWrongFalsely : Prop := sumsKnownRow.holds Tryd.pinned (OpenSpec.ofChange sumsKnownWrong)

/- THE SECOND FORM. 'bulk': how many values and letters a reading holds, each counted each time it is reached (what is shared counts as often as it is met; a slice's spare places count too). A statement '..UptoSaid' is the law's where the arguments, and the package variables that the reading takes, are together of bulk at most 1048576: NARROWER than '..Said'. Prove '..Said' where nothing that the law and all that it calls make is longer than what came in: it says more and counts as full. Else prove '..UptoSaid'. A law counts once. -/
mutual
def uptoBulk {H : Type} : DataW H → Nat
  | .lit (.string bytes) => bytes.length + 1
  | .lit _ => 1
  | .nil => 1
  | .ptr d => uptoBulk d + 1
  | .slice elems spare => uptoBulkAll elems + uptoBulkAll spare + 1
  | .agg parts => uptoBulkAll parts + 1
  | .iface _ d => uptoBulk d + 1
  | .map entries => uptoBulkEntries entries + 1
  | .held _ => 1
def uptoBulkAll {H : Type} : List (DataW H) → Nat
  | [] => 0
  | d :: r => uptoBulk d + uptoBulkAll r
def uptoBulkEntries {H : Type} : List (Lit × DataW H) → Nat
  | [] => 0
  | x :: r => uptoBulkEntry x + uptoBulkEntries r
def uptoBulkEntry {H : Type} : Lit × DataW H → Nat
  | (.string bytes, d) => bytes.length + uptoBulk d + 1
  | (_, d) => uptoBulk d + 1
 end
def uptoSmall : (H : Type) → List (DataW H) → Bool := fun _ ds => decide (uptoBulkAll ds ≤ 1048576)
def OpenSpec.upto (s : _root_.Go.ChangeSpec) : _root_.Go.OpenSpec := { _root_.Go.OpenSpec.ofChange s with cond := some uptoSmall }

/-- 'cippuslaw03.SumsRestored', WHERE WHAT IT READS IS OF BULK AT MOST 1048576: true; the input reads as it did. -/
def sumsRestoredUptoRow : OpenClaim := { program := "ytgfikondoehblaadoor", sum := "20a3cb7b033f0a1f3644643e678e82c2a8a45d1de9002857fec2106dadae89db", func := "cippus/cippuslaw03.SumsRestored", spec := "sumsRestored", inPlace := ["internal/abi.NoEscape", "internal/bytealg.CountString", "internal/bytealg.IndexByteString", "internal/bytealg.IndexString"], unfollowed := true, recurses := true, named := ["cippus/sums.signs", "internal/bytealg.MaxLen"], apart := false, laid := [("cippus/sums.signs", laid_cippus_sums_signs)], narrowed := true }
def SumsRestoredUptoSaid : Prop := sumsRestoredUptoRow.holds Tryd.pinned (OpenSpec.upto sumsRestoredSpec)

/-- 'cippuslaw03.SumsMoved', WHERE WHAT IT READS IS OF BULK AT MOST 1048576: true; the input reads as it did. -/
def sumsMovedUptoRow : OpenClaim := { program := "ytgfikondoehblaadoor", sum := "20a3cb7b033f0a1f3644643e678e82c2a8a45d1de9002857fec2106dadae89db", func := "cippus/cippuslaw03.SumsMoved", spec := "sumsMoved", inPlace := ["internal/abi.NoEscape", "internal/bytealg.CountString", "internal/bytealg.IndexByteString", "internal/bytealg.IndexString"], unfollowed := true, recurses := true, named := ["cippus/sums.signs", "internal/bytealg.MaxLen"], apart := false, laid := [("cippus/sums.signs", laid_cippus_sums_signs)], narrowed := true }
def SumsMovedUptoSaid : Prop := sumsMovedUptoRow.holds Tryd.pinned (OpenSpec.upto sumsMovedSpec)

/-- 'cippuslaw03.SumsShared', WHERE WHAT IT READS IS OF BULK AT MOST 1048576: true; the input reads as it did. -/
def sumsSharedUptoRow : OpenClaim := { program := "ytgfikondoehblaadoor", sum := "20a3cb7b033f0a1f3644643e678e82c2a8a45d1de9002857fec2106dadae89db", func := "cippus/cippuslaw03.SumsShared", spec := "sumsShared", inPlace := ["internal/abi.NoEscape", "internal/bytealg.CountString", "internal/bytealg.IndexByteString", "internal/bytealg.IndexString"], unfollowed := true, recurses := true, named := ["cippus/sums.signs", "internal/bytealg.MaxLen"], apart := false, laid := [("cippus/sums.signs", laid_cippus_sums_signs)], narrowed := true }
def SumsSharedUptoSaid : Prop := sumsSharedUptoRow.holds Tryd.pinned (OpenSpec.upto sumsSharedSpec)

/-- 'cippuslaw03.SumsLess', WHERE WHAT IT READS IS OF BULK AT MOST 1048576: true; the input reads as it did. -/
def sumsLessUptoRow : OpenClaim := { program := "ytgfikondoehblaadoor", sum := "20a3cb7b033f0a1f3644643e678e82c2a8a45d1de9002857fec2106dadae89db", func := "cippus/cippuslaw03.SumsLess", spec := "sumsLess", inPlace := ["internal/abi.NoEscape", "internal/bytealg.CountString", "internal/bytealg.IndexByteString", "internal/bytealg.IndexString"], unfollowed := true, recurses := true, named := ["cippus/sums.signs", "internal/bytealg.MaxLen"], apart := false, laid := [("cippus/sums.signs", laid_cippus_sums_signs)], narrowed := true }
def SumsLessUptoSaid : Prop := sumsLessUptoRow.holds Tryd.pinned (OpenSpec.upto sumsLessSpec)

/-- 'cippuslaw03.SumsRight', WHERE WHAT IT READS IS OF BULK AT MOST 1048576: true; the input reads as it did. -/
def sumsRightUptoRow : OpenClaim := { program := "ytgfikondoehblaadoor", sum := "20a3cb7b033f0a1f3644643e678e82c2a8a45d1de9002857fec2106dadae89db", func := "cippus/cippuslaw03.SumsRight", spec := "sumsRight", inPlace := ["internal/abi.NoEscape", "internal/bytealg.CountString", "internal/bytealg.IndexByteString", "internal/bytealg.IndexString"], unfollowed := true, recurses := true, named := ["cippus/sums.signs", "internal/bytealg.MaxLen"], apart := false, laid := [("cippus/sums.signs", laid_cippus_sums_signs)], narrowed := true }
def SumsRightUptoSaid : Prop := sumsRightUptoRow.holds Tryd.pinned (OpenSpec.upto sumsRightSpec)

/-- 'cippuslaw03.SumsAll', WHERE WHAT IT READS IS OF BULK AT MOST 1048576: true; the input reads as it did. -/
def sumsAllUptoRow : OpenClaim := { program := "ytgfikondoehblaadoor", sum := "20a3cb7b033f0a1f3644643e678e82c2a8a45d1de9002857fec2106dadae89db", func := "cippus/cippuslaw03.SumsAll", spec := "sumsAll", inPlace := ["internal/abi.NoEscape", "internal/bytealg.CountString", "internal/bytealg.IndexByteString", "internal/bytealg.IndexString"], unfollowed := true, recurses := true, named := ["cippus/sums.signs", "internal/bytealg.MaxLen"], apart := false, laid := [("cippus/sums.signs", laid_cippus_sums_signs)], narrowed := true }
def SumsAllUptoSaid : Prop := sumsAllUptoRow.holds Tryd.pinned (OpenSpec.upto sumsAllSpec)

/-- 'cippuslaw03.SumsNumbers', WHERE WHAT IT READS IS OF BULK AT MOST 1048576: true; the input reads as it did. -/
def sumsNumbersUptoRow : OpenClaim := { program := "ytgfikondoehblaadoor", sum := "20a3cb7b033f0a1f3644643e678e82c2a8a45d1de9002857fec2106dadae89db", func := "cippus/cippuslaw03.SumsNumbers", spec := "sumsNumbers", inPlace := ["internal/abi.NoEscape", "internal/bytealg.CountString", "internal/bytealg.IndexByteString", "internal/bytealg.IndexString"], unfollowed := true, recurses := true, named := ["cippus/sums.signs", "internal/bytealg.MaxLen"], apart := false, laid := [("cippus/sums.signs", laid_cippus_sums_signs)], narrowed := true }
def SumsNumbersUptoSaid : Prop := sumsNumbersUptoRow.holds Tryd.pinned (OpenSpec.upto sumsNumbersSpec)

/-- 'cippuslaw03.SumsNumerals', WHERE WHAT IT READS IS OF BULK AT MOST 1048576: true; the input reads as it did. -/
def sumsNumeralsUptoRow : OpenClaim := { program := "ytgfikondoehblaadoor", sum := "20a3cb7b033f0a1f3644643e678e82c2a8a45d1de9002857fec2106dadae89db", func := "cippus/cippuslaw03.SumsNumerals", spec := "sumsNumerals", inPlace := ["internal/abi.NoEscape", "internal/bytealg.CountString", "internal/bytealg.IndexByteString", "internal/bytealg.IndexString"], unfollowed := true, recurses := true, named := ["cippus/sums.signs", "internal/bytealg.MaxLen"], apart := false, laid := [("cippus/sums.signs", laid_cippus_sums_signs)], narrowed := true }
def SumsNumeralsUptoSaid : Prop := sumsNumeralsUptoRow.holds Tryd.pinned (OpenSpec.upto sumsNumeralsSpec)

/-- 'cippuslaw03.SumsKnown', WHERE WHAT IT READS IS OF BULK AT MOST 1048576: true; the input reads as it did. -/
def sumsKnownUptoRow : OpenClaim := { program := "ytgfikondoehblaadoor", sum := "20a3cb7b033f0a1f3644643e678e82c2a8a45d1de9002857fec2106dadae89db", func := "cippus/cippuslaw03.SumsKnown", spec := "sumsKnown", inPlace := ["internal/abi.NoEscape", "internal/bytealg.CountString", "internal/bytealg.IndexByteString", "internal/bytealg.IndexString"], unfollowed := true, recurses := true, named := ["cippus/sums.signs", "internal/bytealg.MaxLen", "internal/strconv.uint64pow10", "math/bits.deBruijn32tab", "math/bits.deBruijn64tab"], apart := false, laid := [("math/bits.deBruijn32tab", laid_math_bits_deBruijn32tab), ("math/bits.deBruijn64tab", laid_math_bits_deBruijn64tab), ("internal/strconv.uint64pow10", laid_internal_strconv_uint64pow10), ("cippus/sums.signs", laid_cippus_sums_signs)], narrowed := true }
def SumsKnownUptoSaid : Prop := sumsKnownUptoRow.holds Tryd.pinned (OpenSpec.upto sumsKnownSpec)

end Rows
end Go.Proofs.YtgfikondoehblaaDoor
