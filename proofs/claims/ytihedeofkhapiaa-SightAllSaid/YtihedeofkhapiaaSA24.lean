/- Part 24 of 34 of the proof of: SightAll: for every slice of numbers, the law returns true: of a slim line made of them, the letters and hands that the program tells are just those of the truths found by going through all choices, and its marks are the fewest of any truth; no condition beyond the statement's own. -/
import Derived.Sort.AssemblyPlain
import Derived.Test.YtihedeofkhapiaaSA11
import Derived.Test.YtihedeofkhapiaaSA12
import Derived.Test.YtihedeofkhapiaaSA13
import Derived.Test.YtihedeofkhapiaaSA14
import Derived.Test.YtihedeofkhapiaaSA15
import Derived.Test.YtihedeofkhapiaaSA17
set_option linter.unusedVariables false
set_option linter.unusedSimpArgs false
section
namespace Go.Proofs.Ytihedeofkhapiaa.Srt
open Go.Proofs Go.Proofs.Ytihedeofkhapiaa Go.Sort
theorem callees13 : Callees13 where
 ins := So.insertionSort_int
 brk := So.breakPatterns_int
 piv := So.choosePivot_int
 par := So.partialInsertionSort_int
 peq := So.partitionEqualOrdered_int
 prt := So.partitionOrdered_int
theorem plain13 : Plain13 where
 swo := swo_ltInt
 ins := insertionSort_holds
 par := partialInsertionSort_holds
 prt := partition_holds _
 peq := partitionEqual_holds _
 pdq := pdq_sorts _
theorem pdqWalkInt : pdqWalk_int := fun blk off cap a b limit d w hH hb hab hbd hsz hl hB =>
 So.pdqsort_int callees13 plain13 (b - a + 1) blk off cap a b limit d w (by omega) hH hb hab hbd hsz hl hB
theorem sort_int_eq (zs : List Int) : Sort.sort ltInt zs.toArray = (zs.mergeSort fun x y => decide (x ≤ y)).toArray := by
 rw [← sortInt zs]
theorem Ce (blk off cap : Nat) (zs : List Int) (w : World) (hH : Holds (Value.int .u8) w blk off zs.toArray) (hblk : blk < w.heap.size) (hsz : zs.length < 4611686018427387904) :
 Calls Try.prog 79 #[.slice (some ⟨blk, off, none⟩) zs.length cap] w fun e w' =>
  e = .returned (.tuple #[]) ∧ ∃ n os, w' = grow (putRow (Value.int .u8) (Sort.ahead w n) blk off (zs.mergeSort fun x y => decide (x ≤ y)).toArray) os := by
 have h := So.Sort_int pdqWalkInt blk off cap zs.toArray w hH hblk (by simpa using hsz); rw [sort_int_eq] at h
 simpa using h
end Go.Proofs.Ytihedeofkhapiaa.Srt
end
