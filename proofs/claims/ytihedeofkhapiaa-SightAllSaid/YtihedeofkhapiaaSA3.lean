/- Part 3 of 34 of the proof of: SightAll: for every slice of numbers, the law returns true: of a slim line made of them, the letters and hands that the program tells are just those of the truths found by going through all choices, and its marks are the fewest of any truth; no condition beyond the statement's own. -/
import Derived.Test.YtihedeofkhapiaaProg
import Derived.Lib.Walk
import Derived.Sort.Row
import Derived.Lib.Strings
set_option linter.unusedVariables false
set_option linter.unusedSimpArgs false
section
namespace Go.Proofs.Ytihedeofkhapiaa.Srt
open Go.Proofs Go.Proofs.Ytihedeofkhapiaa
set_option maxHeartbeats 1000000 in
theorem So.cmp_isNaN_int (x : Int) (w : World) : Calls Try.prog 106 #[.int .u8 x] w fun e w' => e = .returned (.bool false) ∧ w' = w := by
 go_enter Try.func106, Try.ntmps106; go_wp2
 go_ret
 exact ⟨by simp, rfl⟩
set_option maxHeartbeats 1000000 in
theorem So.cmp_Less_int (x y : Int) (w : World) : Calls Try.prog 94 #[.int .u8 x, .int .u8 y] w fun e w' => e = .returned (.bool (Sort.ltInt x y)) ∧ w' = w := by
 go_enter Try.func94, Try.ntmps94; go_wp2_with (go_at_call 106; refine (So.cmp_isNaN_int _ _).mono ?_; rintro e w' ⟨rfl, rfl⟩)
 go_ret
 exact ⟨rfl, rfl⟩
end Go.Proofs.Ytihedeofkhapiaa.Srt
end
