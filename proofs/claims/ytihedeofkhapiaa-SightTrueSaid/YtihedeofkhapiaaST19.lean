/- Part 19 of 34 of the proof of: SightTrue: for every slice of numbers, the law returns true: whatever truly is on a stone made of them, its letters and its hand fit, it was cut within Years, and it has at least as many marks as Marks says; no condition beyond the statement's own. -/
import Derived.Laws.StructEq
import Derived.Test.YtihedeofkhapiaaST18
set_option linter.unusedVariables false
set_option linter.unusedSimpArgs false
section
namespace Go.Proofs.YtihedeofkhapiaaW.PrintWords
open Go.RowKit

end Go.Proofs.YtihedeofkhapiaaW.PrintWords
end
