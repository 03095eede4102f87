/- Part 19 of 34 of the proof of: SightAll: for every slice of numbers, the law returns true: of a slim line made of them, the letters and hands that the program tells are just those of the truths found by going through all choices, and its marks are the fewest of any truth; no condition beyond the statement's own. -/
import Derived.Laws.StructEq
import Derived.Test.YtihedeofkhapiaaSA18
set_option linter.unusedVariables false
set_option linter.unusedSimpArgs false
section
namespace Go.Proofs.YtihedeofkhapiaaW.PrintWords
open Go.RowKit

end Go.Proofs.YtihedeofkhapiaaW.PrintWords
end
