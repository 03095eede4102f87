/- Part 19 of 35 of the proof of: SightMore: for every slice of numbers, the law returns true: of a line made of them, with one more light, with fewer marks, or with fewer hands, no more letters fit, and Years does not get wider, as long as the line may be; no condition beyond the statement's own. -/
import Derived.Laws.StructEq
import Derived.Test.YtihedeofkhapiaaSM18
set_option linter.unusedVariables false
set_option linter.unusedSimpArgs false
section
namespace Go.Proofs.YtihedeofkhapiaaW.PrintWords
open Go.RowKit

end Go.Proofs.YtihedeofkhapiaaW.PrintWords
end
