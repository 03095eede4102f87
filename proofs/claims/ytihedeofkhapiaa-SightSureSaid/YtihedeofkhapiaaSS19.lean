/- Part 19 of 34 of the proof of: SightSure: for every slice of numbers, the law returns true: of a line made of them, a printed letter that stands alone fits alone, the letters in braces are all that fit, and there is a dash where more than three do; no condition beyond the statement's own. -/
import Derived.Laws.StructEq
import Derived.Test.YtihedeofkhapiaaSS18
set_option linter.unusedVariables false
set_option linter.unusedSimpArgs false
section
namespace Go.Proofs.YtihedeofkhapiaaW.PrintWords
open Go.RowKit

end Go.Proofs.YtihedeofkhapiaaW.PrintWords
end
