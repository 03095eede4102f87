/- Part 7 of 21 of the proof of: SumsShared: for every slice of numbers, the law returns true: of an account made of them, Print writes in just those signs that the numerals of all its choices share; no condition beyond the statement's own. -/
import Derived.Laws.StructEq
import Derived.Test.YtgfikondoehblaaDoorSH6
set_option linter.unusedVariables false
set_option linter.unusedSimpArgs false
set_option linter.unusedSectionVars false
section
namespace Go.Proofs.YtgfikondoehblaaDoorW.PrintWords
open Go.RowKit

end Go.Proofs.YtgfikondoehblaaDoorW.PrintWords
end
