/- Part 7 of 21 of the proof of: SumsMoved: for every slice of numbers, the law returns true: if two neighbouring items of an account made of them change places so do their choices, and a whole right behind the first sum has that sum's choices; no condition beyond the statement's own. -/
import Derived.Laws.StructEq
import Derived.Test.YtgfikondoehblaaDoorMV6
set_option linter.unusedVariables false
set_option linter.unusedSimpArgs false
set_option linter.unusedSectionVars false
section
namespace Go.Proofs.YtgfikondoehblaaDoorW.PrintWords
open Go.RowKit

end Go.Proofs.YtgfikondoehblaaDoorW.PrintWords
end
