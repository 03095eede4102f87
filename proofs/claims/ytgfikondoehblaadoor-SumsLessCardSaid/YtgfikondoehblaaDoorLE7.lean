/- Part 7 of 21 of the proof of: SumsLess: for every slice of numbers, the law returns true: without the entries that Struck names an account made of them adds up, and without fewer ones, or as many that come before, it does not; no condition beyond the statement's own. -/
import Derived.Laws.StructEq
import Derived.Test.YtgfikondoehblaaDoorLE6
set_option linter.unusedVariables false
set_option linter.unusedSimpArgs false
set_option linter.unusedSectionVars false
section
namespace Go.Proofs.YtgfikondoehblaaDoorW.PrintWords
open Go.RowKit

end Go.Proofs.YtgfikondoehblaaDoorW.PrintWords
end
