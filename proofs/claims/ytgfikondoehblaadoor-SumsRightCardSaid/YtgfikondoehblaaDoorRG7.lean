/- Part 7 of 21 of the proof of: SumsRight: for every slice of numbers, the law returns true: in each of the readings of an account made of them the numerals fit and all sums are right, they are in order and none is there twice, and the numbers that the account was made of are among its choices; no condition beyond the statement's own. -/
import Derived.Laws.StructEq
import Derived.Test.YtgfikondoehblaaDoorRG6
set_option linter.unusedVariables false
set_option linter.unusedSimpArgs false
set_option linter.unusedSectionVars false
section
namespace Go.Proofs.YtgfikondoehblaaDoorW.PrintWords
open Go.RowKit

end Go.Proofs.YtgfikondoehblaaDoorW.PrintWords
end
