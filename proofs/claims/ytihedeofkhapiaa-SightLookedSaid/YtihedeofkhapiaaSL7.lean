/- Part 7 of 21 of the proof of: SightLooked: for every slice of numbers, the law returns true: of a line that one hand alone may have cut, made of them, if the letter of the square of Look is known, whichever it is, at most as many letters as said fit the other squares, and just as many for one of them, and no square before it does as well, and none does better; no condition beyond the statement's own. -/
import Derived.Laws.StructEq
import Derived.Test.YtihedeofkhapiaaSL6
set_option linter.unusedVariables false
set_option linter.unusedSimpArgs false
section
namespace Go.Proofs.YtihedeofkhapiaaW.PrintWords
open Go.RowKit

end Go.Proofs.YtihedeofkhapiaaW.PrintWords
end
