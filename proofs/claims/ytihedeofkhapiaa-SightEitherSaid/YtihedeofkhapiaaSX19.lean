/- Part 19 of 34 of the proof of: SightEither: for every slice of numbers, the law returns true: of a line made of them, the order of lights, and of hands under other numbers, does not matter, and if squares change places, so do their letters; no condition beyond the statement's own. -/
import Derived.Laws.StructEq
import Derived.Test.YtihedeofkhapiaaSX18
set_option linter.unusedVariables false
set_option linter.unusedSimpArgs false
section
namespace Go.Proofs.YtihedeofkhapiaaW.PrintWords
open Go.RowKit

end Go.Proofs.YtihedeofkhapiaaW.PrintWords
end
