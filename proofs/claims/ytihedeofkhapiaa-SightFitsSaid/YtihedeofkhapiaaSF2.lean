/- Part 2 of 36 of the proof of: SightFits: for every line, light, number and slice of numbers, the law returns true: the program tells which lines are valid, which hands and letters fit, and between which years a line was cut, as the reference does, with the same errors, and changes nothing; no condition beyond the statement's own. -/
import Derived.SizedLaws
import Derived.ChangeSlices
set_option linter.unusedVariables false
set_option linter.unusedSimpArgs false
section
namespace Go.Proofs.YtihedeofkhapiaaW.PrintWords
open Go.ChangeShapes Go.WideShapes

end Go.Proofs.YtihedeofkhapiaaW.PrintWords
end
