/- Part 5 of 18 of the proof of: SightEnough: for every slice of numbers, the law returns true: a line made of them may be just if Marks is at most Total, for all Totals from 0 to 12; no condition beyond the statement's own. -/
import Derived.Laws.StructEq
import Derived.Test.YtihedeofkhapiaaSE4
section
namespace Go.Proofs.YtihedeofkhapiaaW.PrintWords
open Go.RowKit
end Go.Proofs.YtihedeofkhapiaaW.PrintWords
end
