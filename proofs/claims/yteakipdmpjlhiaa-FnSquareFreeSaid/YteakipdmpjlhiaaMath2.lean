/- Words of this session: the order of lists of numbers; Lyndon words. Nothing here speaks of the program. -/
import Derived.Test.YteakipdmpjlhiaaMath
namespace Go.Proofs.Yteakipdmpjlhiaa
open Go.RowKit Go.Proofs.YteakipdmpjlhiaaW.PrintWords Go.Proofs.YteakipdmpjlhiaaW.PrintLast Go.Proofs.YteakipdmpjlhiaaW.PrintMore
set_option linter.unusedVariables false
set_option linter.unusedSimpArgs false

/-! ### words that are less than what comes behind in them, and than what comes from them by turning -/
end Go.Proofs.Yteakipdmpjlhiaa

