/- General words of this session, a second part. Nothing here speaks of the program. -/
import Derived.Test.YteakipdmpjlhiaaBase
namespace Go.Proofs.Yteakipdmpjlhiaa
open Go.RowKit Go.Proofs.YteakipdmpjlhiaaW.PrintWords Go.Proofs.YteakipdmpjlhiaaW.PrintLast Go.Proofs.YteakipdmpjlhiaaW.PrintMore
set_option linter.unusedVariables false
end Go.Proofs.Yteakipdmpjlhiaa

