-- Made by this session's program hyb.py out of Lean's print of the program; Lean checks it.
import Derived.Test.YtjnpobaampgakaaPFnExactIsScatteredx0
import Derived.Test.YtjnpobaampgakaaPFnExactIsScatteredx1
import Derived.Test.YtjnpobaampgakaaPFnExactIsScatteredx2
namespace Go.Proofs.Ytjnpobaampgakaa.PFnExactIsScattered
open Go.RowKit Go.Proofs.YtjnpobaampgakaaW.PrintWords Go.Proofs.YtjnpobaampgakaaW.PrintLast Go.Proofs.YtjnpobaampgakaaW.PrintMore
attribute [local go_sem] max2_int min2_int max_two min_two max_three min_three max_four min_four bn_leq bn_gtr bn_geq   -- for this text's walks alone
set_option linter.unusedVariables false
set_option linter.unusedSimpArgs false

end Go.Proofs.Ytjnpobaampgakaa.PFnExactIsScattered
