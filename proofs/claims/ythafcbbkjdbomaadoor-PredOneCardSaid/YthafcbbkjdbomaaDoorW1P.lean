import Derived.Test.YthafcbbkjdbomaaDoorW1
namespace Go.Proofs.YthafcbbkjdbomaaDoor.V
open Go Go.RowKit Go.Proofs.YthafcbbkjdbomaaDoorW.PrintLast
open Go.Proofs
set_option linter.unusedVariables false
set_option linter.unusedSimpArgs false
attribute [local irreducible] awp
end Go.Proofs.YthafcbbkjdbomaaDoor.V
