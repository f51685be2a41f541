import Derived.Test.YthinpbnnpelhhaaGreatDoorW1
namespace Go.Proofs.YthinpbnnpelhhaaGreatDoor.V
open Go Go.RowKit Go.Proofs.YthinpbnnpelhhaaGreatDoorW.PrintLast
open Go.Proofs
set_option linter.unusedVariables false
set_option linter.unusedSimpArgs false
attribute [local irreducible] awp
end Go.Proofs.YthinpbnnpelhhaaGreatDoor.V
