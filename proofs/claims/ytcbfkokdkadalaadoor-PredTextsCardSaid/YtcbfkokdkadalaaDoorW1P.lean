import Derived.Test.YtcbfkokdkadalaaDoorW1
namespace Go.Proofs.YtcbfkokdkadalaaDoor.V
open Go Go.RowKit Go.Proofs.YtcbfkokdkadalaaDoorW.PrintLast
open Go.Proofs
set_option linter.unusedVariables false
set_option linter.unusedSimpArgs false
attribute [local irreducible] awp
end Go.Proofs.YtcbfkokdkadalaaDoor.V
