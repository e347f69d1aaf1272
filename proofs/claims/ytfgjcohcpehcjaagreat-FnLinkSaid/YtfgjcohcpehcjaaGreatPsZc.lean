import Derived.Test.YtfgjcohcpehcjaaGreatPsZb
import Derived.Lib.AtoiAll
import Derived.Lib.Strings
namespace Go.Ps
open Go.RowKit
set_option linter.unusedVariables false
end Go.Ps
