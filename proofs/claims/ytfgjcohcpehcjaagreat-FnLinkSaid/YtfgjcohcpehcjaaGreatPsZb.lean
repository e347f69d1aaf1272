import Derived.Test.YtfgjcohcpehcjaaGreatPsY
import Derived.Lib.ItoaNum
import Derived.Lib.LaidTab
import Derived.Lib.OthersKept
namespace Go.Ps
open Go.RowKit
set_option linter.unusedVariables false
end Go.Ps
