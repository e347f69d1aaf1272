import Derived.Test.YtfgjcohcpehcjaaGreatPsZc
import Derived.Lib.Split
import Derived.Lib.CountLaws
import Derived.Lib.Join
namespace Go.Ps
open Go.RowKit
set_option linter.unusedVariables false
def vE.and (I J:vE):vE where
 at_ S w:=I.at_ S w∧J.at_ S w
 keep:=fun hS hw h=>⟨I.keep hS hw h.1,J.keep hS hw h.2⟩
end Go.Ps
