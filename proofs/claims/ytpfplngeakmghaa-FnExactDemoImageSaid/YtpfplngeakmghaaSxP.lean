/- The pure side of FnExactDemoImage: a closed computation. -/
import Derived.Test.YtpfplngeakmghaaSxF
namespace Go.Proofs.Ytpfplngeakmghaa.S
open Go.Ps
theorem demoImage0 : laws_FnExactDemoImage.f 2000 = some true := by decide +kernel
theorem demoImage : laws_FnExactDemoImage = some true := laws_FnExactDemoImage.le 2000 _ demoImage0
end Go.Proofs.Ytpfplngeakmghaa.S
