/-
  What regions need that draw their order: loads of whole arrays, arrays compared. No condition.
-/
import Derived.Test.YtecmagenlbnchaaQCmp
import Derived.Test.YtecmagenlbnchaaQStr
namespace Go.Proofs.Ytecmagenlbnchaa
set_option maxRecDepth 100000

end Go.Proofs.Ytecmagenlbnchaa
