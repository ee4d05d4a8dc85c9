/-
  What regions need that draw their order: loads of whole arrays, arrays compared. No condition.
-/
import Derived.Test.YtjbmdeppoobccaaArrEq
import Derived.Test.YtjbmdeppoobccaaRefOctet
namespace Go.Proofs.Ytjbmdeppoobccaa

end Go.Proofs.Ytjbmdeppoobccaa
