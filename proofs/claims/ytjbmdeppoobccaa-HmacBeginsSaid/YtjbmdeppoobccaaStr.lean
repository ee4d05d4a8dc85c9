/-
  Texts as strings: 'string(b)' of bytes, and when two are one. No condition.
-/
import Derived.Test.YtjbmdeppoobccaaRefOctet
import Derived.Laws.BytesArg
import Derived.Deep.RegionHeldLaw
namespace Go.Proofs.Ytjbmdeppoobccaa
open Go.RowKit

end Go.Proofs.Ytjbmdeppoobccaa
