/-
  Texts joined by 'append', texts in a row. Condition: not too long.
-/
import Derived.Test.YtjbmdeppoobccaaStr
import Derived.Test.YtjbmdeppoobccaaShaBoth
namespace Go.Proofs.Ytjbmdeppoobccaa
open Go.RowKit

end Go.Proofs.Ytjbmdeppoobccaa
