/-
  Slices cut: 's[lo:hi]' of a slice whose elements are one cell; texts and rows of texts cut. Conditions: Go's own bounds.
-/
import Derived.Test.YtjbmdeppoobccaaText
namespace Go.Proofs.Ytjbmdeppoobccaa
open Go.RowKit


end Go.Proofs.Ytjbmdeppoobccaa
