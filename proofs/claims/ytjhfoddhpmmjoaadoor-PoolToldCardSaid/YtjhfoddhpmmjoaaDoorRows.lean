/-
  NARROWER THAN 'FOR EVERY INPUT', by the rows' own cells (each row's printed sentence says how): ExtentApart: laid · ExtentSums: laid · ExtentReserve: laid · ExtentLives: laid · ExtentNobody: laid · PoolNobody: laid · PoolStays: laid · PoolTold: laid · PoolRefused: laid.
  DERIVED. THE GIVEN ROWS OF THIS SEAT. 9 by the template 'for every input the law returns true; each argument reads behind the call as it read before'; 0 by the template 'total and deterministic' (their statements: YtjhfoddhpmmjoaaDoorTotals.lean).
  GIVEN WITH THE SEED: the statements are not yours to turn. If you find one false, say at which input.
  Laid BY PROGRAM, IN A SANDBOX (cutbox-rows.mjs): the forced cells as the released guide's own fill.sh prints them over the translation 76fd38cb0b620f16… (all of the seat's roots in one cut). By AI agents, Wed Nov 11 2026. No macro, syntax, notation, axiom, sorry.
-/
import Derived.Test.YtjhfoddhpmmjoaaDoorChecked
import GoSem.Claim
import GoSem.ClaimJoined
import GoSem.ClaimMapViews
import Derived.JoinedTies
import Derived.KernelRfl
namespace Go.Proofs.YtjhfoddhpmmjoaaDoor
/- THE CELL 'sum', in the pinned program and in every row, IS THE sha256 OF THE DUMP (.gsa) THAT YtjhfoddhpmmjoaaDoorProg.lean LOADS. Nothing in Lean hashes anything: it is a label: what it is worth is what the hold of that sum in a sandbox is worth. -/
noncomputable def Tryd.pinned : Pinned := { name := "ytjhfoddhpmmjoaadoor", sum := "76fd38cb0b620f16f55a22cd4f5209cb47dc7ff18ce01608b80ddfb485997351", checked := Tryd.checked }
namespace Rows
def none {H : Type} : Left H := { results := [], args := [] }

/- WHAT THE LISTED PACKAGE-LEVEL VARIABLES READ AS WHEN THE CALL BEGINS. Each datum BY PROGRAM (the guide's laid-datum.mjs) off the statement by which the dump's own 'gosem.cut.vars' lays the variable. In a bare row this is a premise. The card (YtjhfoddhpmmjoaaDoorCards.lean) ties it to the program's text. -/
def laid_math_bits_deBruijn64tab {H : Type} : DataW H := .agg [.lit (.int .u8 0), .lit (.int .u8 1), .lit (.int .u8 56), .lit (.int .u8 2), .lit (.int .u8 57), .lit (.int .u8 49), .lit (.int .u8 28), .lit (.int .u8 3), .lit (.int .u8 61), .lit (.int .u8 58), .lit (.int .u8 42), .lit (.int .u8 50), .lit (.int .u8 38), .lit (.int .u8 29), .lit (.int .u8 17), .lit (.int .u8 4), .lit (.int .u8 62), .lit (.int .u8 47), .lit (.int .u8 59), .lit (.int .u8 36), .lit (.int .u8 45), .lit (.int .u8 43), .lit (.int .u8 51), .lit (.int .u8 22), .lit (.int .u8 53), .lit (.int .u8 39), .lit (.int .u8 33), .lit (.int .u8 30), .lit (.int .u8 24), .lit (.int .u8 18), .lit (.int .u8 12), .lit (.int .u8 5), .lit (.int .u8 63), .lit (.int .u8 55), .lit (.int .u8 48), .lit (.int .u8 27), .lit (.int .u8 60), .lit (.int .u8 41), .lit (.int .u8 37), .lit (.int .u8 16), .lit (.int .u8 46), .lit (.int .u8 35), .lit (.int .u8 44), .lit (.int .u8 21), .lit (.int .u8 52), .lit (.int .u8 32), .lit (.int .u8 23), .lit (.int .u8 11), .lit (.int .u8 54), .lit (.int .u8 26), .lit (.int .u8 40), .lit (.int .u8 15), .lit (.int .u8 34), .lit (.int .u8 20), .lit (.int .u8 31), .lit (.int .u8 10), .lit (.int .u8 25), .lit (.int .u8 14), .lit (.int .u8 19), .lit (.int .u8 9), .lit (.int .u8 13), .lit (.int .u8 8), .lit (.int .u8 7), .lit (.int .u8 6)]

/-- 'casematelaw17.ExtentApart': WHATEVER THE INPUT: true; the input reads as it did. -/
def extentApartSpec : ChangeSpec := { name := "extentApart", fn := fun _ => fun
  | [d1, d2, d3, d4] => { results := [.lit (.bool true)], args := [d1, d2, d3, d4] }
  | _ => none }
def extentApartRow : OpenClaim := { program := "ytjhfoddhpmmjoaadoor", sum := "76fd38cb0b620f16f55a22cd4f5209cb47dc7ff18ce01608b80ddfb485997351", func := "casemate/casematelaw17.ExtentApart", spec := "extentApart", named := ["math/bits.deBruijn64tab"], plainKeys := false, apart := false, laid := [("math/bits.deBruijn64tab", laid_math_bits_deBruijn64tab)] }
def ExtentApartSaid : Prop := extentApartRow.holds Tryd.pinned (OpenSpec.ofChange extentApartSpec)

/-- ITS FALSE NEIGHBOUR: 'it returns false'. Refute it at one input. -/
def extentApartWrong : ChangeSpec := { name := "extentApart", fn := fun _ => fun
  | [d1, d2, d3, d4] => { results := [.lit (.bool false)], args := [d1, d2, d3, d4] }
  | _ => none }
def ExtentApartWrongFalsely : Prop := extentApartRow.holds Tryd.pinned (OpenSpec.ofChange extentApartWrong)

/-- 'casematelaw17.ExtentSums': WHATEVER THE INPUT: true; the input reads as it did. -/
def extentSumsSpec : ChangeSpec := { name := "extentSums", fn := fun _ => fun
  | [d] => { results := [.lit (.bool true)], args := [d] }
  | _ => none }
def extentSumsRow : OpenClaim := { program := "ytjhfoddhpmmjoaadoor", sum := "76fd38cb0b620f16f55a22cd4f5209cb47dc7ff18ce01608b80ddfb485997351", func := "casemate/casematelaw17.ExtentSums", spec := "extentSums", named := ["math/bits.deBruijn64tab"], plainKeys := false, apart := false, laid := [("math/bits.deBruijn64tab", laid_math_bits_deBruijn64tab)] }
def ExtentSumsSaid : Prop := extentSumsRow.holds Tryd.pinned (OpenSpec.ofChange extentSumsSpec)

/-- ITS FALSE NEIGHBOUR: 'it returns false'. Refute it at one input. -/
def extentSumsWrong : ChangeSpec := { name := "extentSums", fn := fun _ => fun
  | [d] => { results := [.lit (.bool false)], args := [d] }
  | _ => none }
def ExtentSumsWrongFalsely : Prop := extentSumsRow.holds Tryd.pinned (OpenSpec.ofChange extentSumsWrong)

/-- 'casematelaw17.ExtentReserve': WHATEVER THE INPUT: true; the input reads as it did. -/
def extentReserveSpec : ChangeSpec := { name := "extentReserve", fn := fun _ => fun
  | [d] => { results := [.lit (.bool true)], args := [d] }
  | _ => none }
def extentReserveRow : OpenClaim := { program := "ytjhfoddhpmmjoaadoor", sum := "76fd38cb0b620f16f55a22cd4f5209cb47dc7ff18ce01608b80ddfb485997351", func := "casemate/casematelaw17.ExtentReserve", spec := "extentReserve", named := ["math/bits.deBruijn64tab"], plainKeys := false, apart := false, laid := [("math/bits.deBruijn64tab", laid_math_bits_deBruijn64tab)] }
def ExtentReserveSaid : Prop := extentReserveRow.holds Tryd.pinned (OpenSpec.ofChange extentReserveSpec)

/-- ITS FALSE NEIGHBOUR: 'it returns false'. Refute it at one input. -/
def extentReserveWrong : ChangeSpec := { name := "extentReserve", fn := fun _ => fun
  | [d] => { results := [.lit (.bool false)], args := [d] }
  | _ => none }
def ExtentReserveWrongFalsely : Prop := extentReserveRow.holds Tryd.pinned (OpenSpec.ofChange extentReserveWrong)

/-- 'casematelaw17.ExtentLives': WHATEVER THE INPUT: true; the input reads as it did. -/
def extentLivesSpec : ChangeSpec := { name := "extentLives", fn := fun _ => fun
  | [d1, d2, d3] => { results := [.lit (.bool true)], args := [d1, d2, d3] }
  | _ => none }
def extentLivesRow : OpenClaim := { program := "ytjhfoddhpmmjoaadoor", sum := "76fd38cb0b620f16f55a22cd4f5209cb47dc7ff18ce01608b80ddfb485997351", func := "casemate/casematelaw17.ExtentLives", spec := "extentLives", named := ["math/bits.deBruijn64tab"], plainKeys := false, apart := false, laid := [("math/bits.deBruijn64tab", laid_math_bits_deBruijn64tab)] }
def ExtentLivesSaid : Prop := extentLivesRow.holds Tryd.pinned (OpenSpec.ofChange extentLivesSpec)

/-- ITS FALSE NEIGHBOUR: 'it returns false'. Refute it at one input. -/
def extentLivesWrong : ChangeSpec := { name := "extentLives", fn := fun _ => fun
  | [d1, d2, d3] => { results := [.lit (.bool false)], args := [d1, d2, d3] }
  | _ => none }
def ExtentLivesWrongFalsely : Prop := extentLivesRow.holds Tryd.pinned (OpenSpec.ofChange extentLivesWrong)

/-- 'casematelaw17.ExtentNobody': WHATEVER THE INPUT: true; the input reads as it did. -/
def extentNobodySpec : ChangeSpec := { name := "extentNobody", fn := fun _ => fun
  | [d] => { results := [.lit (.bool true)], args := [d] }
  | _ => none }
def extentNobodyRow : OpenClaim := { program := "ytjhfoddhpmmjoaadoor", sum := "76fd38cb0b620f16f55a22cd4f5209cb47dc7ff18ce01608b80ddfb485997351", func := "casemate/casematelaw17.ExtentNobody", spec := "extentNobody", named := ["math/bits.deBruijn64tab"], plainKeys := false, apart := false, laid := [("math/bits.deBruijn64tab", laid_math_bits_deBruijn64tab)] }
def ExtentNobodySaid : Prop := extentNobodyRow.holds Tryd.pinned (OpenSpec.ofChange extentNobodySpec)

/-- ITS FALSE NEIGHBOUR: 'it returns false'. Refute it at one input. -/
def extentNobodyWrong : ChangeSpec := { name := "extentNobody", fn := fun _ => fun
  | [d] => { results := [.lit (.bool false)], args := [d] }
  | _ => none }
def ExtentNobodyWrongFalsely : Prop := extentNobodyRow.holds Tryd.pinned (OpenSpec.ofChange extentNobodyWrong)

/-- 'casematelaw18.PoolNobody': WHATEVER THE INPUT: true; the input reads as it did. -/
def poolNobodySpec : ChangeSpec := { name := "poolNobody", fn := fun _ => fun
  | [d1, d2, d3] => { results := [.lit (.bool true)], args := [d1, d2, d3] }
  | _ => none }
def poolNobodyRow : OpenClaim := { program := "ytjhfoddhpmmjoaadoor", sum := "76fd38cb0b620f16f55a22cd4f5209cb47dc7ff18ce01608b80ddfb485997351", func := "casemate/casematelaw18.PoolNobody", spec := "poolNobody", unfollowed := true, recurses := true, named := ["math/bits.deBruijn64tab"], plainKeys := false, apart := false, laid := [("math/bits.deBruijn64tab", laid_math_bits_deBruijn64tab)] }
def PoolNobodySaid : Prop := poolNobodyRow.holds Tryd.pinned (OpenSpec.ofChange poolNobodySpec)

/-- ITS FALSE NEIGHBOUR: 'it returns false'. Refute it at one input. -/
def poolNobodyWrong : ChangeSpec := { name := "poolNobody", fn := fun _ => fun
  | [d1, d2, d3] => { results := [.lit (.bool false)], args := [d1, d2, d3] }
  | _ => none }
def PoolNobodyWrongFalsely : Prop := poolNobodyRow.holds Tryd.pinned (OpenSpec.ofChange poolNobodyWrong)

/-- 'casematelaw18.PoolStays': WHATEVER THE INPUT: true; the input reads as it did. -/
def poolStaysSpec : ChangeSpec := { name := "poolStays", fn := fun _ => fun
  | [d] => { results := [.lit (.bool true)], args := [d] }
  | _ => none }
def poolStaysRow : OpenClaim := { program := "ytjhfoddhpmmjoaadoor", sum := "76fd38cb0b620f16f55a22cd4f5209cb47dc7ff18ce01608b80ddfb485997351", func := "casemate/casematelaw18.PoolStays", spec := "poolStays", unfollowed := true, recurses := true, named := ["math/bits.deBruijn64tab"], plainKeys := false, apart := false, laid := [("math/bits.deBruijn64tab", laid_math_bits_deBruijn64tab)] }
def PoolStaysSaid : Prop := poolStaysRow.holds Tryd.pinned (OpenSpec.ofChange poolStaysSpec)

/-- ITS FALSE NEIGHBOUR: 'it returns false'. Refute it at one input. -/
def poolStaysWrong : ChangeSpec := { name := "poolStays", fn := fun _ => fun
  | [d] => { results := [.lit (.bool false)], args := [d] }
  | _ => none }
def PoolStaysWrongFalsely : Prop := poolStaysRow.holds Tryd.pinned (OpenSpec.ofChange poolStaysWrong)

/-- 'casematelaw18.PoolTold': WHATEVER THE INPUT: true; the input reads as it did. -/
def poolToldSpec : ChangeSpec := { name := "poolTold", fn := fun _ => fun
  | [d1, d2, d3] => { results := [.lit (.bool true)], args := [d1, d2, d3] }
  | _ => none }
def poolToldRow : OpenClaim := { program := "ytjhfoddhpmmjoaadoor", sum := "76fd38cb0b620f16f55a22cd4f5209cb47dc7ff18ce01608b80ddfb485997351", func := "casemate/casematelaw18.PoolTold", spec := "poolTold", unfollowed := true, recurses := true, named := ["math/bits.deBruijn64tab"], plainKeys := false, apart := false, laid := [("math/bits.deBruijn64tab", laid_math_bits_deBruijn64tab)] }
def PoolToldSaid : Prop := poolToldRow.holds Tryd.pinned (OpenSpec.ofChange poolToldSpec)

/-- ITS FALSE NEIGHBOUR: 'it returns false'. Refute it at one input. -/
def poolToldWrong : ChangeSpec := { name := "poolTold", fn := fun _ => fun
  | [d1, d2, d3] => { results := [.lit (.bool false)], args := [d1, d2, d3] }
  | _ => none }
def PoolToldWrongFalsely : Prop := poolToldRow.holds Tryd.pinned (OpenSpec.ofChange poolToldWrong)

/-- 'casematelaw18.PoolRefused': WHATEVER THE INPUT: true; the input reads as it did. -/
def poolRefusedSpec : ChangeSpec := { name := "poolRefused", fn := fun _ => fun
  | [d1, d2] => { results := [.lit (.bool true)], args := [d1, d2] }
  | _ => none }
def poolRefusedRow : OpenClaim := { program := "ytjhfoddhpmmjoaadoor", sum := "76fd38cb0b620f16f55a22cd4f5209cb47dc7ff18ce01608b80ddfb485997351", func := "casemate/casematelaw18.PoolRefused", spec := "poolRefused", unfollowed := true, recurses := true, named := ["math/bits.deBruijn64tab"], plainKeys := false, apart := false, laid := [("math/bits.deBruijn64tab", laid_math_bits_deBruijn64tab)] }
def PoolRefusedSaid : Prop := poolRefusedRow.holds Tryd.pinned (OpenSpec.ofChange poolRefusedSpec)

/-- ITS FALSE NEIGHBOUR: 'it returns false'. Refute it at one input. -/
def poolRefusedWrong : ChangeSpec := { name := "poolRefused", fn := fun _ => fun
  | [d1, d2] => { results := [.lit (.bool false)], args := [d1, d2] }
  | _ => none }
def PoolRefusedWrongFalsely : Prop := poolRefusedRow.holds Tryd.pinned (OpenSpec.ofChange poolRefusedWrong)

/- THE SECOND FORM. 'bulk': how many values and letters a reading holds, each counted each time it is reached (what is shared counts as often as it is met; a slice's spare places count too). A statement '..UptoSaid' is the law's where the arguments, and the package variables that the reading takes, are together of bulk at most 1048576: NARROWER than '..Said'. Prove '..Said' where nothing that the law and all that it calls make is longer than what came in: it says more and counts as full. Else prove '..UptoSaid'. A law counts once. -/
mutual
def uptoBulk {H : Type} : DataW H → Nat
  | .lit (.string bytes) => bytes.length + 1
  | .lit _ => 1
  | .nil => 1
  | .ptr d => uptoBulk d + 1
  | .slice elems spare => uptoBulkAll elems + uptoBulkAll spare + 1
  | .agg parts => uptoBulkAll parts + 1
  | .iface _ d => uptoBulk d + 1
  | .map entries => uptoBulkEntries entries + 1
  | .held _ => 1
def uptoBulkAll {H : Type} : List (DataW H) → Nat
  | [] => 0
  | d :: r => uptoBulk d + uptoBulkAll r
def uptoBulkEntries {H : Type} : List (Lit × DataW H) → Nat
  | [] => 0
  | x :: r => uptoBulkEntry x + uptoBulkEntries r
def uptoBulkEntry {H : Type} : Lit × DataW H → Nat
  | (.string bytes, d) => bytes.length + uptoBulk d + 1
  | (_, d) => uptoBulk d + 1
 end
def uptoSmall : (H : Type) → List (DataW H) → Bool := fun _ ds => decide (uptoBulkAll ds ≤ 1048576)
def OpenSpec.upto (s : _root_.Go.ChangeSpec) : _root_.Go.OpenSpec := { _root_.Go.OpenSpec.ofChange s with cond := some uptoSmall }

/-- 'casematelaw17.ExtentApart', WHERE WHAT IT READS IS OF BULK AT MOST 1048576: true; the input reads as it did. -/
def extentApartUptoRow : OpenClaim := { program := "ytjhfoddhpmmjoaadoor", sum := "76fd38cb0b620f16f55a22cd4f5209cb47dc7ff18ce01608b80ddfb485997351", func := "casemate/casematelaw17.ExtentApart", spec := "extentApart", named := ["math/bits.deBruijn64tab"], plainKeys := false, apart := false, laid := [("math/bits.deBruijn64tab", laid_math_bits_deBruijn64tab)], narrowed := true }
def ExtentApartUptoSaid : Prop := extentApartUptoRow.holds Tryd.pinned (OpenSpec.upto extentApartSpec)

/-- 'casematelaw17.ExtentSums', WHERE WHAT IT READS IS OF BULK AT MOST 1048576: true; the input reads as it did. -/
def extentSumsUptoRow : OpenClaim := { program := "ytjhfoddhpmmjoaadoor", sum := "76fd38cb0b620f16f55a22cd4f5209cb47dc7ff18ce01608b80ddfb485997351", func := "casemate/casematelaw17.ExtentSums", spec := "extentSums", named := ["math/bits.deBruijn64tab"], plainKeys := false, apart := false, laid := [("math/bits.deBruijn64tab", laid_math_bits_deBruijn64tab)], narrowed := true }
def ExtentSumsUptoSaid : Prop := extentSumsUptoRow.holds Tryd.pinned (OpenSpec.upto extentSumsSpec)

/-- 'casematelaw17.ExtentReserve', WHERE WHAT IT READS IS OF BULK AT MOST 1048576: true; the input reads as it did. -/
def extentReserveUptoRow : OpenClaim := { program := "ytjhfoddhpmmjoaadoor", sum := "76fd38cb0b620f16f55a22cd4f5209cb47dc7ff18ce01608b80ddfb485997351", func := "casemate/casematelaw17.ExtentReserve", spec := "extentReserve", named := ["math/bits.deBruijn64tab"], plainKeys := false, apart := false, laid := [("math/bits.deBruijn64tab", laid_math_bits_deBruijn64tab)], narrowed := true }
def ExtentReserveUptoSaid : Prop := extentReserveUptoRow.holds Tryd.pinned (OpenSpec.upto extentReserveSpec)

/-- 'casematelaw17.ExtentLives', WHERE WHAT IT READS IS OF BULK AT MOST 1048576: true; the input reads as it did. -/
def extentLivesUptoRow : OpenClaim := { program := "ytjhfoddhpmmjoaadoor", sum := "76fd38cb0b620f16f55a22cd4f5209cb47dc7ff18ce01608b80ddfb485997351", func := "casemate/casematelaw17.ExtentLives", spec := "extentLives", named := ["math/bits.deBruijn64tab"], plainKeys := false, apart := false, laid := [("math/bits.deBruijn64tab", laid_math_bits_deBruijn64tab)], narrowed := true }
def ExtentLivesUptoSaid : Prop := extentLivesUptoRow.holds Tryd.pinned (OpenSpec.upto extentLivesSpec)

/-- 'casematelaw17.ExtentNobody', WHERE WHAT IT READS IS OF BULK AT MOST 1048576: true; the input reads as it did. -/
def extentNobodyUptoRow : OpenClaim := { program := "ytjhfoddhpmmjoaadoor", sum := "76fd38cb0b620f16f55a22cd4f5209cb47dc7ff18ce01608b80ddfb485997351", func := "casemate/casematelaw17.ExtentNobody", spec := "extentNobody", named := ["math/bits.deBruijn64tab"], plainKeys := false, apart := false, laid := [("math/bits.deBruijn64tab", laid_math_bits_deBruijn64tab)], narrowed := true }
def ExtentNobodyUptoSaid : Prop := extentNobodyUptoRow.holds Tryd.pinned (OpenSpec.upto extentNobodySpec)

/-- 'casematelaw18.PoolNobody', WHERE WHAT IT READS IS OF BULK AT MOST 1048576: true; the input reads as it did. -/
def poolNobodyUptoRow : OpenClaim := { program := "ytjhfoddhpmmjoaadoor", sum := "76fd38cb0b620f16f55a22cd4f5209cb47dc7ff18ce01608b80ddfb485997351", func := "casemate/casematelaw18.PoolNobody", spec := "poolNobody", unfollowed := true, recurses := true, named := ["math/bits.deBruijn64tab"], plainKeys := false, apart := false, laid := [("math/bits.deBruijn64tab", laid_math_bits_deBruijn64tab)], narrowed := true }
def PoolNobodyUptoSaid : Prop := poolNobodyUptoRow.holds Tryd.pinned (OpenSpec.upto poolNobodySpec)

/-- 'casematelaw18.PoolStays', WHERE WHAT IT READS IS OF BULK AT MOST 1048576: true; the input reads as it did. -/
def poolStaysUptoRow : OpenClaim := { program := "ytjhfoddhpmmjoaadoor", sum := "76fd38cb0b620f16f55a22cd4f5209cb47dc7ff18ce01608b80ddfb485997351", func := "casemate/casematelaw18.PoolStays", spec := "poolStays", unfollowed := true, recurses := true, named := ["math/bits.deBruijn64tab"], plainKeys := false, apart := false, laid := [("math/bits.deBruijn64tab", laid_math_bits_deBruijn64tab)], narrowed := true }
def PoolStaysUptoSaid : Prop := poolStaysUptoRow.holds Tryd.pinned (OpenSpec.upto poolStaysSpec)

/-- 'casematelaw18.PoolTold', WHERE WHAT IT READS IS OF BULK AT MOST 1048576: true; the input reads as it did. -/
def poolToldUptoRow : OpenClaim := { program := "ytjhfoddhpmmjoaadoor", sum := "76fd38cb0b620f16f55a22cd4f5209cb47dc7ff18ce01608b80ddfb485997351", func := "casemate/casematelaw18.PoolTold", spec := "poolTold", unfollowed := true, recurses := true, named := ["math/bits.deBruijn64tab"], plainKeys := false, apart := false, laid := [("math/bits.deBruijn64tab", laid_math_bits_deBruijn64tab)], narrowed := true }
def PoolToldUptoSaid : Prop := poolToldUptoRow.holds Tryd.pinned (OpenSpec.upto poolToldSpec)

/-- 'casematelaw18.PoolRefused', WHERE WHAT IT READS IS OF BULK AT MOST 1048576: true; the input reads as it did. -/
def poolRefusedUptoRow : OpenClaim := { program := "ytjhfoddhpmmjoaadoor", sum := "76fd38cb0b620f16f55a22cd4f5209cb47dc7ff18ce01608b80ddfb485997351", func := "casemate/casematelaw18.PoolRefused", spec := "poolRefused", unfollowed := true, recurses := true, named := ["math/bits.deBruijn64tab"], plainKeys := false, apart := false, laid := [("math/bits.deBruijn64tab", laid_math_bits_deBruijn64tab)], narrowed := true }
def PoolRefusedUptoSaid : Prop := poolRefusedUptoRow.holds Tryd.pinned (OpenSpec.upto poolRefusedSpec)

end Rows
end Go.Proofs.YtjhfoddhpmmjoaaDoor
