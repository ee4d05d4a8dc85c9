/-
  No cell of these rows narrows 'for every input' (looked for: loops, veiled, ifaces, maps, wideKeys, modest, calm, conditions, laid).
  DERIVED. THE GIVEN ROWS OF THIS SEAT. 14 by the template 'for every input the law returns true; each argument reads behind the call as it read before'; 0 by the template 'total and deterministic' (their statements: YtnadgjlmlnhknaaTotals.lean).
  GIVEN WITH THE SEED: the statements are not yours to turn. If you find one false, say at which input.
  Laid BY PROGRAM, IN A SANDBOX (cutbox-rows.mjs): the forced cells as the released guide's own fill.sh prints them over the translation b1042ab4ee6441b3… (all of the seat's roots in one cut). By AI agents, Wed Nov 11 2026. No macro, syntax, notation, axiom, sorry.
-/
import Derived.Test.YtnadgjlmlnhknaaChecked
import GoSem.Claim
import GoSem.ClaimJoined
import GoSem.ClaimMapViews
import Derived.JoinedTies
import Derived.KernelRfl
namespace Go.Proofs.Ytnadgjlmlnhknaa
/- THE CELL 'sum', in the pinned program and in every row, IS THE sha256 OF THE DUMP (.gsa) THAT YtnadgjlmlnhknaaProg.lean LOADS. Nothing in Lean hashes anything: it is a label: what it is worth is what the hold of that sum in a sandbox is worth. -/
noncomputable def Try.pinned : Pinned := { name := "ytnadgjlmlnhknaa", sum := "b1042ab4ee6441b34ec583183515813617bc282a18d40515d21c073c2f791921", checked := Try.checked }
namespace Rows
def none {H : Type} : Left H := { results := [], args := [] }

/-- 'casematelaw05.AesTurns': WHATEVER THE INPUT: true; the input reads as it did. -/
def aesTurnsSpec : ChangeSpec := { name := "aesTurns", fn := fun _ => fun
  | [d1, d2] => { results := [.lit (.bool true)], args := [d1, d2] }
  | _ => none }
def aesTurnsRow : OpenClaim := { program := "ytnadgjlmlnhknaa", sum := "b1042ab4ee6441b34ec583183515813617bc282a18d40515d21c073c2f791921", func := "casemate/casematelaw05.AesTurns", spec := "aesTurns", unfollowed := true, recurses := true, apart := false }
def AesTurnsSaid : Prop := aesTurnsRow.holds Try.pinned (OpenSpec.ofChange aesTurnsSpec)

/-- ITS FALSE NEIGHBOUR: 'it returns false'. Refute it at one input. -/
def aesTurnsWrong : ChangeSpec := { name := "aesTurns", fn := fun _ => fun
  | [d1, d2] => { results := [.lit (.bool false)], args := [d1, d2] }
  | _ => none }
def AesTurnsWrongFalsely : Prop := aesTurnsRow.holds Try.pinned (OpenSpec.ofChange aesTurnsWrong)

/-- 'casematelaw05.AesBack': WHATEVER THE INPUT: true; the input reads as it did. -/
def aesBackSpec : ChangeSpec := { name := "aesBack", fn := fun _ => fun
  | [d1, d2] => { results := [.lit (.bool true)], args := [d1, d2] }
  | _ => none }
def aesBackRow : OpenClaim := { program := "ytnadgjlmlnhknaa", sum := "b1042ab4ee6441b34ec583183515813617bc282a18d40515d21c073c2f791921", func := "casemate/casematelaw05.AesBack", spec := "aesBack", unfollowed := true, recurses := true, apart := false }
def AesBackSaid : Prop := aesBackRow.holds Try.pinned (OpenSpec.ofChange aesBackSpec)

/-- ITS FALSE NEIGHBOUR: 'it returns false'. Refute it at one input. -/
def aesBackWrong : ChangeSpec := { name := "aesBack", fn := fun _ => fun
  | [d1, d2] => { results := [.lit (.bool false)], args := [d1, d2] }
  | _ => none }
def AesBackWrongFalsely : Prop := aesBackRow.holds Try.pinned (OpenSpec.ofChange aesBackWrong)

/-- 'casematelaw05.AesApart': WHATEVER THE INPUT: true; the input reads as it did. -/
def aesApartSpec : ChangeSpec := { name := "aesApart", fn := fun _ => fun
  | [d1, d2, d3] => { results := [.lit (.bool true)], args := [d1, d2, d3] }
  | _ => none }
def aesApartRow : OpenClaim := { program := "ytnadgjlmlnhknaa", sum := "b1042ab4ee6441b34ec583183515813617bc282a18d40515d21c073c2f791921", func := "casemate/casematelaw05.AesApart", spec := "aesApart", unfollowed := true, recurses := true, apart := false }
def AesApartSaid : Prop := aesApartRow.holds Try.pinned (OpenSpec.ofChange aesApartSpec)

/-- ITS FALSE NEIGHBOUR: 'it returns false'. Refute it at one input. -/
def aesApartWrong : ChangeSpec := { name := "aesApart", fn := fun _ => fun
  | [d1, d2, d3] => { results := [.lit (.bool false)], args := [d1, d2, d3] }
  | _ => none }
def AesApartWrongFalsely : Prop := aesApartRow.holds Try.pinned (OpenSpec.ofChange aesApartWrong)

/-- 'casematelaw05.AesWords': WHATEVER THE INPUT: true; the input reads as it did. -/
def aesWordsSpec : ChangeSpec := { name := "aesWords", fn := fun _ => fun
  | [d] => { results := [.lit (.bool true)], args := [d] }
  | _ => none }
def aesWordsRow : OpenClaim := { program := "ytnadgjlmlnhknaa", sum := "b1042ab4ee6441b34ec583183515813617bc282a18d40515d21c073c2f791921", func := "casemate/casematelaw05.AesWords", spec := "aesWords", unfollowed := true, recurses := true, apart := false }
def AesWordsSaid : Prop := aesWordsRow.holds Try.pinned (OpenSpec.ofChange aesWordsSpec)

/-- ITS FALSE NEIGHBOUR: 'it returns false'. Refute it at one input. -/
def aesWordsWrong : ChangeSpec := { name := "aesWords", fn := fun _ => fun
  | [d] => { results := [.lit (.bool false)], args := [d] }
  | _ => none }
def AesWordsWrongFalsely : Prop := aesWordsRow.holds Try.pinned (OpenSpec.ofChange aesWordsWrong)

/-- 'casematelaw05.AesKeys': WHATEVER THE INPUT: true; the input reads as it did. -/
def aesKeysSpec : ChangeSpec := { name := "aesKeys", fn := fun _ => fun
  | [d] => { results := [.lit (.bool true)], args := [d] }
  | _ => none }
def aesKeysRow : OpenClaim := { program := "ytnadgjlmlnhknaa", sum := "b1042ab4ee6441b34ec583183515813617bc282a18d40515d21c073c2f791921", func := "casemate/casematelaw05.AesKeys", spec := "aesKeys", unfollowed := true, recurses := true, apart := false }
def AesKeysSaid : Prop := aesKeysRow.holds Try.pinned (OpenSpec.ofChange aesKeysSpec)

/-- ITS FALSE NEIGHBOUR: 'it returns false'. Refute it at one input. -/
def aesKeysWrong : ChangeSpec := { name := "aesKeys", fn := fun _ => fun
  | [d] => { results := [.lit (.bool false)], args := [d] }
  | _ => none }
def AesKeysWrongFalsely : Prop := aesKeysRow.holds Try.pinned (OpenSpec.ofChange aesKeysWrong)

/-- 'casematelaw06.XtsMasks': WHATEVER THE INPUT: true; the input reads as it did. -/
def xtsMasksSpec : ChangeSpec := { name := "xtsMasks", fn := fun _ => fun
  | [d1, d2] => { results := [.lit (.bool true)], args := [d1, d2] }
  | _ => none }
def xtsMasksRow : OpenClaim := { program := "ytnadgjlmlnhknaa", sum := "b1042ab4ee6441b34ec583183515813617bc282a18d40515d21c073c2f791921", func := "casemate/casematelaw06.XtsMasks", spec := "xtsMasks", unfollowed := true, recurses := true, apart := false }
def XtsMasksSaid : Prop := xtsMasksRow.holds Try.pinned (OpenSpec.ofChange xtsMasksSpec)

/-- ITS FALSE NEIGHBOUR: 'it returns false'. Refute it at one input. -/
def xtsMasksWrong : ChangeSpec := { name := "xtsMasks", fn := fun _ => fun
  | [d1, d2] => { results := [.lit (.bool false)], args := [d1, d2] }
  | _ => none }
def XtsMasksWrongFalsely : Prop := xtsMasksRow.holds Try.pinned (OpenSpec.ofChange xtsMasksWrong)

/-- 'casematelaw06.XtsSectors': WHATEVER THE INPUT: true; the input reads as it did. -/
def xtsSectorsSpec : ChangeSpec := { name := "xtsSectors", fn := fun _ => fun
  | [d1, d2, d3, d4] => { results := [.lit (.bool true)], args := [d1, d2, d3, d4] }
  | _ => none }
def xtsSectorsRow : OpenClaim := { program := "ytnadgjlmlnhknaa", sum := "b1042ab4ee6441b34ec583183515813617bc282a18d40515d21c073c2f791921", func := "casemate/casematelaw06.XtsSectors", spec := "xtsSectors", unfollowed := true, recurses := true, apart := false }
def XtsSectorsSaid : Prop := xtsSectorsRow.holds Try.pinned (OpenSpec.ofChange xtsSectorsSpec)

/-- ITS FALSE NEIGHBOUR: 'it returns false'. Refute it at one input. -/
def xtsSectorsWrong : ChangeSpec := { name := "xtsSectors", fn := fun _ => fun
  | [d1, d2, d3, d4] => { results := [.lit (.bool false)], args := [d1, d2, d3, d4] }
  | _ => none }
def XtsSectorsWrongFalsely : Prop := xtsSectorsRow.holds Try.pinned (OpenSpec.ofChange xtsSectorsWrong)

/-- 'casematelaw06.XtsBack': WHATEVER THE INPUT: true; the input reads as it did. -/
def xtsBackSpec : ChangeSpec := { name := "xtsBack", fn := fun _ => fun
  | [d1, d2, d3, d4] => { results := [.lit (.bool true)], args := [d1, d2, d3, d4] }
  | _ => none }
def xtsBackRow : OpenClaim := { program := "ytnadgjlmlnhknaa", sum := "b1042ab4ee6441b34ec583183515813617bc282a18d40515d21c073c2f791921", func := "casemate/casematelaw06.XtsBack", spec := "xtsBack", unfollowed := true, recurses := true, apart := false }
def XtsBackSaid : Prop := xtsBackRow.holds Try.pinned (OpenSpec.ofChange xtsBackSpec)

/-- ITS FALSE NEIGHBOUR: 'it returns false'. Refute it at one input. -/
def xtsBackWrong : ChangeSpec := { name := "xtsBack", fn := fun _ => fun
  | [d1, d2, d3, d4] => { results := [.lit (.bool false)], args := [d1, d2, d3, d4] }
  | _ => none }
def XtsBackWrongFalsely : Prop := xtsBackRow.holds Try.pinned (OpenSpec.ofChange xtsBackWrong)

/-- 'casematelaw06.XtsBlocks': WHATEVER THE INPUT: true; the input reads as it did. -/
def xtsBlocksSpec : ChangeSpec := { name := "xtsBlocks", fn := fun _ => fun
  | [d1, d2, d3, d4, d5] => { results := [.lit (.bool true)], args := [d1, d2, d3, d4, d5] }
  | _ => none }
def xtsBlocksRow : OpenClaim := { program := "ytnadgjlmlnhknaa", sum := "b1042ab4ee6441b34ec583183515813617bc282a18d40515d21c073c2f791921", func := "casemate/casematelaw06.XtsBlocks", spec := "xtsBlocks", unfollowed := true, recurses := true, apart := false }
def XtsBlocksSaid : Prop := xtsBlocksRow.holds Try.pinned (OpenSpec.ofChange xtsBlocksSpec)

/-- ITS FALSE NEIGHBOUR: 'it returns false'. Refute it at one input. -/
def xtsBlocksWrong : ChangeSpec := { name := "xtsBlocks", fn := fun _ => fun
  | [d1, d2, d3, d4, d5] => { results := [.lit (.bool false)], args := [d1, d2, d3, d4, d5] }
  | _ => none }
def XtsBlocksWrongFalsely : Prop := xtsBlocksRow.holds Try.pinned (OpenSpec.ofChange xtsBlocksWrong)

/-- 'casematelaw06.XtsTweaks': WHATEVER THE INPUT: true; the input reads as it did. -/
def xtsTweaksSpec : ChangeSpec := { name := "xtsTweaks", fn := fun _ => fun
  | [d1, d2, d3, d4] => { results := [.lit (.bool true)], args := [d1, d2, d3, d4] }
  | _ => none }
def xtsTweaksRow : OpenClaim := { program := "ytnadgjlmlnhknaa", sum := "b1042ab4ee6441b34ec583183515813617bc282a18d40515d21c073c2f791921", func := "casemate/casematelaw06.XtsTweaks", spec := "xtsTweaks", unfollowed := true, recurses := true, apart := false }
def XtsTweaksSaid : Prop := xtsTweaksRow.holds Try.pinned (OpenSpec.ofChange xtsTweaksSpec)

/-- ITS FALSE NEIGHBOUR: 'it returns false'. Refute it at one input. -/
def xtsTweaksWrong : ChangeSpec := { name := "xtsTweaks", fn := fun _ => fun
  | [d1, d2, d3, d4] => { results := [.lit (.bool false)], args := [d1, d2, d3, d4] }
  | _ => none }
def XtsTweaksWrongFalsely : Prop := xtsTweaksRow.holds Try.pinned (OpenSpec.ofChange xtsTweaksWrong)

/-- 'casematelaw07.WrapWraps': WHATEVER THE INPUT: true; the input reads as it did. -/
def wrapWrapsSpec : ChangeSpec := { name := "wrapWraps", fn := fun _ => fun
  | [d1, d2] => { results := [.lit (.bool true)], args := [d1, d2] }
  | _ => none }
def wrapWrapsRow : OpenClaim := { program := "ytnadgjlmlnhknaa", sum := "b1042ab4ee6441b34ec583183515813617bc282a18d40515d21c073c2f791921", func := "casemate/casematelaw07.WrapWraps", spec := "wrapWraps", unfollowed := true, recurses := true, apart := false }
def WrapWrapsSaid : Prop := wrapWrapsRow.holds Try.pinned (OpenSpec.ofChange wrapWrapsSpec)

/-- ITS FALSE NEIGHBOUR: 'it returns false'. Refute it at one input. -/
def wrapWrapsWrong : ChangeSpec := { name := "wrapWraps", fn := fun _ => fun
  | [d1, d2] => { results := [.lit (.bool false)], args := [d1, d2] }
  | _ => none }
def WrapWrapsWrongFalsely : Prop := wrapWrapsRow.holds Try.pinned (OpenSpec.ofChange wrapWrapsWrong)

/-- 'casematelaw07.WrapUnwraps': WHATEVER THE INPUT: true; the input reads as it did. -/
def wrapUnwrapsSpec : ChangeSpec := { name := "wrapUnwraps", fn := fun _ => fun
  | [d1, d2] => { results := [.lit (.bool true)], args := [d1, d2] }
  | _ => none }
def wrapUnwrapsRow : OpenClaim := { program := "ytnadgjlmlnhknaa", sum := "b1042ab4ee6441b34ec583183515813617bc282a18d40515d21c073c2f791921", func := "casemate/casematelaw07.WrapUnwraps", spec := "wrapUnwraps", unfollowed := true, recurses := true, apart := false }
def WrapUnwrapsSaid : Prop := wrapUnwrapsRow.holds Try.pinned (OpenSpec.ofChange wrapUnwrapsSpec)

/-- ITS FALSE NEIGHBOUR: 'it returns false'. Refute it at one input. -/
def wrapUnwrapsWrong : ChangeSpec := { name := "wrapUnwraps", fn := fun _ => fun
  | [d1, d2] => { results := [.lit (.bool false)], args := [d1, d2] }
  | _ => none }
def WrapUnwrapsWrongFalsely : Prop := wrapUnwrapsRow.holds Try.pinned (OpenSpec.ofChange wrapUnwrapsWrong)

/-- 'casematelaw07.WrapBack': WHATEVER THE INPUT: true; the input reads as it did. -/
def wrapBackSpec : ChangeSpec := { name := "wrapBack", fn := fun _ => fun
  | [d1, d2, d3] => { results := [.lit (.bool true)], args := [d1, d2, d3] }
  | _ => none }
def wrapBackRow : OpenClaim := { program := "ytnadgjlmlnhknaa", sum := "b1042ab4ee6441b34ec583183515813617bc282a18d40515d21c073c2f791921", func := "casemate/casematelaw07.WrapBack", spec := "wrapBack", unfollowed := true, recurses := true, apart := false }
def WrapBackSaid : Prop := wrapBackRow.holds Try.pinned (OpenSpec.ofChange wrapBackSpec)

/-- ITS FALSE NEIGHBOUR: 'it returns false'. Refute it at one input. -/
def wrapBackWrong : ChangeSpec := { name := "wrapBack", fn := fun _ => fun
  | [d1, d2, d3] => { results := [.lit (.bool false)], args := [d1, d2, d3] }
  | _ => none }
def WrapBackWrongFalsely : Prop := wrapBackRow.holds Try.pinned (OpenSpec.ofChange wrapBackWrong)

/-- 'casematelaw07.WrapApart': WHATEVER THE INPUT: true; the input reads as it did. -/
def wrapApartSpec : ChangeSpec := { name := "wrapApart", fn := fun _ => fun
  | [d1, d2, d3] => { results := [.lit (.bool true)], args := [d1, d2, d3] }
  | _ => none }
def wrapApartRow : OpenClaim := { program := "ytnadgjlmlnhknaa", sum := "b1042ab4ee6441b34ec583183515813617bc282a18d40515d21c073c2f791921", func := "casemate/casematelaw07.WrapApart", spec := "wrapApart", unfollowed := true, recurses := true, apart := false }
def WrapApartSaid : Prop := wrapApartRow.holds Try.pinned (OpenSpec.ofChange wrapApartSpec)

/-- ITS FALSE NEIGHBOUR: 'it returns false'. Refute it at one input. -/
def wrapApartWrong : ChangeSpec := { name := "wrapApart", fn := fun _ => fun
  | [d1, d2, d3] => { results := [.lit (.bool false)], args := [d1, d2, d3] }
  | _ => none }
def WrapApartWrongFalsely : Prop := wrapApartRow.holds Try.pinned (OpenSpec.ofChange wrapApartWrong)

/- THE SECOND FORM. 'bulk': how many values and letters a reading holds, each counted each time it is reached (what is shared counts as often as it is met; a slice's spare places count too). A statement '..UptoSaid' is the law's where the arguments, and the package variables that the reading takes, are together of bulk at most 1048576: NARROWER than '..Said'. Prove '..Said' where nothing that the law and all that it calls make is longer than what came in: it says more and counts as full. Else prove '..UptoSaid'. A law counts once. -/
mutual
def uptoBulk {H : Type} : DataW H → Nat
  | .lit (.string bytes) => bytes.length + 1
  | .lit _ => 1
  | .nil => 1
  | .ptr d => uptoBulk d + 1
  | .slice elems spare => uptoBulkAll elems + uptoBulkAll spare + 1
  | .agg parts => uptoBulkAll parts + 1
  | .iface _ d => uptoBulk d + 1
  | .map entries => uptoBulkEntries entries + 1
  | .held _ => 1
def uptoBulkAll {H : Type} : List (DataW H) → Nat
  | [] => 0
  | d :: r => uptoBulk d + uptoBulkAll r
def uptoBulkEntries {H : Type} : List (Lit × DataW H) → Nat
  | [] => 0
  | x :: r => uptoBulkEntry x + uptoBulkEntries r
def uptoBulkEntry {H : Type} : Lit × DataW H → Nat
  | (.string bytes, d) => bytes.length + uptoBulk d + 1
  | (_, d) => uptoBulk d + 1
 end
def uptoSmall : (H : Type) → List (DataW H) → Bool := fun _ ds => decide (uptoBulkAll ds ≤ 1048576)
def OpenSpec.upto (s : _root_.Go.ChangeSpec) : _root_.Go.OpenSpec := { _root_.Go.OpenSpec.ofChange s with cond := some uptoSmall }

/-- 'casematelaw05.AesTurns', WHERE WHAT IT READS IS OF BULK AT MOST 1048576: true; the input reads as it did. -/
def aesTurnsUptoRow : OpenClaim := { program := "ytnadgjlmlnhknaa", sum := "b1042ab4ee6441b34ec583183515813617bc282a18d40515d21c073c2f791921", func := "casemate/casematelaw05.AesTurns", spec := "aesTurns", unfollowed := true, recurses := true, apart := false, narrowed := true }
def AesTurnsUptoSaid : Prop := aesTurnsUptoRow.holds Try.pinned (OpenSpec.upto aesTurnsSpec)

/-- 'casematelaw05.AesBack', WHERE WHAT IT READS IS OF BULK AT MOST 1048576: true; the input reads as it did. -/
def aesBackUptoRow : OpenClaim := { program := "ytnadgjlmlnhknaa", sum := "b1042ab4ee6441b34ec583183515813617bc282a18d40515d21c073c2f791921", func := "casemate/casematelaw05.AesBack", spec := "aesBack", unfollowed := true, recurses := true, apart := false, narrowed := true }
def AesBackUptoSaid : Prop := aesBackUptoRow.holds Try.pinned (OpenSpec.upto aesBackSpec)

/-- 'casematelaw05.AesApart', WHERE WHAT IT READS IS OF BULK AT MOST 1048576: true; the input reads as it did. -/
def aesApartUptoRow : OpenClaim := { program := "ytnadgjlmlnhknaa", sum := "b1042ab4ee6441b34ec583183515813617bc282a18d40515d21c073c2f791921", func := "casemate/casematelaw05.AesApart", spec := "aesApart", unfollowed := true, recurses := true, apart := false, narrowed := true }
def AesApartUptoSaid : Prop := aesApartUptoRow.holds Try.pinned (OpenSpec.upto aesApartSpec)

/-- 'casematelaw05.AesWords', WHERE WHAT IT READS IS OF BULK AT MOST 1048576: true; the input reads as it did. -/
def aesWordsUptoRow : OpenClaim := { program := "ytnadgjlmlnhknaa", sum := "b1042ab4ee6441b34ec583183515813617bc282a18d40515d21c073c2f791921", func := "casemate/casematelaw05.AesWords", spec := "aesWords", unfollowed := true, recurses := true, apart := false, narrowed := true }
def AesWordsUptoSaid : Prop := aesWordsUptoRow.holds Try.pinned (OpenSpec.upto aesWordsSpec)

/-- 'casematelaw05.AesKeys', WHERE WHAT IT READS IS OF BULK AT MOST 1048576: true; the input reads as it did. -/
def aesKeysUptoRow : OpenClaim := { program := "ytnadgjlmlnhknaa", sum := "b1042ab4ee6441b34ec583183515813617bc282a18d40515d21c073c2f791921", func := "casemate/casematelaw05.AesKeys", spec := "aesKeys", unfollowed := true, recurses := true, apart := false, narrowed := true }
def AesKeysUptoSaid : Prop := aesKeysUptoRow.holds Try.pinned (OpenSpec.upto aesKeysSpec)

/-- 'casematelaw06.XtsMasks', WHERE WHAT IT READS IS OF BULK AT MOST 1048576: true; the input reads as it did. -/
def xtsMasksUptoRow : OpenClaim := { program := "ytnadgjlmlnhknaa", sum := "b1042ab4ee6441b34ec583183515813617bc282a18d40515d21c073c2f791921", func := "casemate/casematelaw06.XtsMasks", spec := "xtsMasks", unfollowed := true, recurses := true, apart := false, narrowed := true }
def XtsMasksUptoSaid : Prop := xtsMasksUptoRow.holds Try.pinned (OpenSpec.upto xtsMasksSpec)

/-- 'casematelaw06.XtsSectors', WHERE WHAT IT READS IS OF BULK AT MOST 1048576: true; the input reads as it did. -/
def xtsSectorsUptoRow : OpenClaim := { program := "ytnadgjlmlnhknaa", sum := "b1042ab4ee6441b34ec583183515813617bc282a18d40515d21c073c2f791921", func := "casemate/casematelaw06.XtsSectors", spec := "xtsSectors", unfollowed := true, recurses := true, apart := false, narrowed := true }
def XtsSectorsUptoSaid : Prop := xtsSectorsUptoRow.holds Try.pinned (OpenSpec.upto xtsSectorsSpec)

/-- 'casematelaw06.XtsBack', WHERE WHAT IT READS IS OF BULK AT MOST 1048576: true; the input reads as it did. -/
def xtsBackUptoRow : OpenClaim := { program := "ytnadgjlmlnhknaa", sum := "b1042ab4ee6441b34ec583183515813617bc282a18d40515d21c073c2f791921", func := "casemate/casematelaw06.XtsBack", spec := "xtsBack", unfollowed := true, recurses := true, apart := false, narrowed := true }
def XtsBackUptoSaid : Prop := xtsBackUptoRow.holds Try.pinned (OpenSpec.upto xtsBackSpec)

/-- 'casematelaw06.XtsBlocks', WHERE WHAT IT READS IS OF BULK AT MOST 1048576: true; the input reads as it did. -/
def xtsBlocksUptoRow : OpenClaim := { program := "ytnadgjlmlnhknaa", sum := "b1042ab4ee6441b34ec583183515813617bc282a18d40515d21c073c2f791921", func := "casemate/casematelaw06.XtsBlocks", spec := "xtsBlocks", unfollowed := true, recurses := true, apart := false, narrowed := true }
def XtsBlocksUptoSaid : Prop := xtsBlocksUptoRow.holds Try.pinned (OpenSpec.upto xtsBlocksSpec)

/-- 'casematelaw06.XtsTweaks', WHERE WHAT IT READS IS OF BULK AT MOST 1048576: true; the input reads as it did. -/
def xtsTweaksUptoRow : OpenClaim := { program := "ytnadgjlmlnhknaa", sum := "b1042ab4ee6441b34ec583183515813617bc282a18d40515d21c073c2f791921", func := "casemate/casematelaw06.XtsTweaks", spec := "xtsTweaks", unfollowed := true, recurses := true, apart := false, narrowed := true }
def XtsTweaksUptoSaid : Prop := xtsTweaksUptoRow.holds Try.pinned (OpenSpec.upto xtsTweaksSpec)

/-- 'casematelaw07.WrapWraps', WHERE WHAT IT READS IS OF BULK AT MOST 1048576: true; the input reads as it did. -/
def wrapWrapsUptoRow : OpenClaim := { program := "ytnadgjlmlnhknaa", sum := "b1042ab4ee6441b34ec583183515813617bc282a18d40515d21c073c2f791921", func := "casemate/casematelaw07.WrapWraps", spec := "wrapWraps", unfollowed := true, recurses := true, apart := false, narrowed := true }
def WrapWrapsUptoSaid : Prop := wrapWrapsUptoRow.holds Try.pinned (OpenSpec.upto wrapWrapsSpec)

/-- 'casematelaw07.WrapUnwraps', WHERE WHAT IT READS IS OF BULK AT MOST 1048576: true; the input reads as it did. -/
def wrapUnwrapsUptoRow : OpenClaim := { program := "ytnadgjlmlnhknaa", sum := "b1042ab4ee6441b34ec583183515813617bc282a18d40515d21c073c2f791921", func := "casemate/casematelaw07.WrapUnwraps", spec := "wrapUnwraps", unfollowed := true, recurses := true, apart := false, narrowed := true }
def WrapUnwrapsUptoSaid : Prop := wrapUnwrapsUptoRow.holds Try.pinned (OpenSpec.upto wrapUnwrapsSpec)

/-- 'casematelaw07.WrapBack', WHERE WHAT IT READS IS OF BULK AT MOST 1048576: true; the input reads as it did. -/
def wrapBackUptoRow : OpenClaim := { program := "ytnadgjlmlnhknaa", sum := "b1042ab4ee6441b34ec583183515813617bc282a18d40515d21c073c2f791921", func := "casemate/casematelaw07.WrapBack", spec := "wrapBack", unfollowed := true, recurses := true, apart := false, narrowed := true }
def WrapBackUptoSaid : Prop := wrapBackUptoRow.holds Try.pinned (OpenSpec.upto wrapBackSpec)

/-- 'casematelaw07.WrapApart', WHERE WHAT IT READS IS OF BULK AT MOST 1048576: true; the input reads as it did. -/
def wrapApartUptoRow : OpenClaim := { program := "ytnadgjlmlnhknaa", sum := "b1042ab4ee6441b34ec583183515813617bc282a18d40515d21c073c2f791921", func := "casemate/casematelaw07.WrapApart", spec := "wrapApart", unfollowed := true, recurses := true, apart := false, narrowed := true }
def WrapApartUptoSaid : Prop := wrapApartUptoRow.holds Try.pinned (OpenSpec.upto wrapApartSpec)

end Rows
end Go.Proofs.Ytnadgjlmlnhknaa
