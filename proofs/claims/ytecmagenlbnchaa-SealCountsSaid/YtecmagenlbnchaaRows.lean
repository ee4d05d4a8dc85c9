/-
  No cell of these rows narrows 'for every input' (looked for: loops, veiled, ifaces, maps, wideKeys, modest, calm, conditions, laid).
  DERIVED. THE GIVEN ROWS OF THIS SEAT. 10 by the template 'for every input the law returns true; each argument reads behind the call as it read before'; 0 by the template 'total and deterministic' (their statements: YtecmagenlbnchaaTotals.lean).
  GIVEN WITH THE SEED: the statements are not yours to turn. If you find one false, say at which input.
  Laid BY PROGRAM, IN A SANDBOX (cutbox-rows.mjs): the forced cells as the released guide's own fill.sh prints them over the translation d6297af172f0ba41… (all of the seat's roots in one cut). By AI agents, Wed Nov 11 2026. No macro, syntax, notation, axiom, sorry.
-/
import Derived.Test.YtecmagenlbnchaaChecked
import GoSem.Claim
import GoSem.ClaimJoined
import GoSem.ClaimMapViews
import Derived.JoinedTies
import Derived.KernelRfl
namespace Go.Proofs.Ytecmagenlbnchaa
/- THE CELL 'sum', in the pinned program and in every row, IS THE sha256 OF THE DUMP (.gsa) THAT YtecmagenlbnchaaProg.lean LOADS. Nothing in Lean hashes anything: it is a label: what it is worth is what the hold of that sum in a sandbox is worth. -/
noncomputable def Try.pinned : Pinned := { name := "ytecmagenlbnchaa", sum := "d6297af172f0ba4116469ab9afbfd675844af7a3b33dcd12d312f32f83f4a4fc", checked := Try.checked }
namespace Rows
def none {H : Type} : Left H := { results := [], args := [] }

/-- 'casematelaw22.SealTurns': WHATEVER THE INPUT: true; the input reads as it did. -/
def sealTurnsSpec : ChangeSpec := { name := "sealTurns", fn := fun _ => fun
  | [d1, d2, d3, d4] => { results := [.lit (.bool true)], args := [d1, d2, d3, d4] }
  | _ => none }
def sealTurnsRow : OpenClaim := { program := "ytecmagenlbnchaa", sum := "d6297af172f0ba4116469ab9afbfd675844af7a3b33dcd12d312f32f83f4a4fc", func := "casemate/casematelaw22.SealTurns", spec := "sealTurns", unfollowed := true, recurses := true, apart := false }
def SealTurnsSaid : Prop := sealTurnsRow.holds Try.pinned (OpenSpec.ofChange sealTurnsSpec)

/-- ITS FALSE NEIGHBOUR: 'it returns false'. Refute it at one input. -/
def sealTurnsWrong : ChangeSpec := { name := "sealTurns", fn := fun _ => fun
  | [d1, d2, d3, d4] => { results := [.lit (.bool false)], args := [d1, d2, d3, d4] }
  | _ => none }
def SealTurnsWrongFalsely : Prop := sealTurnsRow.holds Try.pinned (OpenSpec.ofChange sealTurnsWrong)

/-- 'casematelaw22.SealBack': WHATEVER THE INPUT: true; the input reads as it did. -/
def sealBackSpec : ChangeSpec := { name := "sealBack", fn := fun _ => fun
  | [d1, d2, d3, d4] => { results := [.lit (.bool true)], args := [d1, d2, d3, d4] }
  | _ => none }
def sealBackRow : OpenClaim := { program := "ytecmagenlbnchaa", sum := "d6297af172f0ba4116469ab9afbfd675844af7a3b33dcd12d312f32f83f4a4fc", func := "casemate/casematelaw22.SealBack", spec := "sealBack", unfollowed := true, recurses := true, apart := false }
def SealBackSaid : Prop := sealBackRow.holds Try.pinned (OpenSpec.ofChange sealBackSpec)

/-- ITS FALSE NEIGHBOUR: 'it returns false'. Refute it at one input. -/
def sealBackWrong : ChangeSpec := { name := "sealBack", fn := fun _ => fun
  | [d1, d2, d3, d4] => { results := [.lit (.bool false)], args := [d1, d2, d3, d4] }
  | _ => none }
def SealBackWrongFalsely : Prop := sealBackRow.holds Try.pinned (OpenSpec.ofChange sealBackWrong)

/-- 'casematelaw22.SealParts': WHATEVER THE INPUT: true; the input reads as it did. -/
def sealPartsSpec : ChangeSpec := { name := "sealParts", fn := fun _ => fun
  | [d1, d2, d3, d4, d5, d6] => { results := [.lit (.bool true)], args := [d1, d2, d3, d4, d5, d6] }
  | _ => none }
def sealPartsRow : OpenClaim := { program := "ytecmagenlbnchaa", sum := "d6297af172f0ba4116469ab9afbfd675844af7a3b33dcd12d312f32f83f4a4fc", func := "casemate/casematelaw22.SealParts", spec := "sealParts", unfollowed := true, recurses := true, apart := false }
def SealPartsSaid : Prop := sealPartsRow.holds Try.pinned (OpenSpec.ofChange sealPartsSpec)

/-- ITS FALSE NEIGHBOUR: 'it returns false'. Refute it at one input. -/
def sealPartsWrong : ChangeSpec := { name := "sealParts", fn := fun _ => fun
  | [d1, d2, d3, d4, d5, d6] => { results := [.lit (.bool false)], args := [d1, d2, d3, d4, d5, d6] }
  | _ => none }
def SealPartsWrongFalsely : Prop := sealPartsRow.holds Try.pinned (OpenSpec.ofChange sealPartsWrong)

/-- 'casematelaw22.SealOnce': WHATEVER THE INPUT: true; the input reads as it did. -/
def sealOnceSpec : ChangeSpec := { name := "sealOnce", fn := fun _ => fun
  | [d1, d2] => { results := [.lit (.bool true)], args := [d1, d2] }
  | _ => none }
def sealOnceRow : OpenClaim := { program := "ytecmagenlbnchaa", sum := "d6297af172f0ba4116469ab9afbfd675844af7a3b33dcd12d312f32f83f4a4fc", func := "casemate/casematelaw22.SealOnce", spec := "sealOnce", unfollowed := true, recurses := true, apart := false }
def SealOnceSaid : Prop := sealOnceRow.holds Try.pinned (OpenSpec.ofChange sealOnceSpec)

/-- ITS FALSE NEIGHBOUR: 'it returns false'. Refute it at one input. -/
def sealOnceWrong : ChangeSpec := { name := "sealOnce", fn := fun _ => fun
  | [d1, d2] => { results := [.lit (.bool false)], args := [d1, d2] }
  | _ => none }
def SealOnceWrongFalsely : Prop := sealOnceRow.holds Try.pinned (OpenSpec.ofChange sealOnceWrong)

/-- 'casematelaw22.SealCounts': WHATEVER THE INPUT: true; the input reads as it did. -/
def sealCountsSpec : ChangeSpec := { name := "sealCounts", fn := fun _ => fun
  | [d1, d2, d3, d4] => { results := [.lit (.bool true)], args := [d1, d2, d3, d4] }
  | _ => none }
def sealCountsRow : OpenClaim := { program := "ytecmagenlbnchaa", sum := "d6297af172f0ba4116469ab9afbfd675844af7a3b33dcd12d312f32f83f4a4fc", func := "casemate/casematelaw22.SealCounts", spec := "sealCounts", unfollowed := true, recurses := true, apart := false }
def SealCountsSaid : Prop := sealCountsRow.holds Try.pinned (OpenSpec.ofChange sealCountsSpec)

/-- ITS FALSE NEIGHBOUR: 'it returns false'. Refute it at one input. -/
def sealCountsWrong : ChangeSpec := { name := "sealCounts", fn := fun _ => fun
  | [d1, d2, d3, d4] => { results := [.lit (.bool false)], args := [d1, d2, d3, d4] }
  | _ => none }
def SealCountsWrongFalsely : Prop := sealCountsRow.holds Try.pinned (OpenSpec.ofChange sealCountsWrong)

/-- 'casematelaw21.KeysBack': WHATEVER THE INPUT: true; the input reads as it did. -/
def keysBackSpec : ChangeSpec := { name := "keysBack", fn := fun _ => fun
  | [d1, d2, d3, d4, d5] => { results := [.lit (.bool true)], args := [d1, d2, d3, d4, d5] }
  | _ => none }
def keysBackRow : OpenClaim := { program := "ytecmagenlbnchaa", sum := "d6297af172f0ba4116469ab9afbfd675844af7a3b33dcd12d312f32f83f4a4fc", func := "casemate/casematelaw21.KeysBack", spec := "keysBack", unfollowed := true, recurses := true, apart := false }
def KeysBackSaid : Prop := keysBackRow.holds Try.pinned (OpenSpec.ofChange keysBackSpec)

/-- ITS FALSE NEIGHBOUR: 'it returns false'. Refute it at one input. -/
def keysBackWrong : ChangeSpec := { name := "keysBack", fn := fun _ => fun
  | [d1, d2, d3, d4, d5] => { results := [.lit (.bool false)], args := [d1, d2, d3, d4, d5] }
  | _ => none }
def KeysBackWrongFalsely : Prop := keysBackRow.holds Try.pinned (OpenSpec.ofChange keysBackWrong)

/-- 'casematelaw21.KeysOnce': WHATEVER THE INPUT: true; the input reads as it did. -/
def keysOnceSpec : ChangeSpec := { name := "keysOnce", fn := fun _ => fun
  | [d1, d2, d3, d4] => { results := [.lit (.bool true)], args := [d1, d2, d3, d4] }
  | _ => none }
def keysOnceRow : OpenClaim := { program := "ytecmagenlbnchaa", sum := "d6297af172f0ba4116469ab9afbfd675844af7a3b33dcd12d312f32f83f4a4fc", func := "casemate/casematelaw21.KeysOnce", spec := "keysOnce", unfollowed := true, recurses := true, apart := false }
def KeysOnceSaid : Prop := keysOnceRow.holds Try.pinned (OpenSpec.ofChange keysOnceSpec)

/-- ITS FALSE NEIGHBOUR: 'it returns false'. Refute it at one input. -/
def keysOnceWrong : ChangeSpec := { name := "keysOnce", fn := fun _ => fun
  | [d1, d2, d3, d4] => { results := [.lit (.bool false)], args := [d1, d2, d3, d4] }
  | _ => none }
def KeysOnceWrongFalsely : Prop := keysOnceRow.holds Try.pinned (OpenSpec.ofChange keysOnceWrong)

/-- 'casematelaw21.KeysParts': WHATEVER THE INPUT: true; the input reads as it did. -/
def keysPartsSpec : ChangeSpec := { name := "keysParts", fn := fun _ => fun
  | [d1, d2, d3, d4, d5] => { results := [.lit (.bool true)], args := [d1, d2, d3, d4, d5] }
  | _ => none }
def keysPartsRow : OpenClaim := { program := "ytecmagenlbnchaa", sum := "d6297af172f0ba4116469ab9afbfd675844af7a3b33dcd12d312f32f83f4a4fc", func := "casemate/casematelaw21.KeysParts", spec := "keysParts", unfollowed := true, recurses := true, apart := false }
def KeysPartsSaid : Prop := keysPartsRow.holds Try.pinned (OpenSpec.ofChange keysPartsSpec)

/-- ITS FALSE NEIGHBOUR: 'it returns false'. Refute it at one input. -/
def keysPartsWrong : ChangeSpec := { name := "keysParts", fn := fun _ => fun
  | [d1, d2, d3, d4, d5] => { results := [.lit (.bool false)], args := [d1, d2, d3, d4, d5] }
  | _ => none }
def KeysPartsWrongFalsely : Prop := keysPartsRow.holds Try.pinned (OpenSpec.ofChange keysPartsWrong)

/-- 'casematelaw21.KeysSlots': WHATEVER THE INPUT: true; the input reads as it did. -/
def keysSlotsSpec : ChangeSpec := { name := "keysSlots", fn := fun _ => fun
  | [d1, d2, d3, d4, d5] => { results := [.lit (.bool true)], args := [d1, d2, d3, d4, d5] }
  | _ => none }
def keysSlotsRow : OpenClaim := { program := "ytecmagenlbnchaa", sum := "d6297af172f0ba4116469ab9afbfd675844af7a3b33dcd12d312f32f83f4a4fc", func := "casemate/casematelaw21.KeysSlots", spec := "keysSlots", unfollowed := true, recurses := true, apart := false }
def KeysSlotsSaid : Prop := keysSlotsRow.holds Try.pinned (OpenSpec.ofChange keysSlotsSpec)

/-- ITS FALSE NEIGHBOUR: 'it returns false'. Refute it at one input. -/
def keysSlotsWrong : ChangeSpec := { name := "keysSlots", fn := fun _ => fun
  | [d1, d2, d3, d4, d5] => { results := [.lit (.bool false)], args := [d1, d2, d3, d4, d5] }
  | _ => none }
def KeysSlotsWrongFalsely : Prop := keysSlotsRow.holds Try.pinned (OpenSpec.ofChange keysSlotsWrong)

/-- 'casematelaw21.KeysStamps': WHATEVER THE INPUT: true; the input reads as it did. -/
def keysStampsSpec : ChangeSpec := { name := "keysStamps", fn := fun _ => fun
  | [d1, d2, d3, d4] => { results := [.lit (.bool true)], args := [d1, d2, d3, d4] }
  | _ => none }
def keysStampsRow : OpenClaim := { program := "ytecmagenlbnchaa", sum := "d6297af172f0ba4116469ab9afbfd675844af7a3b33dcd12d312f32f83f4a4fc", func := "casemate/casematelaw21.KeysStamps", spec := "keysStamps", unfollowed := true, recurses := true, apart := false }
def KeysStampsSaid : Prop := keysStampsRow.holds Try.pinned (OpenSpec.ofChange keysStampsSpec)

/-- ITS FALSE NEIGHBOUR: 'it returns false'. Refute it at one input. -/
def keysStampsWrong : ChangeSpec := { name := "keysStamps", fn := fun _ => fun
  | [d1, d2, d3, d4] => { results := [.lit (.bool false)], args := [d1, d2, d3, d4] }
  | _ => none }
def KeysStampsWrongFalsely : Prop := keysStampsRow.holds Try.pinned (OpenSpec.ofChange keysStampsWrong)

/- THE SECOND FORM. 'bulk': how many values and letters a reading holds, each counted each time it is reached (what is shared counts as often as it is met; a slice's spare places count too). A statement '..UptoSaid' is the law's where the arguments, and the package variables that the reading takes, are together of bulk at most 1048576: NARROWER than '..Said'. Prove '..Said' where nothing that the law and all that it calls make is longer than what came in: it says more and counts as full. Else prove '..UptoSaid'. A law counts once. -/
mutual
def uptoBulk {H : Type} : DataW H → Nat
  | .lit (.string bytes) => bytes.length + 1
  | .lit _ => 1
  | .nil => 1
  | .ptr d => uptoBulk d + 1
  | .slice elems spare => uptoBulkAll elems + uptoBulkAll spare + 1
  | .agg parts => uptoBulkAll parts + 1
  | .iface _ d => uptoBulk d + 1
  | .map entries => uptoBulkEntries entries + 1
  | .held _ => 1
def uptoBulkAll {H : Type} : List (DataW H) → Nat
  | [] => 0
  | d :: r => uptoBulk d + uptoBulkAll r
def uptoBulkEntries {H : Type} : List (Lit × DataW H) → Nat
  | [] => 0
  | x :: r => uptoBulkEntry x + uptoBulkEntries r
def uptoBulkEntry {H : Type} : Lit × DataW H → Nat
  | (.string bytes, d) => bytes.length + uptoBulk d + 1
  | (_, d) => uptoBulk d + 1
 end
def uptoSmall : (H : Type) → List (DataW H) → Bool := fun _ ds => decide (uptoBulkAll ds ≤ 1048576)
def OpenSpec.upto (s : _root_.Go.ChangeSpec) : _root_.Go.OpenSpec := { _root_.Go.OpenSpec.ofChange s with cond := some uptoSmall }

/-- 'casematelaw22.SealTurns', WHERE WHAT IT READS IS OF BULK AT MOST 1048576: true; the input reads as it did. -/
def sealTurnsUptoRow : OpenClaim := { program := "ytecmagenlbnchaa", sum := "d6297af172f0ba4116469ab9afbfd675844af7a3b33dcd12d312f32f83f4a4fc", func := "casemate/casematelaw22.SealTurns", spec := "sealTurns", unfollowed := true, recurses := true, apart := false, narrowed := true }
def SealTurnsUptoSaid : Prop := sealTurnsUptoRow.holds Try.pinned (OpenSpec.upto sealTurnsSpec)

/-- 'casematelaw22.SealBack', WHERE WHAT IT READS IS OF BULK AT MOST 1048576: true; the input reads as it did. -/
def sealBackUptoRow : OpenClaim := { program := "ytecmagenlbnchaa", sum := "d6297af172f0ba4116469ab9afbfd675844af7a3b33dcd12d312f32f83f4a4fc", func := "casemate/casematelaw22.SealBack", spec := "sealBack", unfollowed := true, recurses := true, apart := false, narrowed := true }
def SealBackUptoSaid : Prop := sealBackUptoRow.holds Try.pinned (OpenSpec.upto sealBackSpec)

/-- 'casematelaw22.SealParts', WHERE WHAT IT READS IS OF BULK AT MOST 1048576: true; the input reads as it did. -/
def sealPartsUptoRow : OpenClaim := { program := "ytecmagenlbnchaa", sum := "d6297af172f0ba4116469ab9afbfd675844af7a3b33dcd12d312f32f83f4a4fc", func := "casemate/casematelaw22.SealParts", spec := "sealParts", unfollowed := true, recurses := true, apart := false, narrowed := true }
def SealPartsUptoSaid : Prop := sealPartsUptoRow.holds Try.pinned (OpenSpec.upto sealPartsSpec)

/-- 'casematelaw22.SealOnce', WHERE WHAT IT READS IS OF BULK AT MOST 1048576: true; the input reads as it did. -/
def sealOnceUptoRow : OpenClaim := { program := "ytecmagenlbnchaa", sum := "d6297af172f0ba4116469ab9afbfd675844af7a3b33dcd12d312f32f83f4a4fc", func := "casemate/casematelaw22.SealOnce", spec := "sealOnce", unfollowed := true, recurses := true, apart := false, narrowed := true }
def SealOnceUptoSaid : Prop := sealOnceUptoRow.holds Try.pinned (OpenSpec.upto sealOnceSpec)

/-- 'casematelaw22.SealCounts', WHERE WHAT IT READS IS OF BULK AT MOST 1048576: true; the input reads as it did. -/
def sealCountsUptoRow : OpenClaim := { program := "ytecmagenlbnchaa", sum := "d6297af172f0ba4116469ab9afbfd675844af7a3b33dcd12d312f32f83f4a4fc", func := "casemate/casematelaw22.SealCounts", spec := "sealCounts", unfollowed := true, recurses := true, apart := false, narrowed := true }
def SealCountsUptoSaid : Prop := sealCountsUptoRow.holds Try.pinned (OpenSpec.upto sealCountsSpec)

/-- 'casematelaw21.KeysBack', WHERE WHAT IT READS IS OF BULK AT MOST 1048576: true; the input reads as it did. -/
def keysBackUptoRow : OpenClaim := { program := "ytecmagenlbnchaa", sum := "d6297af172f0ba4116469ab9afbfd675844af7a3b33dcd12d312f32f83f4a4fc", func := "casemate/casematelaw21.KeysBack", spec := "keysBack", unfollowed := true, recurses := true, apart := false, narrowed := true }
def KeysBackUptoSaid : Prop := keysBackUptoRow.holds Try.pinned (OpenSpec.upto keysBackSpec)

/-- 'casematelaw21.KeysOnce', WHERE WHAT IT READS IS OF BULK AT MOST 1048576: true; the input reads as it did. -/
def keysOnceUptoRow : OpenClaim := { program := "ytecmagenlbnchaa", sum := "d6297af172f0ba4116469ab9afbfd675844af7a3b33dcd12d312f32f83f4a4fc", func := "casemate/casematelaw21.KeysOnce", spec := "keysOnce", unfollowed := true, recurses := true, apart := false, narrowed := true }
def KeysOnceUptoSaid : Prop := keysOnceUptoRow.holds Try.pinned (OpenSpec.upto keysOnceSpec)

/-- 'casematelaw21.KeysParts', WHERE WHAT IT READS IS OF BULK AT MOST 1048576: true; the input reads as it did. -/
def keysPartsUptoRow : OpenClaim := { program := "ytecmagenlbnchaa", sum := "d6297af172f0ba4116469ab9afbfd675844af7a3b33dcd12d312f32f83f4a4fc", func := "casemate/casematelaw21.KeysParts", spec := "keysParts", unfollowed := true, recurses := true, apart := false, narrowed := true }
def KeysPartsUptoSaid : Prop := keysPartsUptoRow.holds Try.pinned (OpenSpec.upto keysPartsSpec)

/-- 'casematelaw21.KeysSlots', WHERE WHAT IT READS IS OF BULK AT MOST 1048576: true; the input reads as it did. -/
def keysSlotsUptoRow : OpenClaim := { program := "ytecmagenlbnchaa", sum := "d6297af172f0ba4116469ab9afbfd675844af7a3b33dcd12d312f32f83f4a4fc", func := "casemate/casematelaw21.KeysSlots", spec := "keysSlots", unfollowed := true, recurses := true, apart := false, narrowed := true }
def KeysSlotsUptoSaid : Prop := keysSlotsUptoRow.holds Try.pinned (OpenSpec.upto keysSlotsSpec)

/-- 'casematelaw21.KeysStamps', WHERE WHAT IT READS IS OF BULK AT MOST 1048576: true; the input reads as it did. -/
def keysStampsUptoRow : OpenClaim := { program := "ytecmagenlbnchaa", sum := "d6297af172f0ba4116469ab9afbfd675844af7a3b33dcd12d312f32f83f4a4fc", func := "casemate/casematelaw21.KeysStamps", spec := "keysStamps", unfollowed := true, recurses := true, apart := false, narrowed := true }
def KeysStampsUptoSaid : Prop := keysStampsUptoRow.holds Try.pinned (OpenSpec.upto keysStampsSpec)

end Rows
end Go.Proofs.Ytecmagenlbnchaa
