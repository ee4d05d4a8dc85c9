/-
  No cell of these rows narrows 'for every input' (looked for: loops, veiled, ifaces, maps, wideKeys, modest, calm, conditions, laid).
  DERIVED. THE GIVEN ROWS OF THIS SEAT. 13 by the template 'for every input the law returns true; each argument reads behind the call as it read before'; 0 by the template 'total and deterministic' (their statements: YtjbmdeppoobccaaTotals.lean).
  GIVEN WITH THE SEED: the statements are not yours to turn. If you find one false, say at which input.
  Laid BY PROGRAM, IN A SANDBOX (cutbox-rows.mjs): the forced cells as the released guide's own fill.sh prints them over the translation 2124b836ed78b262… (all of the seat's roots in one cut). By AI agents, Wed Nov 11 2026. No macro, syntax, notation, axiom, sorry.
-/
import Derived.Test.YtjbmdeppoobccaaChecked
import GoSem.Claim
import GoSem.ClaimJoined
import GoSem.ClaimMapViews
import Derived.JoinedTies
import Derived.KernelRfl
namespace Go.Proofs.Ytjbmdeppoobccaa
/- THE CELL 'sum', in the pinned program and in every row, IS THE sha256 OF THE DUMP (.gsa) THAT YtjbmdeppoobccaaProg.lean LOADS. Nothing in Lean hashes anything: it is a label: what it is worth is what the hold of that sum in a sandbox is worth. -/
noncomputable def Try.pinned : Pinned := { name := "ytjbmdeppoobccaa", sum := "2124b836ed78b262313687b03e6b12070350ef9baf42be6fcc9c98bc49bc216c", checked := Try.checked }
namespace Rows
def none {H : Type} : Left H := { results := [], args := [] }

/-- 'casematelaw02.ShaSums': WHATEVER THE INPUT: true; the input reads as it did. -/
def shaSumsSpec : ChangeSpec := { name := "shaSums", fn := fun _ => fun
  | [d1, d2] => { results := [.lit (.bool true)], args := [d1, d2] }
  | _ => none }
def shaSumsRow : OpenClaim := { program := "ytjbmdeppoobccaa", sum := "2124b836ed78b262313687b03e6b12070350ef9baf42be6fcc9c98bc49bc216c", func := "casemate/casematelaw02.ShaSums", spec := "shaSums", plainKeys := false, apart := false }
def ShaSumsSaid : Prop := shaSumsRow.holds Try.pinned (OpenSpec.ofChange shaSumsSpec)

/-- ITS FALSE NEIGHBOUR: 'it returns false'. Refute it at one input. -/
def shaSumsWrong : ChangeSpec := { name := "shaSums", fn := fun _ => fun
  | [d1, d2] => { results := [.lit (.bool false)], args := [d1, d2] }
  | _ => none }
def ShaSumsWrongFalsely : Prop := shaSumsRow.holds Try.pinned (OpenSpec.ofChange shaSumsWrong)

/-- 'casematelaw02.ShaWrites': WHATEVER THE INPUT: true; the input reads as it did. -/
def shaWritesSpec : ChangeSpec := { name := "shaWrites", fn := fun _ => fun
  | [d] => { results := [.lit (.bool true)], args := [d] }
  | _ => none }
def shaWritesRow : OpenClaim := { program := "ytjbmdeppoobccaa", sum := "2124b836ed78b262313687b03e6b12070350ef9baf42be6fcc9c98bc49bc216c", func := "casemate/casematelaw02.ShaWrites", spec := "shaWrites", plainKeys := false, apart := false }
def ShaWritesSaid : Prop := shaWritesRow.holds Try.pinned (OpenSpec.ofChange shaWritesSpec)

/-- ITS FALSE NEIGHBOUR: 'it returns false'. Refute it at one input. -/
def shaWritesWrong : ChangeSpec := { name := "shaWrites", fn := fun _ => fun
  | [d] => { results := [.lit (.bool false)], args := [d] }
  | _ => none }
def ShaWritesWrongFalsely : Prop := shaWritesRow.holds Try.pinned (OpenSpec.ofChange shaWritesWrong)

/-- 'casematelaw02.ShaPieces': WHATEVER THE INPUT: true; the input reads as it did. -/
def shaPiecesSpec : ChangeSpec := { name := "shaPieces", fn := fun _ => fun
  | [d1, d2] => { results := [.lit (.bool true)], args := [d1, d2] }
  | _ => none }
def shaPiecesRow : OpenClaim := { program := "ytjbmdeppoobccaa", sum := "2124b836ed78b262313687b03e6b12070350ef9baf42be6fcc9c98bc49bc216c", func := "casemate/casematelaw02.ShaPieces", spec := "shaPieces", plainKeys := false, apart := false }
def ShaPiecesSaid : Prop := shaPiecesRow.holds Try.pinned (OpenSpec.ofChange shaPiecesSpec)

/-- ITS FALSE NEIGHBOUR: 'it returns false'. Refute it at one input. -/
def shaPiecesWrong : ChangeSpec := { name := "shaPieces", fn := fun _ => fun
  | [d1, d2] => { results := [.lit (.bool false)], args := [d1, d2] }
  | _ => none }
def ShaPiecesWrongFalsely : Prop := shaPiecesRow.holds Try.pinned (OpenSpec.ofChange shaPiecesWrong)

/-- 'casematelaw02.ShaBoth': WHATEVER THE INPUT: true; the input reads as it did. -/
def shaBothSpec : ChangeSpec := { name := "shaBoth", fn := fun _ => fun
  | [d1, d2, d3] => { results := [.lit (.bool true)], args := [d1, d2, d3] }
  | _ => none }
def shaBothRow : OpenClaim := { program := "ytjbmdeppoobccaa", sum := "2124b836ed78b262313687b03e6b12070350ef9baf42be6fcc9c98bc49bc216c", func := "casemate/casematelaw02.ShaBoth", spec := "shaBoth", plainKeys := false, apart := false }
def ShaBothSaid : Prop := shaBothRow.holds Try.pinned (OpenSpec.ofChange shaBothSpec)

/-- ITS FALSE NEIGHBOUR: 'it returns false'. Refute it at one input. -/
def shaBothWrong : ChangeSpec := { name := "shaBoth", fn := fun _ => fun
  | [d1, d2, d3] => { results := [.lit (.bool false)], args := [d1, d2, d3] }
  | _ => none }
def ShaBothWrongFalsely : Prop := shaBothRow.holds Try.pinned (OpenSpec.ofChange shaBothWrong)

/-- 'casematelaw03.HmacKeys': WHATEVER THE INPUT: true; the input reads as it did. -/
def hmacKeysSpec : ChangeSpec := { name := "hmacKeys", fn := fun _ => fun
  | [d1, d2, d3] => { results := [.lit (.bool true)], args := [d1, d2, d3] }
  | _ => none }
def hmacKeysRow : OpenClaim := { program := "ytjbmdeppoobccaa", sum := "2124b836ed78b262313687b03e6b12070350ef9baf42be6fcc9c98bc49bc216c", func := "casemate/casematelaw03.HmacKeys", spec := "hmacKeys", unfollowed := true, recurses := true, plainKeys := false, apart := false }
def HmacKeysSaid : Prop := hmacKeysRow.holds Try.pinned (OpenSpec.ofChange hmacKeysSpec)

/-- ITS FALSE NEIGHBOUR: 'it returns false'. Refute it at one input. -/
def hmacKeysWrong : ChangeSpec := { name := "hmacKeys", fn := fun _ => fun
  | [d1, d2, d3] => { results := [.lit (.bool false)], args := [d1, d2, d3] }
  | _ => none }
def HmacKeysWrongFalsely : Prop := hmacKeysRow.holds Try.pinned (OpenSpec.ofChange hmacKeysWrong)

/-- 'casematelaw03.HmacBegins': WHATEVER THE INPUT: true; the input reads as it did. -/
def hmacBeginsSpec : ChangeSpec := { name := "hmacBegins", fn := fun _ => fun
  | [d1, d2, d3, d4] => { results := [.lit (.bool true)], args := [d1, d2, d3, d4] }
  | _ => none }
def hmacBeginsRow : OpenClaim := { program := "ytjbmdeppoobccaa", sum := "2124b836ed78b262313687b03e6b12070350ef9baf42be6fcc9c98bc49bc216c", func := "casemate/casematelaw03.HmacBegins", spec := "hmacBegins", unfollowed := true, recurses := true, plainKeys := false, apart := false }
def HmacBeginsSaid : Prop := hmacBeginsRow.holds Try.pinned (OpenSpec.ofChange hmacBeginsSpec)

/-- ITS FALSE NEIGHBOUR: 'it returns false'. Refute it at one input. -/
def hmacBeginsWrong : ChangeSpec := { name := "hmacBegins", fn := fun _ => fun
  | [d1, d2, d3, d4] => { results := [.lit (.bool false)], args := [d1, d2, d3, d4] }
  | _ => none }
def HmacBeginsWrongFalsely : Prop := hmacBeginsRow.holds Try.pinned (OpenSpec.ofChange hmacBeginsWrong)

/-- 'casematelaw03.HmacTurned': WHATEVER THE INPUT: true; the input reads as it did. -/
def hmacTurnedSpec : ChangeSpec := { name := "hmacTurned", fn := fun _ => fun
  | [d1, d2, d3, d4] => { results := [.lit (.bool true)], args := [d1, d2, d3, d4] }
  | _ => none }
def hmacTurnedRow : OpenClaim := { program := "ytjbmdeppoobccaa", sum := "2124b836ed78b262313687b03e6b12070350ef9baf42be6fcc9c98bc49bc216c", func := "casemate/casematelaw03.HmacTurned", spec := "hmacTurned", unfollowed := true, recurses := true, plainKeys := false, apart := false }
def HmacTurnedSaid : Prop := hmacTurnedRow.holds Try.pinned (OpenSpec.ofChange hmacTurnedSpec)

/-- ITS FALSE NEIGHBOUR: 'it returns false'. Refute it at one input. -/
def hmacTurnedWrong : ChangeSpec := { name := "hmacTurned", fn := fun _ => fun
  | [d1, d2, d3, d4] => { results := [.lit (.bool false)], args := [d1, d2, d3, d4] }
  | _ => none }
def HmacTurnedWrongFalsely : Prop := hmacTurnedRow.holds Try.pinned (OpenSpec.ofChange hmacTurnedWrong)

/-- 'casematelaw03.HmacMarks': WHATEVER THE INPUT: true; the input reads as it did. -/
def hmacMarksSpec : ChangeSpec := { name := "hmacMarks", fn := fun _ => fun
  | [d1, d2, d3] => { results := [.lit (.bool true)], args := [d1, d2, d3] }
  | _ => none }
def hmacMarksRow : OpenClaim := { program := "ytjbmdeppoobccaa", sum := "2124b836ed78b262313687b03e6b12070350ef9baf42be6fcc9c98bc49bc216c", func := "casemate/casematelaw03.HmacMarks", spec := "hmacMarks", unfollowed := true, recurses := true, plainKeys := false, apart := false }
def HmacMarksSaid : Prop := hmacMarksRow.holds Try.pinned (OpenSpec.ofChange hmacMarksSpec)

/-- ITS FALSE NEIGHBOUR: 'it returns false'. Refute it at one input. -/
def hmacMarksWrong : ChangeSpec := { name := "hmacMarks", fn := fun _ => fun
  | [d1, d2, d3] => { results := [.lit (.bool false)], args := [d1, d2, d3] }
  | _ => none }
def HmacMarksWrongFalsely : Prop := hmacMarksRow.holds Try.pinned (OpenSpec.ofChange hmacMarksWrong)

/-- 'casematelaw03.HmacStreams': WHATEVER THE INPUT: true; the input reads as it did. -/
def hmacStreamsSpec : ChangeSpec := { name := "hmacStreams", fn := fun _ => fun
  | [d1, d2, d3, d4] => { results := [.lit (.bool true)], args := [d1, d2, d3, d4] }
  | _ => none }
def hmacStreamsRow : OpenClaim := { program := "ytjbmdeppoobccaa", sum := "2124b836ed78b262313687b03e6b12070350ef9baf42be6fcc9c98bc49bc216c", func := "casemate/casematelaw03.HmacStreams", spec := "hmacStreams", unfollowed := true, recurses := true, plainKeys := false, apart := false }
def HmacStreamsSaid : Prop := hmacStreamsRow.holds Try.pinned (OpenSpec.ofChange hmacStreamsSpec)

/-- ITS FALSE NEIGHBOUR: 'it returns false'. Refute it at one input. -/
def hmacStreamsWrong : ChangeSpec := { name := "hmacStreams", fn := fun _ => fun
  | [d1, d2, d3, d4] => { results := [.lit (.bool false)], args := [d1, d2, d3, d4] }
  | _ => none }
def HmacStreamsWrongFalsely : Prop := hmacStreamsRow.holds Try.pinned (OpenSpec.ofChange hmacStreamsWrong)

/-- 'casematelaw08.HashlogLives': WHATEVER THE INPUT: true; the input reads as it did. -/
def hashlogLivesSpec : ChangeSpec := { name := "hashlogLives", fn := fun _ => fun
  | [d1, d2] => { results := [.lit (.bool true)], args := [d1, d2] }
  | _ => none }
def hashlogLivesRow : OpenClaim := { program := "ytjbmdeppoobccaa", sum := "2124b836ed78b262313687b03e6b12070350ef9baf42be6fcc9c98bc49bc216c", func := "casemate/casematelaw08.HashlogLives", spec := "hashlogLives", unfollowed := true, recurses := true, plainKeys := false, apart := false }
def HashlogLivesSaid : Prop := hashlogLivesRow.holds Try.pinned (OpenSpec.ofChange hashlogLivesSpec)

/-- ITS FALSE NEIGHBOUR: 'it returns false'. Refute it at one input. -/
def hashlogLivesWrong : ChangeSpec := { name := "hashlogLives", fn := fun _ => fun
  | [d1, d2] => { results := [.lit (.bool false)], args := [d1, d2] }
  | _ => none }
def HashlogLivesWrongFalsely : Prop := hashlogLivesRow.holds Try.pinned (OpenSpec.ofChange hashlogLivesWrong)

/-- 'casematelaw08.HashlogNobody': WHATEVER THE INPUT: true; the input reads as it did. -/
def hashlogNobodySpec : ChangeSpec := { name := "hashlogNobody", fn := fun _ => fun
  | [d] => { results := [.lit (.bool true)], args := [d] }
  | _ => none }
def hashlogNobodyRow : OpenClaim := { program := "ytjbmdeppoobccaa", sum := "2124b836ed78b262313687b03e6b12070350ef9baf42be6fcc9c98bc49bc216c", func := "casemate/casematelaw08.HashlogNobody", spec := "hashlogNobody", unfollowed := true, recurses := true, plainKeys := false, apart := false }
def HashlogNobodySaid : Prop := hashlogNobodyRow.holds Try.pinned (OpenSpec.ofChange hashlogNobodySpec)

/-- ITS FALSE NEIGHBOUR: 'it returns false'. Refute it at one input. -/
def hashlogNobodyWrong : ChangeSpec := { name := "hashlogNobody", fn := fun _ => fun
  | [d] => { results := [.lit (.bool false)], args := [d] }
  | _ => none }
def HashlogNobodyWrongFalsely : Prop := hashlogNobodyRow.holds Try.pinned (OpenSpec.ofChange hashlogNobodyWrong)

/-- 'casematelaw08.HashlogApart': WHATEVER THE INPUT: true; the input reads as it did. -/
def hashlogApartSpec : ChangeSpec := { name := "hashlogApart", fn := fun _ => fun
  | [d1, d2, d3] => { results := [.lit (.bool true)], args := [d1, d2, d3] }
  | _ => none }
def hashlogApartRow : OpenClaim := { program := "ytjbmdeppoobccaa", sum := "2124b836ed78b262313687b03e6b12070350ef9baf42be6fcc9c98bc49bc216c", func := "casemate/casematelaw08.HashlogApart", spec := "hashlogApart", unfollowed := true, recurses := true, plainKeys := false, apart := false }
def HashlogApartSaid : Prop := hashlogApartRow.holds Try.pinned (OpenSpec.ofChange hashlogApartSpec)

/-- ITS FALSE NEIGHBOUR: 'it returns false'. Refute it at one input. -/
def hashlogApartWrong : ChangeSpec := { name := "hashlogApart", fn := fun _ => fun
  | [d1, d2, d3] => { results := [.lit (.bool false)], args := [d1, d2, d3] }
  | _ => none }
def HashlogApartWrongFalsely : Prop := hashlogApartRow.holds Try.pinned (OpenSpec.ofChange hashlogApartWrong)

/-- 'casematelaw08.HashlogStays': WHATEVER THE INPUT: true; the input reads as it did. -/
def hashlogStaysSpec : ChangeSpec := { name := "hashlogStays", fn := fun _ => fun
  | [d] => { results := [.lit (.bool true)], args := [d] }
  | _ => none }
def hashlogStaysRow : OpenClaim := { program := "ytjbmdeppoobccaa", sum := "2124b836ed78b262313687b03e6b12070350ef9baf42be6fcc9c98bc49bc216c", func := "casemate/casematelaw08.HashlogStays", spec := "hashlogStays", unfollowed := true, recurses := true, plainKeys := false, apart := false }
def HashlogStaysSaid : Prop := hashlogStaysRow.holds Try.pinned (OpenSpec.ofChange hashlogStaysSpec)

/-- ITS FALSE NEIGHBOUR: 'it returns false'. Refute it at one input. -/
def hashlogStaysWrong : ChangeSpec := { name := "hashlogStays", fn := fun _ => fun
  | [d] => { results := [.lit (.bool false)], args := [d] }
  | _ => none }
def HashlogStaysWrongFalsely : Prop := hashlogStaysRow.holds Try.pinned (OpenSpec.ofChange hashlogStaysWrong)

/- THE SECOND FORM. 'bulk': how many values and letters a reading holds, each counted each time it is reached (what is shared counts as often as it is met; a slice's spare places count too). A statement '..UptoSaid' is the law's where the arguments, and the package variables that the reading takes, are together of bulk at most 1048576: NARROWER than '..Said'. Prove '..Said' where nothing that the law and all that it calls make is longer than what came in: it says more and counts as full. Else prove '..UptoSaid'. A law counts once. -/
mutual
def uptoBulk {H : Type} : DataW H → Nat
  | .lit (.string bytes) => bytes.length + 1
  | .lit _ => 1
  | .nil => 1
  | .ptr d => uptoBulk d + 1
  | .slice elems spare => uptoBulkAll elems + uptoBulkAll spare + 1
  | .agg parts => uptoBulkAll parts + 1
  | .iface _ d => uptoBulk d + 1
  | .map entries => uptoBulkEntries entries + 1
  | .held _ => 1
def uptoBulkAll {H : Type} : List (DataW H) → Nat
  | [] => 0
  | d :: r => uptoBulk d + uptoBulkAll r
def uptoBulkEntries {H : Type} : List (Lit × DataW H) → Nat
  | [] => 0
  | x :: r => uptoBulkEntry x + uptoBulkEntries r
def uptoBulkEntry {H : Type} : Lit × DataW H → Nat
  | (.string bytes, d) => bytes.length + uptoBulk d + 1
  | (_, d) => uptoBulk d + 1
 end
def uptoSmall : (H : Type) → List (DataW H) → Bool := fun _ ds => decide (uptoBulkAll ds ≤ 1048576)
def OpenSpec.upto (s : _root_.Go.ChangeSpec) : _root_.Go.OpenSpec := { _root_.Go.OpenSpec.ofChange s with cond := some uptoSmall }

/-- 'casematelaw02.ShaSums', WHERE WHAT IT READS IS OF BULK AT MOST 1048576: true; the input reads as it did. -/
def shaSumsUptoRow : OpenClaim := { program := "ytjbmdeppoobccaa", sum := "2124b836ed78b262313687b03e6b12070350ef9baf42be6fcc9c98bc49bc216c", func := "casemate/casematelaw02.ShaSums", spec := "shaSums", plainKeys := false, apart := false, narrowed := true }
def ShaSumsUptoSaid : Prop := shaSumsUptoRow.holds Try.pinned (OpenSpec.upto shaSumsSpec)

/-- 'casematelaw02.ShaWrites', WHERE WHAT IT READS IS OF BULK AT MOST 1048576: true; the input reads as it did. -/
def shaWritesUptoRow : OpenClaim := { program := "ytjbmdeppoobccaa", sum := "2124b836ed78b262313687b03e6b12070350ef9baf42be6fcc9c98bc49bc216c", func := "casemate/casematelaw02.ShaWrites", spec := "shaWrites", plainKeys := false, apart := false, narrowed := true }
def ShaWritesUptoSaid : Prop := shaWritesUptoRow.holds Try.pinned (OpenSpec.upto shaWritesSpec)

/-- 'casematelaw02.ShaPieces', WHERE WHAT IT READS IS OF BULK AT MOST 1048576: true; the input reads as it did. -/
def shaPiecesUptoRow : OpenClaim := { program := "ytjbmdeppoobccaa", sum := "2124b836ed78b262313687b03e6b12070350ef9baf42be6fcc9c98bc49bc216c", func := "casemate/casematelaw02.ShaPieces", spec := "shaPieces", plainKeys := false, apart := false, narrowed := true }
def ShaPiecesUptoSaid : Prop := shaPiecesUptoRow.holds Try.pinned (OpenSpec.upto shaPiecesSpec)

/-- 'casematelaw02.ShaBoth', WHERE WHAT IT READS IS OF BULK AT MOST 1048576: true; the input reads as it did. -/
def shaBothUptoRow : OpenClaim := { program := "ytjbmdeppoobccaa", sum := "2124b836ed78b262313687b03e6b12070350ef9baf42be6fcc9c98bc49bc216c", func := "casemate/casematelaw02.ShaBoth", spec := "shaBoth", plainKeys := false, apart := false, narrowed := true }
def ShaBothUptoSaid : Prop := shaBothUptoRow.holds Try.pinned (OpenSpec.upto shaBothSpec)

/-- 'casematelaw03.HmacKeys', WHERE WHAT IT READS IS OF BULK AT MOST 1048576: true; the input reads as it did. -/
def hmacKeysUptoRow : OpenClaim := { program := "ytjbmdeppoobccaa", sum := "2124b836ed78b262313687b03e6b12070350ef9baf42be6fcc9c98bc49bc216c", func := "casemate/casematelaw03.HmacKeys", spec := "hmacKeys", unfollowed := true, recurses := true, plainKeys := false, apart := false, narrowed := true }
def HmacKeysUptoSaid : Prop := hmacKeysUptoRow.holds Try.pinned (OpenSpec.upto hmacKeysSpec)

/-- 'casematelaw03.HmacBegins', WHERE WHAT IT READS IS OF BULK AT MOST 1048576: true; the input reads as it did. -/
def hmacBeginsUptoRow : OpenClaim := { program := "ytjbmdeppoobccaa", sum := "2124b836ed78b262313687b03e6b12070350ef9baf42be6fcc9c98bc49bc216c", func := "casemate/casematelaw03.HmacBegins", spec := "hmacBegins", unfollowed := true, recurses := true, plainKeys := false, apart := false, narrowed := true }
def HmacBeginsUptoSaid : Prop := hmacBeginsUptoRow.holds Try.pinned (OpenSpec.upto hmacBeginsSpec)

/-- 'casematelaw03.HmacTurned', WHERE WHAT IT READS IS OF BULK AT MOST 1048576: true; the input reads as it did. -/
def hmacTurnedUptoRow : OpenClaim := { program := "ytjbmdeppoobccaa", sum := "2124b836ed78b262313687b03e6b12070350ef9baf42be6fcc9c98bc49bc216c", func := "casemate/casematelaw03.HmacTurned", spec := "hmacTurned", unfollowed := true, recurses := true, plainKeys := false, apart := false, narrowed := true }
def HmacTurnedUptoSaid : Prop := hmacTurnedUptoRow.holds Try.pinned (OpenSpec.upto hmacTurnedSpec)

/-- 'casematelaw03.HmacMarks', WHERE WHAT IT READS IS OF BULK AT MOST 1048576: true; the input reads as it did. -/
def hmacMarksUptoRow : OpenClaim := { program := "ytjbmdeppoobccaa", sum := "2124b836ed78b262313687b03e6b12070350ef9baf42be6fcc9c98bc49bc216c", func := "casemate/casematelaw03.HmacMarks", spec := "hmacMarks", unfollowed := true, recurses := true, plainKeys := false, apart := false, narrowed := true }
def HmacMarksUptoSaid : Prop := hmacMarksUptoRow.holds Try.pinned (OpenSpec.upto hmacMarksSpec)

/-- 'casematelaw03.HmacStreams', WHERE WHAT IT READS IS OF BULK AT MOST 1048576: true; the input reads as it did. -/
def hmacStreamsUptoRow : OpenClaim := { program := "ytjbmdeppoobccaa", sum := "2124b836ed78b262313687b03e6b12070350ef9baf42be6fcc9c98bc49bc216c", func := "casemate/casematelaw03.HmacStreams", spec := "hmacStreams", unfollowed := true, recurses := true, plainKeys := false, apart := false, narrowed := true }
def HmacStreamsUptoSaid : Prop := hmacStreamsUptoRow.holds Try.pinned (OpenSpec.upto hmacStreamsSpec)

/-- 'casematelaw08.HashlogLives', WHERE WHAT IT READS IS OF BULK AT MOST 1048576: true; the input reads as it did. -/
def hashlogLivesUptoRow : OpenClaim := { program := "ytjbmdeppoobccaa", sum := "2124b836ed78b262313687b03e6b12070350ef9baf42be6fcc9c98bc49bc216c", func := "casemate/casematelaw08.HashlogLives", spec := "hashlogLives", unfollowed := true, recurses := true, plainKeys := false, apart := false, narrowed := true }
def HashlogLivesUptoSaid : Prop := hashlogLivesUptoRow.holds Try.pinned (OpenSpec.upto hashlogLivesSpec)

/-- 'casematelaw08.HashlogNobody', WHERE WHAT IT READS IS OF BULK AT MOST 1048576: true; the input reads as it did. -/
def hashlogNobodyUptoRow : OpenClaim := { program := "ytjbmdeppoobccaa", sum := "2124b836ed78b262313687b03e6b12070350ef9baf42be6fcc9c98bc49bc216c", func := "casemate/casematelaw08.HashlogNobody", spec := "hashlogNobody", unfollowed := true, recurses := true, plainKeys := false, apart := false, narrowed := true }
def HashlogNobodyUptoSaid : Prop := hashlogNobodyUptoRow.holds Try.pinned (OpenSpec.upto hashlogNobodySpec)

/-- 'casematelaw08.HashlogApart', WHERE WHAT IT READS IS OF BULK AT MOST 1048576: true; the input reads as it did. -/
def hashlogApartUptoRow : OpenClaim := { program := "ytjbmdeppoobccaa", sum := "2124b836ed78b262313687b03e6b12070350ef9baf42be6fcc9c98bc49bc216c", func := "casemate/casematelaw08.HashlogApart", spec := "hashlogApart", unfollowed := true, recurses := true, plainKeys := false, apart := false, narrowed := true }
def HashlogApartUptoSaid : Prop := hashlogApartUptoRow.holds Try.pinned (OpenSpec.upto hashlogApartSpec)

/-- 'casematelaw08.HashlogStays', WHERE WHAT IT READS IS OF BULK AT MOST 1048576: true; the input reads as it did. -/
def hashlogStaysUptoRow : OpenClaim := { program := "ytjbmdeppoobccaa", sum := "2124b836ed78b262313687b03e6b12070350ef9baf42be6fcc9c98bc49bc216c", func := "casemate/casematelaw08.HashlogStays", spec := "hashlogStays", unfollowed := true, recurses := true, plainKeys := false, apart := false, narrowed := true }
def HashlogStaysUptoSaid : Prop := hashlogStaysUptoRow.holds Try.pinned (OpenSpec.upto hashlogStaysSpec)

end Rows
end Go.Proofs.Ytjbmdeppoobccaa
