/-
  DERIVED. GIVEN WITH THE SEED: THE CARDS: each row of YtccaajbkondkaaaDoorRows.lean that lists a variable, with what it lists TIED to the program's text (the seventh form; the later family's looks); each row that meets fmt, with fmt's text TOLD by the authors' own Lean function (tested against real Go, not proved from fmt's source: count such statements apart). THE CARD IS WHAT COUNTS. Prove the row's statement (the work); the ties are given (YtccaajbkondkaaaDoorTie.lean); close each card by the builder's one call (the guide's Derived/Test/ToyasCard.lean, 'card_holds'). Laid BY PROGRAM, IN A SANDBOX (cutbox-door.mjs). By AI agents, Wed Nov 11 2026. No macro, syntax, notation, axiom, sorry.
-/
import Derived.Test.YtccaajbkondkaaaDoorRows
import GoSem.ClaimSeven
namespace Go.Proofs.YtccaajbkondkaaaDoor
namespace Rows

/-- THE TIED CARD OF 'casematelaw12.BitsLives'. -/
def bitsLivesCard : Claim7 := { stood := { row := bitsLivesRow, standIns := [], harness := (true, "da02e6ac319b9aca82391a6b91d93526e422b051e566172ca6370bc555442067"), looks := false }, kinds := [], alts := [], laidByText := true, laidKinds := [.data], laidTests := true, laidLooks := .later }
def BitsLivesCardSaid : Prop := Claim7.holds Tryd.pinned (.plain (OpenSpec.ofChange bitsLivesSpec)) bitsLivesCard

/-- THE TIED CARD OF 'casematelaw12.BitsFirst'. -/
def bitsFirstCard : Claim7 := { stood := { row := bitsFirstRow, standIns := [], harness := (true, "da02e6ac319b9aca82391a6b91d93526e422b051e566172ca6370bc555442067"), looks := false }, kinds := [], alts := [], laidByText := true, laidKinds := [.data], laidTests := true, laidLooks := .later }
def BitsFirstCardSaid : Prop := Claim7.holds Tryd.pinned (.plain (OpenSpec.ofChange bitsFirstSpec)) bitsFirstCard

/-- THE TIED CARD OF 'casematelaw12.BitsNobody'. -/
def bitsNobodyCard : Claim7 := { stood := { row := bitsNobodyRow, standIns := [], harness := (true, "da02e6ac319b9aca82391a6b91d93526e422b051e566172ca6370bc555442067"), looks := false }, kinds := [], alts := [], laidByText := true, laidKinds := [.data], laidTests := true, laidLooks := .later }
def BitsNobodyCardSaid : Prop := Claim7.holds Tryd.pinned (.plain (OpenSpec.ofChange bitsNobodySpec)) bitsNobodyCard

/-- THE TIED CARD OF 'casematelaw12.BitsCounts'. -/
def bitsCountsCard : Claim7 := { stood := { row := bitsCountsRow, standIns := [], harness := (true, "da02e6ac319b9aca82391a6b91d93526e422b051e566172ca6370bc555442067"), looks := false }, kinds := [], alts := [], laidByText := true, laidKinds := [.data], laidTests := true, laidLooks := .later }
def BitsCountsCardSaid : Prop := Claim7.holds Tryd.pinned (.plain (OpenSpec.ofChange bitsCountsSpec)) bitsCountsCard

/-- THE TIED CARD OF 'casematelaw12.BitsClones'. -/
def bitsClonesCard : Claim7 := { stood := { row := bitsClonesRow, standIns := [], harness := (true, "da02e6ac319b9aca82391a6b91d93526e422b051e566172ca6370bc555442067"), looks := false }, kinds := [], alts := [], laidByText := true, laidKinds := [.data], laidTests := true, laidLooks := .later }
def BitsClonesCardSaid : Prop := Claim7.holds Tryd.pinned (.plain (OpenSpec.ofChange bitsClonesSpec)) bitsClonesCard

/-- THE TIED CARD OF 'casematelaw17.ExtentApart'. -/
def extentApartCard : Claim7 := { stood := { row := extentApartRow, standIns := [], harness := (true, "da02e6ac319b9aca82391a6b91d93526e422b051e566172ca6370bc555442067"), looks := false }, kinds := [], alts := [], laidByText := true, laidKinds := [.data], laidTests := true, laidLooks := .later }
def ExtentApartCardSaid : Prop := Claim7.holds Tryd.pinned (.plain (OpenSpec.ofChange extentApartSpec)) extentApartCard

/-- THE TIED CARD OF 'casematelaw17.ExtentSums'. -/
def extentSumsCard : Claim7 := { stood := { row := extentSumsRow, standIns := [], harness := (true, "da02e6ac319b9aca82391a6b91d93526e422b051e566172ca6370bc555442067"), looks := false }, kinds := [], alts := [], laidByText := true, laidKinds := [.data], laidTests := true, laidLooks := .later }
def ExtentSumsCardSaid : Prop := Claim7.holds Tryd.pinned (.plain (OpenSpec.ofChange extentSumsSpec)) extentSumsCard

/-- THE TIED CARD OF 'casematelaw17.ExtentReserve'. -/
def extentReserveCard : Claim7 := { stood := { row := extentReserveRow, standIns := [], harness := (true, "da02e6ac319b9aca82391a6b91d93526e422b051e566172ca6370bc555442067"), looks := false }, kinds := [], alts := [], laidByText := true, laidKinds := [.data], laidTests := true, laidLooks := .later }
def ExtentReserveCardSaid : Prop := Claim7.holds Tryd.pinned (.plain (OpenSpec.ofChange extentReserveSpec)) extentReserveCard

/-- THE TIED CARD OF 'casematelaw17.ExtentLives'. -/
def extentLivesCard : Claim7 := { stood := { row := extentLivesRow, standIns := [], harness := (true, "da02e6ac319b9aca82391a6b91d93526e422b051e566172ca6370bc555442067"), looks := false }, kinds := [], alts := [], laidByText := true, laidKinds := [.data], laidTests := true, laidLooks := .later }
def ExtentLivesCardSaid : Prop := Claim7.holds Tryd.pinned (.plain (OpenSpec.ofChange extentLivesSpec)) extentLivesCard

/-- THE TIED CARD OF 'casematelaw17.ExtentNobody'. -/
def extentNobodyCard : Claim7 := { stood := { row := extentNobodyRow, standIns := [], harness := (true, "da02e6ac319b9aca82391a6b91d93526e422b051e566172ca6370bc555442067"), looks := false }, kinds := [], alts := [], laidByText := true, laidKinds := [.data], laidTests := true, laidLooks := .later }
def ExtentNobodyCardSaid : Prop := Claim7.holds Tryd.pinned (.plain (OpenSpec.ofChange extentNobodySpec)) extentNobodyCard

/-- THE SECOND FORM's CARD OF 'casematelaw12.BitsLives'. -/
def bitsLivesUptoCard : Claim7 := { stood := { row := bitsLivesUptoRow, standIns := [], harness := (true, "da02e6ac319b9aca82391a6b91d93526e422b051e566172ca6370bc555442067"), looks := false }, kinds := [], alts := [], laidByText := true, laidKinds := [.data], laidTests := true, laidLooks := .later }
def BitsLivesUptoCardSaid : Prop := Claim7.holds Tryd.pinned (.plain (OpenSpec.upto bitsLivesSpec)) bitsLivesUptoCard

/-- THE SECOND FORM's CARD OF 'casematelaw12.BitsFirst'. -/
def bitsFirstUptoCard : Claim7 := { stood := { row := bitsFirstUptoRow, standIns := [], harness := (true, "da02e6ac319b9aca82391a6b91d93526e422b051e566172ca6370bc555442067"), looks := false }, kinds := [], alts := [], laidByText := true, laidKinds := [.data], laidTests := true, laidLooks := .later }
def BitsFirstUptoCardSaid : Prop := Claim7.holds Tryd.pinned (.plain (OpenSpec.upto bitsFirstSpec)) bitsFirstUptoCard

/-- THE SECOND FORM's CARD OF 'casematelaw12.BitsNobody'. -/
def bitsNobodyUptoCard : Claim7 := { stood := { row := bitsNobodyUptoRow, standIns := [], harness := (true, "da02e6ac319b9aca82391a6b91d93526e422b051e566172ca6370bc555442067"), looks := false }, kinds := [], alts := [], laidByText := true, laidKinds := [.data], laidTests := true, laidLooks := .later }
def BitsNobodyUptoCardSaid : Prop := Claim7.holds Tryd.pinned (.plain (OpenSpec.upto bitsNobodySpec)) bitsNobodyUptoCard

/-- THE SECOND FORM's CARD OF 'casematelaw12.BitsCounts'. -/
def bitsCountsUptoCard : Claim7 := { stood := { row := bitsCountsUptoRow, standIns := [], harness := (true, "da02e6ac319b9aca82391a6b91d93526e422b051e566172ca6370bc555442067"), looks := false }, kinds := [], alts := [], laidByText := true, laidKinds := [.data], laidTests := true, laidLooks := .later }
def BitsCountsUptoCardSaid : Prop := Claim7.holds Tryd.pinned (.plain (OpenSpec.upto bitsCountsSpec)) bitsCountsUptoCard

/-- THE SECOND FORM's CARD OF 'casematelaw12.BitsClones'. -/
def bitsClonesUptoCard : Claim7 := { stood := { row := bitsClonesUptoRow, standIns := [], harness := (true, "da02e6ac319b9aca82391a6b91d93526e422b051e566172ca6370bc555442067"), looks := false }, kinds := [], alts := [], laidByText := true, laidKinds := [.data], laidTests := true, laidLooks := .later }
def BitsClonesUptoCardSaid : Prop := Claim7.holds Tryd.pinned (.plain (OpenSpec.upto bitsClonesSpec)) bitsClonesUptoCard

/-- THE SECOND FORM's CARD OF 'casematelaw17.ExtentApart'. -/
def extentApartUptoCard : Claim7 := { stood := { row := extentApartUptoRow, standIns := [], harness := (true, "da02e6ac319b9aca82391a6b91d93526e422b051e566172ca6370bc555442067"), looks := false }, kinds := [], alts := [], laidByText := true, laidKinds := [.data], laidTests := true, laidLooks := .later }
def ExtentApartUptoCardSaid : Prop := Claim7.holds Tryd.pinned (.plain (OpenSpec.upto extentApartSpec)) extentApartUptoCard

/-- THE SECOND FORM's CARD OF 'casematelaw17.ExtentSums'. -/
def extentSumsUptoCard : Claim7 := { stood := { row := extentSumsUptoRow, standIns := [], harness := (true, "da02e6ac319b9aca82391a6b91d93526e422b051e566172ca6370bc555442067"), looks := false }, kinds := [], alts := [], laidByText := true, laidKinds := [.data], laidTests := true, laidLooks := .later }
def ExtentSumsUptoCardSaid : Prop := Claim7.holds Tryd.pinned (.plain (OpenSpec.upto extentSumsSpec)) extentSumsUptoCard

/-- THE SECOND FORM's CARD OF 'casematelaw17.ExtentReserve'. -/
def extentReserveUptoCard : Claim7 := { stood := { row := extentReserveUptoRow, standIns := [], harness := (true, "da02e6ac319b9aca82391a6b91d93526e422b051e566172ca6370bc555442067"), looks := false }, kinds := [], alts := [], laidByText := true, laidKinds := [.data], laidTests := true, laidLooks := .later }
def ExtentReserveUptoCardSaid : Prop := Claim7.holds Tryd.pinned (.plain (OpenSpec.upto extentReserveSpec)) extentReserveUptoCard

/-- THE SECOND FORM's CARD OF 'casematelaw17.ExtentLives'. -/
def extentLivesUptoCard : Claim7 := { stood := { row := extentLivesUptoRow, standIns := [], harness := (true, "da02e6ac319b9aca82391a6b91d93526e422b051e566172ca6370bc555442067"), looks := false }, kinds := [], alts := [], laidByText := true, laidKinds := [.data], laidTests := true, laidLooks := .later }
def ExtentLivesUptoCardSaid : Prop := Claim7.holds Tryd.pinned (.plain (OpenSpec.upto extentLivesSpec)) extentLivesUptoCard

/-- THE SECOND FORM's CARD OF 'casematelaw17.ExtentNobody'. -/
def extentNobodyUptoCard : Claim7 := { stood := { row := extentNobodyUptoRow, standIns := [], harness := (true, "da02e6ac319b9aca82391a6b91d93526e422b051e566172ca6370bc555442067"), looks := false }, kinds := [], alts := [], laidByText := true, laidKinds := [.data], laidTests := true, laidLooks := .later }
def ExtentNobodyUptoCardSaid : Prop := Claim7.holds Tryd.pinned (.plain (OpenSpec.upto extentNobodySpec)) extentNobodyUptoCard
end Rows
end Go.Proofs.YtccaajbkondkaaaDoor
