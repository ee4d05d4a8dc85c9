/-
  DERIVED. GIVEN WITH THE SEED: THE CARDS: each row of YtjhfoddhpmmjoaaDoorRows.lean that lists a variable, with what it lists TIED to the program's text (the seventh form; the later family's looks); each row that meets fmt, with fmt's text TOLD by the authors' own Lean function (tested against real Go, not proved from fmt's source: count such statements apart). THE CARD IS WHAT COUNTS. Prove the row's statement (the work); the ties are given (YtjhfoddhpmmjoaaDoorTie.lean); close each card by the builder's one call (the guide's Derived/Test/ToyasCard.lean, 'card_holds'). Laid BY PROGRAM, IN A SANDBOX (cutbox-door.mjs). By AI agents, Wed Nov 11 2026. No macro, syntax, notation, axiom, sorry.
-/
import Derived.Test.YtjhfoddhpmmjoaaDoorRows
import GoSem.ClaimSeven
namespace Go.Proofs.YtjhfoddhpmmjoaaDoor
namespace Rows

/-- THE TIED CARD OF 'casematelaw17.ExtentApart'. -/
def extentApartCard : Claim7 := { stood := { row := extentApartRow, standIns := [], harness := (true, "bc2d75164805a2dcd17a37809da6d4d188b10ddf7e8f079aa969bd02bda3c8ab"), looks := false }, kinds := [], alts := [], laidByText := true, laidKinds := [.data], laidTests := true, laidLooks := .later }
def ExtentApartCardSaid : Prop := Claim7.holds Tryd.pinned (.plain (OpenSpec.ofChange extentApartSpec)) extentApartCard

/-- THE TIED CARD OF 'casematelaw17.ExtentSums'. -/
def extentSumsCard : Claim7 := { stood := { row := extentSumsRow, standIns := [], harness := (true, "bc2d75164805a2dcd17a37809da6d4d188b10ddf7e8f079aa969bd02bda3c8ab"), looks := false }, kinds := [], alts := [], laidByText := true, laidKinds := [.data], laidTests := true, laidLooks := .later }
def ExtentSumsCardSaid : Prop := Claim7.holds Tryd.pinned (.plain (OpenSpec.ofChange extentSumsSpec)) extentSumsCard

/-- THE TIED CARD OF 'casematelaw17.ExtentReserve'. -/
def extentReserveCard : Claim7 := { stood := { row := extentReserveRow, standIns := [], harness := (true, "bc2d75164805a2dcd17a37809da6d4d188b10ddf7e8f079aa969bd02bda3c8ab"), looks := false }, kinds := [], alts := [], laidByText := true, laidKinds := [.data], laidTests := true, laidLooks := .later }
def ExtentReserveCardSaid : Prop := Claim7.holds Tryd.pinned (.plain (OpenSpec.ofChange extentReserveSpec)) extentReserveCard

/-- THE TIED CARD OF 'casematelaw17.ExtentLives'. -/
def extentLivesCard : Claim7 := { stood := { row := extentLivesRow, standIns := [], harness := (true, "bc2d75164805a2dcd17a37809da6d4d188b10ddf7e8f079aa969bd02bda3c8ab"), looks := false }, kinds := [], alts := [], laidByText := true, laidKinds := [.data], laidTests := true, laidLooks := .later }
def ExtentLivesCardSaid : Prop := Claim7.holds Tryd.pinned (.plain (OpenSpec.ofChange extentLivesSpec)) extentLivesCard

/-- THE TIED CARD OF 'casematelaw17.ExtentNobody'. -/
def extentNobodyCard : Claim7 := { stood := { row := extentNobodyRow, standIns := [], harness := (true, "bc2d75164805a2dcd17a37809da6d4d188b10ddf7e8f079aa969bd02bda3c8ab"), looks := false }, kinds := [], alts := [], laidByText := true, laidKinds := [.data], laidTests := true, laidLooks := .later }
def ExtentNobodyCardSaid : Prop := Claim7.holds Tryd.pinned (.plain (OpenSpec.ofChange extentNobodySpec)) extentNobodyCard

/-- THE TIED CARD OF 'casematelaw18.PoolNobody'. -/
def poolNobodyCard : Claim7 := { stood := { row := poolNobodyRow, standIns := [], harness := (true, "bc2d75164805a2dcd17a37809da6d4d188b10ddf7e8f079aa969bd02bda3c8ab"), looks := false }, kinds := [], alts := [], laidByText := true, laidKinds := [.data], laidTests := true, laidLooks := .later }
def PoolNobodyCardSaid : Prop := Claim7.holds Tryd.pinned (.plain (OpenSpec.ofChange poolNobodySpec)) poolNobodyCard

/-- THE TIED CARD OF 'casematelaw18.PoolStays'. -/
def poolStaysCard : Claim7 := { stood := { row := poolStaysRow, standIns := [], harness := (true, "bc2d75164805a2dcd17a37809da6d4d188b10ddf7e8f079aa969bd02bda3c8ab"), looks := false }, kinds := [], alts := [], laidByText := true, laidKinds := [.data], laidTests := true, laidLooks := .later }
def PoolStaysCardSaid : Prop := Claim7.holds Tryd.pinned (.plain (OpenSpec.ofChange poolStaysSpec)) poolStaysCard

/-- THE TIED CARD OF 'casematelaw18.PoolTold'. -/
def poolToldCard : Claim7 := { stood := { row := poolToldRow, standIns := [], harness := (true, "bc2d75164805a2dcd17a37809da6d4d188b10ddf7e8f079aa969bd02bda3c8ab"), looks := false }, kinds := [], alts := [], laidByText := true, laidKinds := [.data], laidTests := true, laidLooks := .later }
def PoolToldCardSaid : Prop := Claim7.holds Tryd.pinned (.plain (OpenSpec.ofChange poolToldSpec)) poolToldCard

/-- THE TIED CARD OF 'casematelaw18.PoolRefused'. -/
def poolRefusedCard : Claim7 := { stood := { row := poolRefusedRow, standIns := [], harness := (true, "bc2d75164805a2dcd17a37809da6d4d188b10ddf7e8f079aa969bd02bda3c8ab"), looks := false }, kinds := [], alts := [], laidByText := true, laidKinds := [.data], laidTests := true, laidLooks := .later }
def PoolRefusedCardSaid : Prop := Claim7.holds Tryd.pinned (.plain (OpenSpec.ofChange poolRefusedSpec)) poolRefusedCard

/-- THE SECOND FORM's CARD OF 'casematelaw17.ExtentApart'. -/
def extentApartUptoCard : Claim7 := { stood := { row := extentApartUptoRow, standIns := [], harness := (true, "bc2d75164805a2dcd17a37809da6d4d188b10ddf7e8f079aa969bd02bda3c8ab"), looks := false }, kinds := [], alts := [], laidByText := true, laidKinds := [.data], laidTests := true, laidLooks := .later }
def ExtentApartUptoCardSaid : Prop := Claim7.holds Tryd.pinned (.plain (OpenSpec.upto extentApartSpec)) extentApartUptoCard

/-- THE SECOND FORM's CARD OF 'casematelaw17.ExtentSums'. -/
def extentSumsUptoCard : Claim7 := { stood := { row := extentSumsUptoRow, standIns := [], harness := (true, "bc2d75164805a2dcd17a37809da6d4d188b10ddf7e8f079aa969bd02bda3c8ab"), looks := false }, kinds := [], alts := [], laidByText := true, laidKinds := [.data], laidTests := true, laidLooks := .later }
def ExtentSumsUptoCardSaid : Prop := Claim7.holds Tryd.pinned (.plain (OpenSpec.upto extentSumsSpec)) extentSumsUptoCard

/-- THE SECOND FORM's CARD OF 'casematelaw17.ExtentReserve'. -/
def extentReserveUptoCard : Claim7 := { stood := { row := extentReserveUptoRow, standIns := [], harness := (true, "bc2d75164805a2dcd17a37809da6d4d188b10ddf7e8f079aa969bd02bda3c8ab"), looks := false }, kinds := [], alts := [], laidByText := true, laidKinds := [.data], laidTests := true, laidLooks := .later }
def ExtentReserveUptoCardSaid : Prop := Claim7.holds Tryd.pinned (.plain (OpenSpec.upto extentReserveSpec)) extentReserveUptoCard

/-- THE SECOND FORM's CARD OF 'casematelaw17.ExtentLives'. -/
def extentLivesUptoCard : Claim7 := { stood := { row := extentLivesUptoRow, standIns := [], harness := (true, "bc2d75164805a2dcd17a37809da6d4d188b10ddf7e8f079aa969bd02bda3c8ab"), looks := false }, kinds := [], alts := [], laidByText := true, laidKinds := [.data], laidTests := true, laidLooks := .later }
def ExtentLivesUptoCardSaid : Prop := Claim7.holds Tryd.pinned (.plain (OpenSpec.upto extentLivesSpec)) extentLivesUptoCard

/-- THE SECOND FORM's CARD OF 'casematelaw17.ExtentNobody'. -/
def extentNobodyUptoCard : Claim7 := { stood := { row := extentNobodyUptoRow, standIns := [], harness := (true, "bc2d75164805a2dcd17a37809da6d4d188b10ddf7e8f079aa969bd02bda3c8ab"), looks := false }, kinds := [], alts := [], laidByText := true, laidKinds := [.data], laidTests := true, laidLooks := .later }
def ExtentNobodyUptoCardSaid : Prop := Claim7.holds Tryd.pinned (.plain (OpenSpec.upto extentNobodySpec)) extentNobodyUptoCard

/-- THE SECOND FORM's CARD OF 'casematelaw18.PoolNobody'. -/
def poolNobodyUptoCard : Claim7 := { stood := { row := poolNobodyUptoRow, standIns := [], harness := (true, "bc2d75164805a2dcd17a37809da6d4d188b10ddf7e8f079aa969bd02bda3c8ab"), looks := false }, kinds := [], alts := [], laidByText := true, laidKinds := [.data], laidTests := true, laidLooks := .later }
def PoolNobodyUptoCardSaid : Prop := Claim7.holds Tryd.pinned (.plain (OpenSpec.upto poolNobodySpec)) poolNobodyUptoCard

/-- THE SECOND FORM's CARD OF 'casematelaw18.PoolStays'. -/
def poolStaysUptoCard : Claim7 := { stood := { row := poolStaysUptoRow, standIns := [], harness := (true, "bc2d75164805a2dcd17a37809da6d4d188b10ddf7e8f079aa969bd02bda3c8ab"), looks := false }, kinds := [], alts := [], laidByText := true, laidKinds := [.data], laidTests := true, laidLooks := .later }
def PoolStaysUptoCardSaid : Prop := Claim7.holds Tryd.pinned (.plain (OpenSpec.upto poolStaysSpec)) poolStaysUptoCard

/-- THE SECOND FORM's CARD OF 'casematelaw18.PoolTold'. -/
def poolToldUptoCard : Claim7 := { stood := { row := poolToldUptoRow, standIns := [], harness := (true, "bc2d75164805a2dcd17a37809da6d4d188b10ddf7e8f079aa969bd02bda3c8ab"), looks := false }, kinds := [], alts := [], laidByText := true, laidKinds := [.data], laidTests := true, laidLooks := .later }
def PoolToldUptoCardSaid : Prop := Claim7.holds Tryd.pinned (.plain (OpenSpec.upto poolToldSpec)) poolToldUptoCard

/-- THE SECOND FORM's CARD OF 'casematelaw18.PoolRefused'. -/
def poolRefusedUptoCard : Claim7 := { stood := { row := poolRefusedUptoRow, standIns := [], harness := (true, "bc2d75164805a2dcd17a37809da6d4d188b10ddf7e8f079aa969bd02bda3c8ab"), looks := false }, kinds := [], alts := [], laidByText := true, laidKinds := [.data], laidTests := true, laidLooks := .later }
def PoolRefusedUptoCardSaid : Prop := Claim7.holds Tryd.pinned (.plain (OpenSpec.upto poolRefusedSpec)) poolRefusedUptoCard
end Rows
end Go.Proofs.YtjhfoddhpmmjoaaDoor
