/-
  DERIVED. GIVEN WITH THE SEED: THE CARDS: each row of YtideglpjgplpnaaDoorRows.lean that lists a variable, with what it lists TIED to the program's text (the seventh form; the later family's looks); each row that meets fmt, with fmt's text TOLD by the authors' own Lean function (tested against real Go, not proved from fmt's source: count such statements apart). THE CARD IS WHAT COUNTS. Prove the row's statement (the work); the ties are given (YtideglpjgplpnaaDoorTie.lean); close each card by the builder's one call (the guide's Derived/Test/ToyasCard.lean, 'card_holds'). Laid BY PROGRAM, IN A SANDBOX (cutbox-door.mjs). By AI agents, Wed Nov 11 2026. No macro, syntax, notation, axiom, sorry.
-/
import Derived.Test.YtideglpjgplpnaaDoorRows
import GoSem.ClaimSeven
namespace Go.Proofs.YtideglpjgplpnaaDoor
namespace Rows

/-- THE TIED CARD OF 'gridwrightlaw50.SealsOpened'. -/
def sealsOpenedCard : Claim7 := { stood := { row := sealsOpenedRow, standIns := [], harness := (true, "8a9b17fc106351cbd9482b3eda6e5246b8731898c8dbe89a4646dcb806b5c5ec"), looks := false }, kinds := [], alts := [], laidByText := true, laidKinds := [.data, .data], laidTests := true, laidLooks := .later }
def SealsOpenedCardSaid : Prop := Claim7.holds Tryd.pinned (.plain (OpenSpec.ofChange sealsOpenedSpec)) sealsOpenedCard

/-- THE TIED CARD OF 'gridwrightlaw50.SealsReturned'. -/
def sealsReturnedCard : Claim7 := { stood := { row := sealsReturnedRow, standIns := [], harness := (true, "8a9b17fc106351cbd9482b3eda6e5246b8731898c8dbe89a4646dcb806b5c5ec"), looks := false }, kinds := [], alts := [], laidByText := true, laidKinds := [.data, .data], laidTests := true, laidLooks := .later }
def SealsReturnedCardSaid : Prop := Claim7.holds Tryd.pinned (.plain (OpenSpec.ofChange sealsReturnedSpec)) sealsReturnedCard

/-- THE TIED CARD OF 'gridwrightlaw50.SealsSealSpec'. -/
def sealsSealSpecCard : Claim7 := { stood := { row := sealsSealSpecRow, standIns := [], harness := (true, "8a9b17fc106351cbd9482b3eda6e5246b8731898c8dbe89a4646dcb806b5c5ec"), looks := false }, kinds := [], alts := [], laidByText := true, laidKinds := [.data, .data], laidTests := true, laidLooks := .later }
def SealsSealSpecCardSaid : Prop := Claim7.holds Tryd.pinned (.plain (OpenSpec.ofChange sealsSealSpecSpec)) sealsSealSpecCard

/-- THE TIED CARD OF 'gridwrightlaw50.SealsOpenSpec'. -/
def sealsOpenSpecCard : Claim7 := { stood := { row := sealsOpenSpecRow, standIns := [], harness := (true, "8a9b17fc106351cbd9482b3eda6e5246b8731898c8dbe89a4646dcb806b5c5ec"), looks := false }, kinds := [], alts := [], laidByText := true, laidKinds := [.data, .data], laidTests := true, laidLooks := .later }
def SealsOpenSpecCardSaid : Prop := Claim7.holds Tryd.pinned (.plain (OpenSpec.ofChange sealsOpenSpecSpec)) sealsOpenSpecCard

/-- THE TIED CARD OF 'gridwrightlaw50.SealsTwinSpec'. -/
def sealsTwinSpecCard : Claim7 := { stood := { row := sealsTwinSpecRow, standIns := [], harness := (true, "8a9b17fc106351cbd9482b3eda6e5246b8731898c8dbe89a4646dcb806b5c5ec"), looks := false }, kinds := [], alts := [], laidByText := true, laidKinds := [.data, .data], laidTests := true, laidLooks := .later }
def SealsTwinSpecCardSaid : Prop := Claim7.holds Tryd.pinned (.plain (OpenSpec.ofChange sealsTwinSpecSpec)) sealsTwinSpecCard

/-- THE TIED CARD OF 'gridwrightlaw50.SealsHide'. -/
def sealsHideCard : Claim7 := { stood := { row := sealsHideRow, standIns := [], harness := (true, "8a9b17fc106351cbd9482b3eda6e5246b8731898c8dbe89a4646dcb806b5c5ec"), looks := false }, kinds := [], alts := [], laidByText := true, laidKinds := [.data, .data], laidTests := true, laidLooks := .later }
def SealsHideCardSaid : Prop := Claim7.holds Tryd.pinned (.plain (OpenSpec.ofChange sealsHideSpec)) sealsHideCard

/-- THE TIED CARD OF 'gridwrightlaw50.SealsMarks'. -/
def sealsMarksCard : Claim7 := { stood := { row := sealsMarksRow, standIns := [], harness := (true, "8a9b17fc106351cbd9482b3eda6e5246b8731898c8dbe89a4646dcb806b5c5ec"), looks := false }, kinds := [], alts := [], laidByText := true, laidKinds := [.data, .data], laidTests := true, laidLooks := .later }
def SealsMarksCardSaid : Prop := Claim7.holds Tryd.pinned (.plain (OpenSpec.ofChange sealsMarksSpec)) sealsMarksCard

/-- THE SECOND FORM's CARD OF 'gridwrightlaw50.SealsOpened'. -/
def sealsOpenedUptoCard : Claim7 := { stood := { row := sealsOpenedUptoRow, standIns := [], harness := (true, "8a9b17fc106351cbd9482b3eda6e5246b8731898c8dbe89a4646dcb806b5c5ec"), looks := false }, kinds := [], alts := [], laidByText := true, laidKinds := [.data, .data], laidTests := true, laidLooks := .later }
def SealsOpenedUptoCardSaid : Prop := Claim7.holds Tryd.pinned (.plain (OpenSpec.upto sealsOpenedSpec)) sealsOpenedUptoCard

/-- THE SECOND FORM's CARD OF 'gridwrightlaw50.SealsReturned'. -/
def sealsReturnedUptoCard : Claim7 := { stood := { row := sealsReturnedUptoRow, standIns := [], harness := (true, "8a9b17fc106351cbd9482b3eda6e5246b8731898c8dbe89a4646dcb806b5c5ec"), looks := false }, kinds := [], alts := [], laidByText := true, laidKinds := [.data, .data], laidTests := true, laidLooks := .later }
def SealsReturnedUptoCardSaid : Prop := Claim7.holds Tryd.pinned (.plain (OpenSpec.upto sealsReturnedSpec)) sealsReturnedUptoCard

/-- THE SECOND FORM's CARD OF 'gridwrightlaw50.SealsSealSpec'. -/
def sealsSealSpecUptoCard : Claim7 := { stood := { row := sealsSealSpecUptoRow, standIns := [], harness := (true, "8a9b17fc106351cbd9482b3eda6e5246b8731898c8dbe89a4646dcb806b5c5ec"), looks := false }, kinds := [], alts := [], laidByText := true, laidKinds := [.data, .data], laidTests := true, laidLooks := .later }
def SealsSealSpecUptoCardSaid : Prop := Claim7.holds Tryd.pinned (.plain (OpenSpec.upto sealsSealSpecSpec)) sealsSealSpecUptoCard

/-- THE SECOND FORM's CARD OF 'gridwrightlaw50.SealsOpenSpec'. -/
def sealsOpenSpecUptoCard : Claim7 := { stood := { row := sealsOpenSpecUptoRow, standIns := [], harness := (true, "8a9b17fc106351cbd9482b3eda6e5246b8731898c8dbe89a4646dcb806b5c5ec"), looks := false }, kinds := [], alts := [], laidByText := true, laidKinds := [.data, .data], laidTests := true, laidLooks := .later }
def SealsOpenSpecUptoCardSaid : Prop := Claim7.holds Tryd.pinned (.plain (OpenSpec.upto sealsOpenSpecSpec)) sealsOpenSpecUptoCard

/-- THE SECOND FORM's CARD OF 'gridwrightlaw50.SealsTwinSpec'. -/
def sealsTwinSpecUptoCard : Claim7 := { stood := { row := sealsTwinSpecUptoRow, standIns := [], harness := (true, "8a9b17fc106351cbd9482b3eda6e5246b8731898c8dbe89a4646dcb806b5c5ec"), looks := false }, kinds := [], alts := [], laidByText := true, laidKinds := [.data, .data], laidTests := true, laidLooks := .later }
def SealsTwinSpecUptoCardSaid : Prop := Claim7.holds Tryd.pinned (.plain (OpenSpec.upto sealsTwinSpecSpec)) sealsTwinSpecUptoCard

/-- THE SECOND FORM's CARD OF 'gridwrightlaw50.SealsHide'. -/
def sealsHideUptoCard : Claim7 := { stood := { row := sealsHideUptoRow, standIns := [], harness := (true, "8a9b17fc106351cbd9482b3eda6e5246b8731898c8dbe89a4646dcb806b5c5ec"), looks := false }, kinds := [], alts := [], laidByText := true, laidKinds := [.data, .data], laidTests := true, laidLooks := .later }
def SealsHideUptoCardSaid : Prop := Claim7.holds Tryd.pinned (.plain (OpenSpec.upto sealsHideSpec)) sealsHideUptoCard

/-- THE SECOND FORM's CARD OF 'gridwrightlaw50.SealsMarks'. -/
def sealsMarksUptoCard : Claim7 := { stood := { row := sealsMarksUptoRow, standIns := [], harness := (true, "8a9b17fc106351cbd9482b3eda6e5246b8731898c8dbe89a4646dcb806b5c5ec"), looks := false }, kinds := [], alts := [], laidByText := true, laidKinds := [.data, .data], laidTests := true, laidLooks := .later }
def SealsMarksUptoCardSaid : Prop := Claim7.holds Tryd.pinned (.plain (OpenSpec.upto sealsMarksSpec)) sealsMarksUptoCard
end Rows
end Go.Proofs.YtideglpjgplpnaaDoor
