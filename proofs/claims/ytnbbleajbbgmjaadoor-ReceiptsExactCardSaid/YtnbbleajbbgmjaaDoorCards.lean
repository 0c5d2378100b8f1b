/-
  DERIVED. GIVEN WITH THE SEED: THE CARDS: each row of YtnbbleajbbgmjaaDoorRows.lean that lists a variable, with what it lists TIED to the program's text (the seventh form; the later family's looks); each row that meets fmt, with fmt's text TOLD by the authors' own Lean function (tested against real Go, not proved from fmt's source: count such statements apart). THE CARD IS WHAT COUNTS. Prove the row's statement (the work); the ties are given (YtnbbleajbbgmjaaDoorTie.lean); close each card by the builder's one call (the guide's Derived/Test/ToyasCard.lean, 'card_holds'). Laid BY PROGRAM, IN A SANDBOX (cutbox-door.mjs). By AI agents, Wed Nov 11 2026. No macro, syntax, notation, axiom, sorry.
-/
import Derived.Test.YtnbbleajbbgmjaaDoorRows
import GoSem.ClaimSeven
namespace Go.Proofs.YtnbbleajbbgmjaaDoor
namespace Rows

/-- THE TIED CARD OF 'gridwrightlaw51.ReceiptsSpec'. -/
def receiptsSpecCard : Claim7 := { stood := { row := receiptsSpecRow, standIns := [], harness := (true, "3fdf66ca98cde12d98591ac195fcb72aad7074728f9db73e9ecfd257adb09a1d"), looks := false }, kinds := [], alts := [], laidByText := true, laidKinds := [.data, .data], laidTests := true, laidLooks := .later }
def ReceiptsSpecCardSaid : Prop := Claim7.holds Tryd.pinned (.plain (OpenSpec.ofChange receiptsSpecSpec)) receiptsSpecCard

/-- THE TIED CARD OF 'gridwrightlaw51.ReceiptsWhenSpec'. -/
def receiptsWhenSpecCard : Claim7 := { stood := { row := receiptsWhenSpecRow, standIns := [], harness := (true, "3fdf66ca98cde12d98591ac195fcb72aad7074728f9db73e9ecfd257adb09a1d"), looks := false }, kinds := [], alts := [], laidByText := true, laidKinds := [.data, .data], laidTests := true, laidLooks := .later }
def ReceiptsWhenSpecCardSaid : Prop := Claim7.holds Tryd.pinned (.plain (OpenSpec.ofChange receiptsWhenSpecSpec)) receiptsWhenSpecCard

/-- THE TIED CARD OF 'gridwrightlaw51.ReceiptsFewer'. -/
def receiptsFewerCard : Claim7 := { stood := { row := receiptsFewerRow, standIns := [], harness := (true, "3fdf66ca98cde12d98591ac195fcb72aad7074728f9db73e9ecfd257adb09a1d"), looks := false }, kinds := [], alts := [], laidByText := true, laidKinds := [.data, .data], laidTests := true, laidLooks := .later }
def ReceiptsFewerCardSaid : Prop := Claim7.holds Tryd.pinned (.plain (OpenSpec.ofChange receiptsFewerSpec)) receiptsFewerCard

/-- THE TIED CARD OF 'gridwrightlaw51.ReceiptsExact'. -/
def receiptsExactCard : Claim7 := { stood := { row := receiptsExactRow, standIns := [], harness := (true, "3fdf66ca98cde12d98591ac195fcb72aad7074728f9db73e9ecfd257adb09a1d"), looks := false }, kinds := [], alts := [], laidByText := true, laidKinds := [.data, .data], laidTests := true, laidLooks := .later }
def ReceiptsExactCardSaid : Prop := Claim7.holds Tryd.pinned (.plain (OpenSpec.ofChange receiptsExactSpec)) receiptsExactCard

/-- THE TIED CARD OF 'gridwrightlaw51.ReceiptsBefore'. -/
def receiptsBeforeCard : Claim7 := { stood := { row := receiptsBeforeRow, standIns := [], harness := (true, "3fdf66ca98cde12d98591ac195fcb72aad7074728f9db73e9ecfd257adb09a1d"), looks := false }, kinds := [], alts := [], laidByText := true, laidKinds := [.data, .data], laidTests := true, laidLooks := .later }
def ReceiptsBeforeCardSaid : Prop := Claim7.holds Tryd.pinned (.plain (OpenSpec.ofChange receiptsBeforeSpec)) receiptsBeforeCard

/-- THE TIED CARD OF 'gridwrightlaw51.ReceiptsTrue'. -/
def receiptsTrueCard : Claim7 := { stood := { row := receiptsTrueRow, standIns := [], harness := (true, "3fdf66ca98cde12d98591ac195fcb72aad7074728f9db73e9ecfd257adb09a1d"), looks := false }, kinds := [], alts := [], laidByText := true, laidKinds := [.data, .data], laidTests := true, laidLooks := .later }
def ReceiptsTrueCardSaid : Prop := Claim7.holds Tryd.pinned (.plain (OpenSpec.ofChange receiptsTrueSpec)) receiptsTrueCard

/-- THE TIED CARD OF 'gridwrightlaw51.ReceiptsConflicts'. -/
def receiptsConflictsCard : Claim7 := { stood := { row := receiptsConflictsRow, standIns := [], harness := (true, "3fdf66ca98cde12d98591ac195fcb72aad7074728f9db73e9ecfd257adb09a1d"), looks := false }, kinds := [], alts := [], laidByText := true, laidKinds := [.data, .data], laidTests := true, laidLooks := .later }
def ReceiptsConflictsCardSaid : Prop := Claim7.holds Tryd.pinned (.plain (OpenSpec.ofChange receiptsConflictsSpec)) receiptsConflictsCard

/-- THE SECOND FORM's CARD OF 'gridwrightlaw51.ReceiptsSpec'. -/
def receiptsSpecUptoCard : Claim7 := { stood := { row := receiptsSpecUptoRow, standIns := [], harness := (true, "3fdf66ca98cde12d98591ac195fcb72aad7074728f9db73e9ecfd257adb09a1d"), looks := false }, kinds := [], alts := [], laidByText := true, laidKinds := [.data, .data], laidTests := true, laidLooks := .later }
def ReceiptsSpecUptoCardSaid : Prop := Claim7.holds Tryd.pinned (.plain (OpenSpec.upto receiptsSpecSpec)) receiptsSpecUptoCard

/-- THE SECOND FORM's CARD OF 'gridwrightlaw51.ReceiptsWhenSpec'. -/
def receiptsWhenSpecUptoCard : Claim7 := { stood := { row := receiptsWhenSpecUptoRow, standIns := [], harness := (true, "3fdf66ca98cde12d98591ac195fcb72aad7074728f9db73e9ecfd257adb09a1d"), looks := false }, kinds := [], alts := [], laidByText := true, laidKinds := [.data, .data], laidTests := true, laidLooks := .later }
def ReceiptsWhenSpecUptoCardSaid : Prop := Claim7.holds Tryd.pinned (.plain (OpenSpec.upto receiptsWhenSpecSpec)) receiptsWhenSpecUptoCard

/-- THE SECOND FORM's CARD OF 'gridwrightlaw51.ReceiptsFewer'. -/
def receiptsFewerUptoCard : Claim7 := { stood := { row := receiptsFewerUptoRow, standIns := [], harness := (true, "3fdf66ca98cde12d98591ac195fcb72aad7074728f9db73e9ecfd257adb09a1d"), looks := false }, kinds := [], alts := [], laidByText := true, laidKinds := [.data, .data], laidTests := true, laidLooks := .later }
def ReceiptsFewerUptoCardSaid : Prop := Claim7.holds Tryd.pinned (.plain (OpenSpec.upto receiptsFewerSpec)) receiptsFewerUptoCard

/-- THE SECOND FORM's CARD OF 'gridwrightlaw51.ReceiptsExact'. -/
def receiptsExactUptoCard : Claim7 := { stood := { row := receiptsExactUptoRow, standIns := [], harness := (true, "3fdf66ca98cde12d98591ac195fcb72aad7074728f9db73e9ecfd257adb09a1d"), looks := false }, kinds := [], alts := [], laidByText := true, laidKinds := [.data, .data], laidTests := true, laidLooks := .later }
def ReceiptsExactUptoCardSaid : Prop := Claim7.holds Tryd.pinned (.plain (OpenSpec.upto receiptsExactSpec)) receiptsExactUptoCard

/-- THE SECOND FORM's CARD OF 'gridwrightlaw51.ReceiptsBefore'. -/
def receiptsBeforeUptoCard : Claim7 := { stood := { row := receiptsBeforeUptoRow, standIns := [], harness := (true, "3fdf66ca98cde12d98591ac195fcb72aad7074728f9db73e9ecfd257adb09a1d"), looks := false }, kinds := [], alts := [], laidByText := true, laidKinds := [.data, .data], laidTests := true, laidLooks := .later }
def ReceiptsBeforeUptoCardSaid : Prop := Claim7.holds Tryd.pinned (.plain (OpenSpec.upto receiptsBeforeSpec)) receiptsBeforeUptoCard

/-- THE SECOND FORM's CARD OF 'gridwrightlaw51.ReceiptsTrue'. -/
def receiptsTrueUptoCard : Claim7 := { stood := { row := receiptsTrueUptoRow, standIns := [], harness := (true, "3fdf66ca98cde12d98591ac195fcb72aad7074728f9db73e9ecfd257adb09a1d"), looks := false }, kinds := [], alts := [], laidByText := true, laidKinds := [.data, .data], laidTests := true, laidLooks := .later }
def ReceiptsTrueUptoCardSaid : Prop := Claim7.holds Tryd.pinned (.plain (OpenSpec.upto receiptsTrueSpec)) receiptsTrueUptoCard

/-- THE SECOND FORM's CARD OF 'gridwrightlaw51.ReceiptsConflicts'. -/
def receiptsConflictsUptoCard : Claim7 := { stood := { row := receiptsConflictsUptoRow, standIns := [], harness := (true, "3fdf66ca98cde12d98591ac195fcb72aad7074728f9db73e9ecfd257adb09a1d"), looks := false }, kinds := [], alts := [], laidByText := true, laidKinds := [.data, .data], laidTests := true, laidLooks := .later }
def ReceiptsConflictsUptoCardSaid : Prop := Claim7.holds Tryd.pinned (.plain (OpenSpec.upto receiptsConflictsSpec)) receiptsConflictsUptoCard
end Rows
end Go.Proofs.YtnbbleajbbgmjaaDoor
