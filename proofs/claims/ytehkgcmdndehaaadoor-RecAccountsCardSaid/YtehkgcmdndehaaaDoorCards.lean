/-
  DERIVED. GIVEN WITH THE SEED: THE CARDS: each row of YtehkgcmdndehaaaDoorRows.lean that lists a variable, with what it lists TIED to the program's text (the seventh form; the later family's looks); each row that meets fmt, with fmt's text TOLD by the authors' own Lean function (tested against real Go, not proved from fmt's source: count such statements apart). THE CARD IS WHAT COUNTS. Prove the row's statement (the work); the ties are given (YtehkgcmdndehaaaDoorTie.lean); close each card by the builder's one call (the guide's Derived/Test/ToyasCard.lean, 'card_holds'). Laid BY PROGRAM, IN A SANDBOX (cutbox-door.mjs). By AI agents, Wed Nov 11 2026. No macro, syntax, notation, axiom, sorry.
-/
import Derived.Test.YtehkgcmdndehaaaDoorRows
import GoSem.ClaimSeven
namespace Go.Proofs.YtehkgcmdndehaaaDoor
namespace Rows

/-- THE TIED CARD OF 'tolllaw6.RecNumbers'. -/
def recNumbersCard : Claim7 := { stood := { row := recNumbersRow, standIns := [], harness := (true, "5f09fa3c5c808ef9b9da4a37e4663d6583167adc1383474127168b433499a7fc"), looks := false }, kinds := [], alts := [], laidByText := true, laidKinds := [.data, .data, .data], laidTests := true, laidLooks := .later }
def RecNumbersCardSaid : Prop := Claim7.holds Tryd.pinned (.plain (OpenSpec.ofChange recNumbersSpec)) recNumbersCard

/-- THE TIED CARD OF 'tolllaw6.RecPlans'. -/
def recPlansCard : Claim7 := { stood := { row := recPlansRow, standIns := [], harness := (true, "5f09fa3c5c808ef9b9da4a37e4663d6583167adc1383474127168b433499a7fc"), looks := false }, kinds := [], alts := [], laidByText := true, laidKinds := [.data, .data, .data], laidTests := true, laidLooks := .later }
def RecPlansCardSaid : Prop := Claim7.holds Tryd.pinned (.plain (OpenSpec.ofChange recPlansSpec)) recPlansCard

/-- THE TIED CARD OF 'tolllaw6.RecTurns'. -/
def recTurnsCard : Claim7 := { stood := { row := recTurnsRow, standIns := [], harness := (true, "5f09fa3c5c808ef9b9da4a37e4663d6583167adc1383474127168b433499a7fc"), looks := false }, kinds := [], alts := [], laidByText := true, laidKinds := [.data, .data, .data], laidTests := true, laidLooks := .later }
def RecTurnsCardSaid : Prop := Claim7.holds Tryd.pinned (.plain (OpenSpec.ofChange recTurnsSpec)) recTurnsCard

/-- THE TIED CARD OF 'tolllaw6.RecAccounts'. -/
def recAccountsCard : Claim7 := { stood := { row := recAccountsRow, standIns := [], harness := (true, "5f09fa3c5c808ef9b9da4a37e4663d6583167adc1383474127168b433499a7fc"), looks := false }, kinds := [], alts := [], laidByText := true, laidKinds := [.data, .data, .data], laidTests := true, laidLooks := .later }
def RecAccountsCardSaid : Prop := Claim7.holds Tryd.pinned (.plain (OpenSpec.ofChange recAccountsSpec)) recAccountsCard

/-- THE SECOND FORM's CARD OF 'tolllaw6.RecNumbers'. -/
def recNumbersUptoCard : Claim7 := { stood := { row := recNumbersUptoRow, standIns := [], harness := (true, "5f09fa3c5c808ef9b9da4a37e4663d6583167adc1383474127168b433499a7fc"), looks := false }, kinds := [], alts := [], laidByText := true, laidKinds := [.data, .data, .data], laidTests := true, laidLooks := .later }
def RecNumbersUptoCardSaid : Prop := Claim7.holds Tryd.pinned (.plain (OpenSpec.upto recNumbersSpec)) recNumbersUptoCard

/-- THE SECOND FORM's CARD OF 'tolllaw6.RecPlans'. -/
def recPlansUptoCard : Claim7 := { stood := { row := recPlansUptoRow, standIns := [], harness := (true, "5f09fa3c5c808ef9b9da4a37e4663d6583167adc1383474127168b433499a7fc"), looks := false }, kinds := [], alts := [], laidByText := true, laidKinds := [.data, .data, .data], laidTests := true, laidLooks := .later }
def RecPlansUptoCardSaid : Prop := Claim7.holds Tryd.pinned (.plain (OpenSpec.upto recPlansSpec)) recPlansUptoCard

/-- THE SECOND FORM's CARD OF 'tolllaw6.RecTurns'. -/
def recTurnsUptoCard : Claim7 := { stood := { row := recTurnsUptoRow, standIns := [], harness := (true, "5f09fa3c5c808ef9b9da4a37e4663d6583167adc1383474127168b433499a7fc"), looks := false }, kinds := [], alts := [], laidByText := true, laidKinds := [.data, .data, .data], laidTests := true, laidLooks := .later }
def RecTurnsUptoCardSaid : Prop := Claim7.holds Tryd.pinned (.plain (OpenSpec.upto recTurnsSpec)) recTurnsUptoCard

/-- THE SECOND FORM's CARD OF 'tolllaw6.RecAccounts'. -/
def recAccountsUptoCard : Claim7 := { stood := { row := recAccountsUptoRow, standIns := [], harness := (true, "5f09fa3c5c808ef9b9da4a37e4663d6583167adc1383474127168b433499a7fc"), looks := false }, kinds := [], alts := [], laidByText := true, laidKinds := [.data, .data, .data], laidTests := true, laidLooks := .later }
def RecAccountsUptoCardSaid : Prop := Claim7.holds Tryd.pinned (.plain (OpenSpec.upto recAccountsSpec)) recAccountsUptoCard
end Rows
end Go.Proofs.YtehkgcmdndehaaaDoor
