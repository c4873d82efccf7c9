/-
  DERIVED. GIVEN WITH THE SEED: THE CARDS: each row of YtmgnagpgnoikfaaGreatDoorRows.lean that lists a variable, with what it lists TIED to the program's text (the seventh form; the later family's looks); each row that meets fmt, with fmt's text TOLD by the authors' own Lean function (tested against real Go, not proved from fmt's source: count such statements apart). THE CARD IS WHAT COUNTS. Prove the row's statement (the work); the ties are given (YtmgnagpgnoikfaaGreatDoorTie.lean); close each card by the builder's one call (the guide's Derived/Test/ToyasCard.lean, 'card_holds'). Laid BY PROGRAM, IN A SANDBOX (cutbox-door.mjs). By AI agents, Wed Nov 11 2026. No macro, syntax, notation, axiom, sorry.
-/
import Derived.Test.YtmgnagpgnoikfaaGreatDoorRows
import GoSem.ClaimSeven
namespace Go.Proofs.YtmgnagpgnoikfaaGreatDoor
namespace Rows

/-- THE TIED CARD OF 'phratrylaw14.LedgerAppends'. -/
def ledgerAppendsCard : Claim7 := { stood := { row := ledgerAppendsRow, standIns := [], harness := (true, "dd475a3291acc19f0950d0098d2ed0d7794cc199ce27232fa908172dcd97600f"), looks := false }, kinds := [], alts := [], laidByText := true, laidKinds := [.data, .data, .data], laidTests := true, laidLooks := .later }
def LedgerAppendsCardSaid : Prop := Claim7.holds Tryz.pinned (.plain (OpenSpec.ofChange ledgerAppendsSpec)) ledgerAppendsCard

/-- THE TIED CARD OF 'phratrylaw14.LedgerTells'. -/
def ledgerTellsCard : Claim7 := { stood := { row := ledgerTellsRow, standIns := [], harness := (true, "dd475a3291acc19f0950d0098d2ed0d7794cc199ce27232fa908172dcd97600f"), looks := false }, kinds := [], alts := [], laidByText := true, laidKinds := [.data, .data, .data], laidTests := true, laidLooks := .later }
def LedgerTellsCardSaid : Prop := Claim7.holds Tryz.pinned (.plain (OpenSpec.ofChange ledgerTellsSpec)) ledgerTellsCard

/-- THE SECOND FORM's CARD OF 'phratrylaw14.LedgerAppends'. -/
def ledgerAppendsUptoCard : Claim7 := { stood := { row := ledgerAppendsUptoRow, standIns := [], harness := (true, "dd475a3291acc19f0950d0098d2ed0d7794cc199ce27232fa908172dcd97600f"), looks := false }, kinds := [], alts := [], laidByText := true, laidKinds := [.data, .data, .data], laidTests := true, laidLooks := .later }
def LedgerAppendsUptoCardSaid : Prop := Claim7.holds Tryz.pinned (.plain (OpenSpec.upto ledgerAppendsSpec)) ledgerAppendsUptoCard

/-- THE SECOND FORM's CARD OF 'phratrylaw14.LedgerTells'. -/
def ledgerTellsUptoCard : Claim7 := { stood := { row := ledgerTellsUptoRow, standIns := [], harness := (true, "dd475a3291acc19f0950d0098d2ed0d7794cc199ce27232fa908172dcd97600f"), looks := false }, kinds := [], alts := [], laidByText := true, laidKinds := [.data, .data, .data], laidTests := true, laidLooks := .later }
def LedgerTellsUptoCardSaid : Prop := Claim7.holds Tryz.pinned (.plain (OpenSpec.upto ledgerTellsSpec)) ledgerTellsUptoCard
end Rows
end Go.Proofs.YtmgnagpgnoikfaaGreatDoor
