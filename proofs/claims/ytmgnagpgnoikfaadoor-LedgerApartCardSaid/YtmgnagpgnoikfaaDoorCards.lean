/-
  DERIVED. GIVEN WITH THE SEED: THE CARDS: each row of YtmgnagpgnoikfaaDoorRows.lean that lists a variable, with what it lists TIED to the program's text (the seventh form; the later family's looks); each row that meets fmt, with fmt's text TOLD by the authors' own Lean function (tested against real Go, not proved from fmt's source: count such statements apart). THE CARD IS WHAT COUNTS. Prove the row's statement (the work); the ties are given (YtmgnagpgnoikfaaDoorTie.lean); close each card by the builder's one call (the guide's Derived/Test/ToyasCard.lean, 'card_holds'). Laid BY PROGRAM, IN A SANDBOX (cutbox-door.mjs). By AI agents, Wed Nov 11 2026. No macro, syntax, notation, axiom, sorry.
-/
import Derived.Test.YtmgnagpgnoikfaaDoorRows
import GoSem.ClaimSeven
namespace Go.Proofs.YtmgnagpgnoikfaaDoor
namespace Rows

/-- THE TIED CARD OF 'phratrylaw14.LedgerApart'. -/
def ledgerApartCard : Claim7 := { stood := { row := ledgerApartRow, standIns := [], harness := (true, "cfcf07cbc424f542fd4f1d3b823885d137d6b02a789b924804c494de80b0beb1"), looks := false }, kinds := [], alts := [], laidByText := true, laidKinds := [.data], laidTests := true, laidLooks := .later }
def LedgerApartCardSaid : Prop := Claim7.holds Tryd.pinned (.plain (OpenSpec.ofChange ledgerApartSpec)) ledgerApartCard

/-- THE TIED CARD OF 'phratrylaw14.LedgerFirst'. -/
def ledgerFirstCard : Claim7 := { stood := { row := ledgerFirstRow, standIns := [], harness := (true, "cfcf07cbc424f542fd4f1d3b823885d137d6b02a789b924804c494de80b0beb1"), looks := false }, kinds := [], alts := [], laidByText := true, laidKinds := [.data], laidTests := true, laidLooks := .later }
def LedgerFirstCardSaid : Prop := Claim7.holds Tryd.pinned (.plain (OpenSpec.ofChange ledgerFirstSpec)) ledgerFirstCard

/-- THE TIED CARD OF 'phratrylaw14.LedgerRow'. -/
def ledgerRowCard : Claim7 := { stood := { row := ledgerRowRow, standIns := [], harness := (true, "cfcf07cbc424f542fd4f1d3b823885d137d6b02a789b924804c494de80b0beb1"), looks := false }, kinds := [], alts := [], laidByText := true, laidKinds := [.data], laidTests := true, laidLooks := .later }
def LedgerRowCardSaid : Prop := Claim7.holds Tryd.pinned (.plain (OpenSpec.ofChange ledgerRowSpec)) ledgerRowCard

/-- THE SECOND FORM's CARD OF 'phratrylaw14.LedgerApart'. -/
def ledgerApartUptoCard : Claim7 := { stood := { row := ledgerApartUptoRow, standIns := [], harness := (true, "cfcf07cbc424f542fd4f1d3b823885d137d6b02a789b924804c494de80b0beb1"), looks := false }, kinds := [], alts := [], laidByText := true, laidKinds := [.data], laidTests := true, laidLooks := .later }
def LedgerApartUptoCardSaid : Prop := Claim7.holds Tryd.pinned (.plain (OpenSpec.upto ledgerApartSpec)) ledgerApartUptoCard

/-- THE SECOND FORM's CARD OF 'phratrylaw14.LedgerFirst'. -/
def ledgerFirstUptoCard : Claim7 := { stood := { row := ledgerFirstUptoRow, standIns := [], harness := (true, "cfcf07cbc424f542fd4f1d3b823885d137d6b02a789b924804c494de80b0beb1"), looks := false }, kinds := [], alts := [], laidByText := true, laidKinds := [.data], laidTests := true, laidLooks := .later }
def LedgerFirstUptoCardSaid : Prop := Claim7.holds Tryd.pinned (.plain (OpenSpec.upto ledgerFirstSpec)) ledgerFirstUptoCard

/-- THE SECOND FORM's CARD OF 'phratrylaw14.LedgerRow'. -/
def ledgerRowUptoCard : Claim7 := { stood := { row := ledgerRowUptoRow, standIns := [], harness := (true, "cfcf07cbc424f542fd4f1d3b823885d137d6b02a789b924804c494de80b0beb1"), looks := false }, kinds := [], alts := [], laidByText := true, laidKinds := [.data], laidTests := true, laidLooks := .later }
def LedgerRowUptoCardSaid : Prop := Claim7.holds Tryd.pinned (.plain (OpenSpec.upto ledgerRowSpec)) ledgerRowUptoCard
end Rows
end Go.Proofs.YtmgnagpgnoikfaaDoor
