/- What the row LedgerAppends says of the program's text: its closed facts, each reckoned apart. -/
import Derived.Test.YtmgnagpgnoikfaaGreatDoorCards
import Derived.Test.YtmgnagpgnoikfaaGreatDoorTie
import Derived.WalkKit
import Derived.ProofKit
import Derived.OpenShut
set_option linter.unusedVariables false
namespace Go.Proofs.YtmgnagpgnoikfaaGreatDoor.ledgerAppends
open Go.ChangeShapes Go.WideShapes Go.ChangeAt Go.RowKit
theorem and_tt {a b : Bool} (h : a = true) (k : b = true) : (a && b) = true := by rw [h, k]; rfl
theorem name3 : Tryz.pinned.checked.prog.funcNamed Rows.ledgerAppendsRow.func = some 3 := by kernel_rfl
set_option maxHeartbeats 100000000 in
theorem closed : joinedFacts Tryz.pinned.checked.prog 3 Go.Proofs.Tryz.f3 (OpenSpec.ofChange Rows.ledgerAppendsSpec).bare Rows.ledgerAppendsRow = true := by
  unfold joinedFacts
  repeat' with_reducible apply and_tt
  all_goals as_aux_lemma => kernel_rfl
end Go.Proofs.YtmgnagpgnoikfaaGreatDoor.ledgerAppends
