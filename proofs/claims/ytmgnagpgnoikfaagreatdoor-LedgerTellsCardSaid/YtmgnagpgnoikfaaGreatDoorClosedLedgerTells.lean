/- What the row LedgerTells says of the program's text: its closed facts, each reckoned apart. -/
import Derived.Test.YtmgnagpgnoikfaaGreatDoorCards
import Derived.Test.YtmgnagpgnoikfaaGreatDoorTie
import Derived.WalkKit
import Derived.ProofKit
import Derived.OpenShut
set_option linter.unusedVariables false
namespace Go.Proofs.YtmgnagpgnoikfaaGreatDoor.ledgerTells
open Go.ChangeShapes Go.WideShapes Go.ChangeAt Go.RowKit
theorem and_tt {a b : Bool} (h : a = true) (k : b = true) : (a && b) = true := by rw [h, k]; rfl
theorem name3 : Tryz.pinned.checked.prog.funcNamed Rows.ledgerTellsRow.func = some 4 := by kernel_rfl
set_option maxHeartbeats 100000000 in
theorem closed : joinedFacts Tryz.pinned.checked.prog 4 Go.Proofs.Tryz.f4 (OpenSpec.ofChange Rows.ledgerTellsSpec).bare Rows.ledgerTellsRow = true := by
  unfold joinedFacts
  repeat' with_reducible apply and_tt
  all_goals as_aux_lemma => kernel_rfl
end Go.Proofs.YtmgnagpgnoikfaaGreatDoor.ledgerTells
