import Derived.Test.YtfmholpbpghojaaDoorCards
import Derived.Test.YtfmholpbpghojaaDoorTie
import Derived.Test.YtfmholpbpghojaaDoorBase
import Derived.WalkKit
import Derived.ProofKit
import Derived.OpenShut
import Derived.LaidMore
import Derived.ChangeOld
import Derived.Deep.DeepHandedRow
import Derived.Deep.DeepWitnessRowRef
import Derived.Lib.LaidTab
import Derived.Stop.LaidErr
import Derived.Lib.SmallJoins
import Derived.Stop.Joined
import Derived.Carry
import Derived.Lay
import Derived.LaidOnce
import Derived.PinnedBridge
/-! What the rows over schemas share: a start that fits. -/
namespace Go.Proofs.YtfmholpbpghojaaDoor
set_option linter.unusedVariables false
set_option linter.unusedSimpArgs false
open Go.ChangeShapes Go.WideShapes Go.ChangeAt Go.RowKit

theorem own : ownKnob Tryd.prog.godebug = none := by kernel_rfl
theorem laidOut : laidOutB Tryd.prog = true := by kernel_rfl

/-- A start that meets the list: its tables laid. -/
noncomputable def startS (os : Os) : World := World.laidAll Tryd.prog os Rows.schemaChecksRow.laid
theorem startS_os (os : Os) : (startS os).os = os := World.laidAll_os _ _ _
theorem doorS_met (os : Os) (args : Array Value) : laidMetH Tryd.prog Rows.schemaChecksRow.laid ((startS os).forCall (fun _ _ => 0) ⟨#[], args, []⟩).memory := by
  rw [MakeChecks.laidMetH_plain _ _ _ (by kernel_rfl)]
  exact laidMet_laidAll _ (by kernel_rfl) (by kernel_rfl)
end Go.Proofs.YtfmholpbpghojaaDoor
