import Derived.Test.YtfmholpbpghojaaDoorCards
import Derived.Test.YtfmholpbpghojaaDoorTie
import Derived.Test.YtfmholpbpghojaaDoorOrdW
import Derived.WalkKit
import Derived.ProofKit
import Derived.OpenShut
import Derived.LaidMore
import Derived.ChangeOld
import Derived.Deep.DeepHandedRow
import Derived.Deep.DeepWitnessRowRef
import Derived.Lib.LaidTab
import Derived.Stop.LaidErr
import Derived.Lib.SmallJoins
import Derived.Stop.Joined
import Derived.Carry
/-! What the rows of the laws over strconv share: the tables and errors out of 'laid'; a start that fits; keys opened. -/
namespace Go.Proofs.YtfmholpbpghojaaDoor
set_option linter.unusedVariables false
set_option linter.unusedSimpArgs false
open Go.ChangeShapes Go.WideShapes Go.ChangeAt Go.RowKit

theorem own : ownKnob Tryd.prog.godebug = none := by kernel_rfl
theorem laidOut : laidOutB Tryd.prog = true := by kernel_rfl

theorem gPowT : (Tryd.prog.globals[0]?).map (·.type) = some 147 := by kernel_rfl
theorem gSynT : (Tryd.prog.globals[2]?).map (·.type) = some 90 := by kernel_rfl
theorem gRngT : (Tryd.prog.globals[3]?).map (·.type) = some 90 := by kernel_rfl
theorem cellsPow : Tryd.prog.cellsOf 147 = 20 := by kernel_rfl
theorem cellsU64 : Tryd.prog.cellsOf 96 = 1 := by kernel_rfl
theorem cellsES : Tryd.prog.cellsOf 169 = 1 := by kernel_rfl
theorem cellsStr : Tryd.prog.cellsOf 9 = 1 := by kernel_rfl
theorem starES : "*" ++ "errors.errorString" = "*errors.errorString" := by decide
theorem rowES (u : TypeId) (h : Tryd.prog.typeName? 3 u = some "*errors.errorString") : u = 167 :=
  typeName_ptr_named (nm := "errors.errorString") (by rw [starES]; kernel_rfl) (by kernel_rfl) (by decide) u (by rw [starES]; exact h)

theorem layN_of {W : World} (h : laidMetH Tryd.prog Rows.orderOrderRow.laid W) : LayN W := by
  have h1 : laidMet Tryd.prog Rows.orderOrderRow.laid W := h
  have h2 := h1.tail.tail
  obtain ⟨a, s, hv, -, -, -⟩ := laid_sentinel h2.tail gRng gRngT Tryd.underlying90 rowES Tryd.underlying167 Tryd.underlying169 rfl rfl Tryd.underlying9 cellsES cellsStr
  obtain ⟨a', s', hv', -, -, -⟩ := laid_sentinel h2.tail.tail gSyn gSynT Tryd.underlying90 rowES Tryd.underlying167 Tryd.underlying169 rfl rfl Tryd.underlying9 cellsES cellsStr
  exact ⟨Lib.tabIs_of_head gPow gPowT Tryd.underlying147 Tryd.underlying96 cellsU64 cellsPow h2, ⟨_, _, hv'⟩, ⟨_, _, hv⟩⟩

/-- The door's own heap meets the list. -/
theorem door_met (os : Os) (args : Array Value) : laidMetH Tryd.prog Rows.orderOrderRow.laid ((World.doorLaid Tryd.prog 72 os).forCall (fun _ _ => 0) ⟨#[], args, []⟩).memory :=
  laidMetH_of_parts3 (fuel := 8) (laidMet_of_run' 8 (by kernel_rfl) (by kernel_rfl)) (by kernel_rfl) (by kernel_rfl)
end Go.Proofs.YtfmholpbpghojaaDoor
