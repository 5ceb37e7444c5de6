/-
  A world for the rows' witness, in which the two listed tables of unicode/utf8 hold what the rows list: used to show that each row's condition can be met. No condition.
-/
import Derived.Test.YtbkhkdadipigfaaDoorCards
import Derived.Test.YtbkhkdadipigfaaDoorTie
import Derived.WalkKit
import Derived.ProofKit
import Derived.OpenShut
import Derived.Deep.DeepHandedRow
import Derived.Lib.LaidTab
namespace Go.Proofs.YtbkhkdadipigfaaDoor.LaidW
open Go.ChangeShapes Go.WideShapes Go.ChangeAt Go.RowKit

theorem own : ownKnob Tryd.prog.godebug = none := by kernel_rfl
theorem laidOut : laidOutB Tryd.prog = true := by kernel_rfl
def rangesZ : List Nat := [128, 191, 160, 191, 128, 159, 144, 191, 128, 143, 0, 0, 0, 0, 0, 0, 0, 0, 0, 0, 0, 0, 0, 0, 0, 0, 0, 0, 0, 0, 0, 0]
noncomputable def lay (h : Array Obj) (g : Nat) (l : List Nat) : Array Obj := h.modify g fun
  | .cells _ t frozen => .cells (l.map fun (n : Nat) => Value.int .u8 n).toArray t frozen
  | o => o
noncomputable def laidWorld (os : Os) : World :=
  { World.holding Tryd.prog os ⟨#[], #[], []⟩ with heap := lay (lay (World.holding Tryd.prog os ⟨#[], #[], []⟩).heap 2 rangesZ) 1 Go.Pinned.utf8FirstZ }
theorem gR : Tryd.prog.globalNamed "unicode/utf8.acceptRanges" = some 2 := by kernel_rfl
theorem gF : Tryd.prog.globalNamed "unicode/utf8.first" = some 1 := by kernel_rfl
set_option maxRecDepth 100000 in
theorem laid_met (os : Os) (args : Array Value) : laidMet Tryd.prog Rows.pathStaysRow.laid ((laidWorld os).forCall (fun _ _ => 0) ⟨#[], args, []⟩).memory :=
  laidMet_of_run' 8 (by kernel_rfl) (by kernel_rfl)
end Go.Proofs.YtbkhkdadipigfaaDoor.LaidW
