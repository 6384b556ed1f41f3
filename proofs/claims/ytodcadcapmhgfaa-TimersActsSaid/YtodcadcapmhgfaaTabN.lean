/- What the laws' statements have in common, where no table of the library's is laid. -/
import Derived.Test.YtodcadcapmhgfaaRows
import Derived.Test.YtodcadcapmhgfaaLaw
import Derived.ProofKit
import Derived.OpenShut
import Derived.Deep.DeepHandedRow
import Derived.LaidSub
import Derived.Stop.Joined
namespace Go.Proofs.Ytodcadcapmhgfaa
open Go.ChangeShapes Go.WideShapes Go.ChangeAt Go.RowKit

theorem own : ownKnob Try.prog.godebug = none := by kernel_rfl
noncomputable def laidWorld (os : Os) : World := World.holding Try.prog os ⟨#[], #[], []⟩
end Go.Proofs.Ytodcadcapmhgfaa
