/- Plain words of TimersNext. No program in sight. -/
import Derived.Test.YtodcadcapmhgfaaTlC
namespace Go.Proofs.Ytodcadcapmhgfaa
open Go.RowKit

theorem at_del {c k : Int} {L : List Tm} : atN c k (delT c k L) = neverN := at_none (fun _ ha => (delT_mem.1 ha).2)
end Go.Proofs.Ytodcadcapmhgfaa
