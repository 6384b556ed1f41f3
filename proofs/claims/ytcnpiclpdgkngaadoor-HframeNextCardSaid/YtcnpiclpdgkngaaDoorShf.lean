/- The shelf's contract of utf8.DecodeRune, laid at this program. -/
import Derived.Test.YtcnpiclpdgkngaaDoorProg
import Derived.Shelf.Lay
import Derived.Shelf.LaySoft
import Derived.Shelf.Spec.DecodeRune
namespace Go.Proofs
open Go.Shelf
shelf_try shelf_lay Lays7.n32 Nm7 32 at Tryd as Tryd.lays32
shelf_tried
end Go.Proofs
