/-
  NARROWER THAN 'FOR EVERY INPUT', by the rows' own cells (each row's printed sentence says how): ParamsPut: laid · ParamsRead: laid · ParamsBack: laid · ParamsOrder: laid · ParamsApart: laid · ParamsTwice: laid.
  DERIVED. THE GIVEN ROWS OF THIS SEAT. 6 by the template 'for every input the law returns true; each argument reads behind the call as it read before'; 0 by the template 'total and deterministic' (their statements: YtacgcpofpmkgnaaDoorTotals.lean).
  GIVEN WITH THE SEED: the statements are not yours to turn. If you find one false, say at which input.
  Laid BY PROGRAM, IN A SANDBOX (cutbox-rows.mjs): the forced cells as the released guide's own fill.sh prints them over the translation 1ee2cc3830439129… (all of the seat's roots in one cut). By AI agents, Wed Nov 11 2026. No macro, syntax, notation, axiom, sorry.
-/
import Derived.Test.YtacgcpofpmkgnaaDoorChecked
import GoSem.Claim
import GoSem.ClaimJoined
import GoSem.ClaimMapViews
import Derived.JoinedTies
import Derived.KernelRfl
namespace Go.Proofs.YtacgcpofpmkgnaaDoor
/- THE CELL 'sum', in the pinned program and in every row, IS THE sha256 OF THE DUMP (.gsa) THAT YtacgcpofpmkgnaaDoorProg.lean LOADS. Nothing in Lean hashes anything: it is a label: what it is worth is what the hold of that sum in a sandbox is worth. -/
noncomputable def Tryd.pinned : Pinned := { name := "ytacgcpofpmkgnaadoor", sum := "1ee2cc3830439129ab5294be623cad8dee71115d01e5783dfec085ad7e841627", checked := Tryd.checked }
namespace Rows
def none {H : Type} : Left H := { results := [], args := [] }

/- WHAT THE LISTED PACKAGE-LEVEL VARIABLES READ AS WHEN THE CALL BEGINS. Each datum BY PROGRAM (the guide's laid-datum.mjs) off the statement by which the dump's own 'gosem.cut.vars' lays the variable. In a bare row this is a premise. The card (YtacgcpofpmkgnaaDoorCards.lean) ties it to the program's text. -/
def laid_math_bits_deBruijn32tab {H : Type} : DataW H := .agg [.lit (.int .u8 0), .lit (.int .u8 1), .lit (.int .u8 28), .lit (.int .u8 2), .lit (.int .u8 29), .lit (.int .u8 14), .lit (.int .u8 24), .lit (.int .u8 3), .lit (.int .u8 30), .lit (.int .u8 22), .lit (.int .u8 20), .lit (.int .u8 15), .lit (.int .u8 25), .lit (.int .u8 17), .lit (.int .u8 4), .lit (.int .u8 8), .lit (.int .u8 31), .lit (.int .u8 27), .lit (.int .u8 13), .lit (.int .u8 23), .lit (.int .u8 21), .lit (.int .u8 19), .lit (.int .u8 16), .lit (.int .u8 7), .lit (.int .u8 26), .lit (.int .u8 12), .lit (.int .u8 18), .lit (.int .u8 6), .lit (.int .u8 11), .lit (.int .u8 5), .lit (.int .u8 10), .lit (.int .u8 9)]
def laid_math_bits_deBruijn64tab {H : Type} : DataW H := .agg [.lit (.int .u8 0), .lit (.int .u8 1), .lit (.int .u8 56), .lit (.int .u8 2), .lit (.int .u8 57), .lit (.int .u8 49), .lit (.int .u8 28), .lit (.int .u8 3), .lit (.int .u8 61), .lit (.int .u8 58), .lit (.int .u8 42), .lit (.int .u8 50), .lit (.int .u8 38), .lit (.int .u8 29), .lit (.int .u8 17), .lit (.int .u8 4), .lit (.int .u8 62), .lit (.int .u8 47), .lit (.int .u8 59), .lit (.int .u8 36), .lit (.int .u8 45), .lit (.int .u8 43), .lit (.int .u8 51), .lit (.int .u8 22), .lit (.int .u8 53), .lit (.int .u8 39), .lit (.int .u8 33), .lit (.int .u8 30), .lit (.int .u8 24), .lit (.int .u8 18), .lit (.int .u8 12), .lit (.int .u8 5), .lit (.int .u8 63), .lit (.int .u8 55), .lit (.int .u8 48), .lit (.int .u8 27), .lit (.int .u8 60), .lit (.int .u8 41), .lit (.int .u8 37), .lit (.int .u8 16), .lit (.int .u8 46), .lit (.int .u8 35), .lit (.int .u8 44), .lit (.int .u8 21), .lit (.int .u8 52), .lit (.int .u8 32), .lit (.int .u8 23), .lit (.int .u8 11), .lit (.int .u8 54), .lit (.int .u8 26), .lit (.int .u8 40), .lit (.int .u8 15), .lit (.int .u8 34), .lit (.int .u8 20), .lit (.int .u8 31), .lit (.int .u8 10), .lit (.int .u8 25), .lit (.int .u8 14), .lit (.int .u8 19), .lit (.int .u8 9), .lit (.int .u8 13), .lit (.int .u8 8), .lit (.int .u8 7), .lit (.int .u8 6)]

/-- 'doorwardlaw05.ParamsPut': WHATEVER THE INPUT: true; the input reads as it did. -/
def paramsPutSpec : ChangeSpec := { name := "paramsPut", fn := fun _ => fun
  | [d1, d2, d3] => { results := [.lit (.bool true)], args := [d1, d2, d3] }
  | _ => none }
def paramsPutRow : OpenClaim := { program := "ytacgcpofpmkgnaadoor", sum := "1ee2cc3830439129ab5294be623cad8dee71115d01e5783dfec085ad7e841627", func := "doorward/doorwardlaw05.ParamsPut", spec := "paramsPut", unfollowed := true, recurses := true, named := ["math/bits.deBruijn32tab", "math/bits.deBruijn64tab"], apart := false, laid := [("math/bits.deBruijn32tab", laid_math_bits_deBruijn32tab), ("math/bits.deBruijn64tab", laid_math_bits_deBruijn64tab)] }
def ParamsPutSaid : Prop := paramsPutRow.holds Tryd.pinned (OpenSpec.ofChange paramsPutSpec)

/-- ITS FALSE NEIGHBOUR: 'it returns false'. Refute it at one input. -/
def paramsPutWrong : ChangeSpec := { name := "paramsPut", fn := fun _ => fun
  | [d1, d2, d3] => { results := [.lit (.bool false)], args := [d1, d2, d3] }
  | _ => none }
def ParamsPutWrongFalsely : Prop := paramsPutRow.holds Tryd.pinned (OpenSpec.ofChange paramsPutWrong)

/-- 'doorwardlaw05.ParamsRead': WHATEVER THE INPUT: true; the input reads as it did. -/
def paramsReadSpec : ChangeSpec := { name := "paramsRead", fn := fun _ => fun
  | [d] => { results := [.lit (.bool true)], args := [d] }
  | _ => none }
def paramsReadRow : OpenClaim := { program := "ytacgcpofpmkgnaadoor", sum := "1ee2cc3830439129ab5294be623cad8dee71115d01e5783dfec085ad7e841627", func := "doorward/doorwardlaw05.ParamsRead", spec := "paramsRead", unfollowed := true, recurses := true, named := ["math/bits.deBruijn32tab", "math/bits.deBruijn64tab"], apart := false, laid := [("math/bits.deBruijn32tab", laid_math_bits_deBruijn32tab), ("math/bits.deBruijn64tab", laid_math_bits_deBruijn64tab)] }
def ParamsReadSaid : Prop := paramsReadRow.holds Tryd.pinned (OpenSpec.ofChange paramsReadSpec)

/-- ITS FALSE NEIGHBOUR: 'it returns false'. Refute it at one input. -/
def paramsReadWrong : ChangeSpec := { name := "paramsRead", fn := fun _ => fun
  | [d] => { results := [.lit (.bool false)], args := [d] }
  | _ => none }
def ParamsReadWrongFalsely : Prop := paramsReadRow.holds Tryd.pinned (OpenSpec.ofChange paramsReadWrong)

/-- 'doorwardlaw05.ParamsBack': WHATEVER THE INPUT: true; the input reads as it did. -/
def paramsBackSpec : ChangeSpec := { name := "paramsBack", fn := fun _ => fun
  | [d1, d2, d3, d4] => { results := [.lit (.bool true)], args := [d1, d2, d3, d4] }
  | _ => none }
def paramsBackRow : OpenClaim := { program := "ytacgcpofpmkgnaadoor", sum := "1ee2cc3830439129ab5294be623cad8dee71115d01e5783dfec085ad7e841627", func := "doorward/doorwardlaw05.ParamsBack", spec := "paramsBack", unfollowed := true, recurses := true, named := ["math/bits.deBruijn32tab", "math/bits.deBruijn64tab"], apart := false, laid := [("math/bits.deBruijn32tab", laid_math_bits_deBruijn32tab), ("math/bits.deBruijn64tab", laid_math_bits_deBruijn64tab)] }
def ParamsBackSaid : Prop := paramsBackRow.holds Tryd.pinned (OpenSpec.ofChange paramsBackSpec)

/-- ITS FALSE NEIGHBOUR: 'it returns false'. Refute it at one input. -/
def paramsBackWrong : ChangeSpec := { name := "paramsBack", fn := fun _ => fun
  | [d1, d2, d3, d4] => { results := [.lit (.bool false)], args := [d1, d2, d3, d4] }
  | _ => none }
def ParamsBackWrongFalsely : Prop := paramsBackRow.holds Tryd.pinned (OpenSpec.ofChange paramsBackWrong)

/-- 'doorwardlaw05.ParamsOrder': WHATEVER THE INPUT: true; the input reads as it did. -/
def paramsOrderSpec : ChangeSpec := { name := "paramsOrder", fn := fun _ => fun
  | [d1, d2] => { results := [.lit (.bool true)], args := [d1, d2] }
  | _ => none }
def paramsOrderRow : OpenClaim := { program := "ytacgcpofpmkgnaadoor", sum := "1ee2cc3830439129ab5294be623cad8dee71115d01e5783dfec085ad7e841627", func := "doorward/doorwardlaw05.ParamsOrder", spec := "paramsOrder", unfollowed := true, recurses := true, named := ["math/bits.deBruijn32tab", "math/bits.deBruijn64tab"], apart := false, laid := [("math/bits.deBruijn32tab", laid_math_bits_deBruijn32tab), ("math/bits.deBruijn64tab", laid_math_bits_deBruijn64tab)] }
def ParamsOrderSaid : Prop := paramsOrderRow.holds Tryd.pinned (OpenSpec.ofChange paramsOrderSpec)

/-- ITS FALSE NEIGHBOUR: 'it returns false'. Refute it at one input. -/
def paramsOrderWrong : ChangeSpec := { name := "paramsOrder", fn := fun _ => fun
  | [d1, d2] => { results := [.lit (.bool false)], args := [d1, d2] }
  | _ => none }
def ParamsOrderWrongFalsely : Prop := paramsOrderRow.holds Tryd.pinned (OpenSpec.ofChange paramsOrderWrong)

/-- 'doorwardlaw05.ParamsApart': WHATEVER THE INPUT: true; the input reads as it did. -/
def paramsApartSpec : ChangeSpec := { name := "paramsApart", fn := fun _ => fun
  | [d1, d2] => { results := [.lit (.bool true)], args := [d1, d2] }
  | _ => none }
def paramsApartRow : OpenClaim := { program := "ytacgcpofpmkgnaadoor", sum := "1ee2cc3830439129ab5294be623cad8dee71115d01e5783dfec085ad7e841627", func := "doorward/doorwardlaw05.ParamsApart", spec := "paramsApart", unfollowed := true, recurses := true, named := ["math/bits.deBruijn32tab", "math/bits.deBruijn64tab"], apart := false, laid := [("math/bits.deBruijn32tab", laid_math_bits_deBruijn32tab), ("math/bits.deBruijn64tab", laid_math_bits_deBruijn64tab)] }
def ParamsApartSaid : Prop := paramsApartRow.holds Tryd.pinned (OpenSpec.ofChange paramsApartSpec)

/-- ITS FALSE NEIGHBOUR: 'it returns false'. Refute it at one input. -/
def paramsApartWrong : ChangeSpec := { name := "paramsApart", fn := fun _ => fun
  | [d1, d2] => { results := [.lit (.bool false)], args := [d1, d2] }
  | _ => none }
def ParamsApartWrongFalsely : Prop := paramsApartRow.holds Tryd.pinned (OpenSpec.ofChange paramsApartWrong)

/-- 'doorwardlaw05.ParamsTwice': WHATEVER THE INPUT: true; the input reads as it did. -/
def paramsTwiceSpec : ChangeSpec := { name := "paramsTwice", fn := fun _ => fun
  | [d] => { results := [.lit (.bool true)], args := [d] }
  | _ => none }
def paramsTwiceRow : OpenClaim := { program := "ytacgcpofpmkgnaadoor", sum := "1ee2cc3830439129ab5294be623cad8dee71115d01e5783dfec085ad7e841627", func := "doorward/doorwardlaw05.ParamsTwice", spec := "paramsTwice", unfollowed := true, recurses := true, named := ["math/bits.deBruijn32tab", "math/bits.deBruijn64tab"], apart := false, laid := [("math/bits.deBruijn32tab", laid_math_bits_deBruijn32tab), ("math/bits.deBruijn64tab", laid_math_bits_deBruijn64tab)] }
def ParamsTwiceSaid : Prop := paramsTwiceRow.holds Tryd.pinned (OpenSpec.ofChange paramsTwiceSpec)

/-- ITS FALSE NEIGHBOUR: 'it returns false'. Refute it at one input. -/
def paramsTwiceWrong : ChangeSpec := { name := "paramsTwice", fn := fun _ => fun
  | [d] => { results := [.lit (.bool false)], args := [d] }
  | _ => none }
def ParamsTwiceWrongFalsely : Prop := paramsTwiceRow.holds Tryd.pinned (OpenSpec.ofChange paramsTwiceWrong)

/- THE SECOND FORM. 'bulk': how many values and letters a reading holds, each counted each time it is reached (what is shared counts as often as it is met; a slice's spare places count too). A statement '..UptoSaid' is the law's where the arguments, and the package variables that the reading takes, are together of bulk at most 1048576: NARROWER than '..Said'. Prove '..Said' where nothing that the law and all that it calls make is longer than what came in: it says more and counts as full. Else prove '..UptoSaid'. A law counts once. -/
mutual
def uptoBulk {H : Type} : DataW H → Nat
  | .lit (.string bytes) => bytes.length + 1
  | .lit _ => 1
  | .nil => 1
  | .ptr d => uptoBulk d + 1
  | .slice elems spare => uptoBulkAll elems + uptoBulkAll spare + 1
  | .agg parts => uptoBulkAll parts + 1
  | .iface _ d => uptoBulk d + 1
  | .map entries => uptoBulkEntries entries + 1
  | .held _ => 1
def uptoBulkAll {H : Type} : List (DataW H) → Nat
  | [] => 0
  | d :: r => uptoBulk d + uptoBulkAll r
def uptoBulkEntries {H : Type} : List (Lit × DataW H) → Nat
  | [] => 0
  | x :: r => uptoBulkEntry x + uptoBulkEntries r
def uptoBulkEntry {H : Type} : Lit × DataW H → Nat
  | (.string bytes, d) => bytes.length + uptoBulk d + 1
  | (_, d) => uptoBulk d + 1
 end
def uptoSmall : (H : Type) → List (DataW H) → Bool := fun _ ds => decide (uptoBulkAll ds ≤ 1048576)
def OpenSpec.upto (s : _root_.Go.ChangeSpec) : _root_.Go.OpenSpec := { _root_.Go.OpenSpec.ofChange s with cond := some uptoSmall }

/-- 'doorwardlaw05.ParamsPut', WHERE WHAT IT READS IS OF BULK AT MOST 1048576: true; the input reads as it did. -/
def paramsPutUptoRow : OpenClaim := { program := "ytacgcpofpmkgnaadoor", sum := "1ee2cc3830439129ab5294be623cad8dee71115d01e5783dfec085ad7e841627", func := "doorward/doorwardlaw05.ParamsPut", spec := "paramsPut", unfollowed := true, recurses := true, named := ["math/bits.deBruijn32tab", "math/bits.deBruijn64tab"], apart := false, laid := [("math/bits.deBruijn32tab", laid_math_bits_deBruijn32tab), ("math/bits.deBruijn64tab", laid_math_bits_deBruijn64tab)], narrowed := true }
def ParamsPutUptoSaid : Prop := paramsPutUptoRow.holds Tryd.pinned (OpenSpec.upto paramsPutSpec)

/-- 'doorwardlaw05.ParamsRead', WHERE WHAT IT READS IS OF BULK AT MOST 1048576: true; the input reads as it did. -/
def paramsReadUptoRow : OpenClaim := { program := "ytacgcpofpmkgnaadoor", sum := "1ee2cc3830439129ab5294be623cad8dee71115d01e5783dfec085ad7e841627", func := "doorward/doorwardlaw05.ParamsRead", spec := "paramsRead", unfollowed := true, recurses := true, named := ["math/bits.deBruijn32tab", "math/bits.deBruijn64tab"], apart := false, laid := [("math/bits.deBruijn32tab", laid_math_bits_deBruijn32tab), ("math/bits.deBruijn64tab", laid_math_bits_deBruijn64tab)], narrowed := true }
def ParamsReadUptoSaid : Prop := paramsReadUptoRow.holds Tryd.pinned (OpenSpec.upto paramsReadSpec)

/-- 'doorwardlaw05.ParamsBack', WHERE WHAT IT READS IS OF BULK AT MOST 1048576: true; the input reads as it did. -/
def paramsBackUptoRow : OpenClaim := { program := "ytacgcpofpmkgnaadoor", sum := "1ee2cc3830439129ab5294be623cad8dee71115d01e5783dfec085ad7e841627", func := "doorward/doorwardlaw05.ParamsBack", spec := "paramsBack", unfollowed := true, recurses := true, named := ["math/bits.deBruijn32tab", "math/bits.deBruijn64tab"], apart := false, laid := [("math/bits.deBruijn32tab", laid_math_bits_deBruijn32tab), ("math/bits.deBruijn64tab", laid_math_bits_deBruijn64tab)], narrowed := true }
def ParamsBackUptoSaid : Prop := paramsBackUptoRow.holds Tryd.pinned (OpenSpec.upto paramsBackSpec)

/-- 'doorwardlaw05.ParamsOrder', WHERE WHAT IT READS IS OF BULK AT MOST 1048576: true; the input reads as it did. -/
def paramsOrderUptoRow : OpenClaim := { program := "ytacgcpofpmkgnaadoor", sum := "1ee2cc3830439129ab5294be623cad8dee71115d01e5783dfec085ad7e841627", func := "doorward/doorwardlaw05.ParamsOrder", spec := "paramsOrder", unfollowed := true, recurses := true, named := ["math/bits.deBruijn32tab", "math/bits.deBruijn64tab"], apart := false, laid := [("math/bits.deBruijn32tab", laid_math_bits_deBruijn32tab), ("math/bits.deBruijn64tab", laid_math_bits_deBruijn64tab)], narrowed := true }
def ParamsOrderUptoSaid : Prop := paramsOrderUptoRow.holds Tryd.pinned (OpenSpec.upto paramsOrderSpec)

/-- 'doorwardlaw05.ParamsApart', WHERE WHAT IT READS IS OF BULK AT MOST 1048576: true; the input reads as it did. -/
def paramsApartUptoRow : OpenClaim := { program := "ytacgcpofpmkgnaadoor", sum := "1ee2cc3830439129ab5294be623cad8dee71115d01e5783dfec085ad7e841627", func := "doorward/doorwardlaw05.ParamsApart", spec := "paramsApart", unfollowed := true, recurses := true, named := ["math/bits.deBruijn32tab", "math/bits.deBruijn64tab"], apart := false, laid := [("math/bits.deBruijn32tab", laid_math_bits_deBruijn32tab), ("math/bits.deBruijn64tab", laid_math_bits_deBruijn64tab)], narrowed := true }
def ParamsApartUptoSaid : Prop := paramsApartUptoRow.holds Tryd.pinned (OpenSpec.upto paramsApartSpec)

/-- 'doorwardlaw05.ParamsTwice', WHERE WHAT IT READS IS OF BULK AT MOST 1048576: true; the input reads as it did. -/
def paramsTwiceUptoRow : OpenClaim := { program := "ytacgcpofpmkgnaadoor", sum := "1ee2cc3830439129ab5294be623cad8dee71115d01e5783dfec085ad7e841627", func := "doorward/doorwardlaw05.ParamsTwice", spec := "paramsTwice", unfollowed := true, recurses := true, named := ["math/bits.deBruijn32tab", "math/bits.deBruijn64tab"], apart := false, laid := [("math/bits.deBruijn32tab", laid_math_bits_deBruijn32tab), ("math/bits.deBruijn64tab", laid_math_bits_deBruijn64tab)], narrowed := true }
def ParamsTwiceUptoSaid : Prop := paramsTwiceUptoRow.holds Tryd.pinned (OpenSpec.upto paramsTwiceSpec)

end Rows
end Go.Proofs.YtacgcpofpmkgnaaDoor
