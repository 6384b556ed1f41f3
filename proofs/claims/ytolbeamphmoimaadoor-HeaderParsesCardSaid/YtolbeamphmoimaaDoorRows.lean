/-
  NARROWER THAN 'FOR EVERY INPUT', by the rows' own cells (each row's printed sentence says how): HeaderPuts: laid · HeaderParses: laid · HeaderBack: laid · HeaderCut: laid · HeaderPeeks: laid · HeaderApart: laid · HeaderRest: laid.
  DERIVED. THE GIVEN ROWS OF THIS SEAT. 7 by the template 'for every input the law returns true; each argument reads behind the call as it read before'; 0 by the template 'total and deterministic' (their statements: YtolbeamphmoimaaDoorTotals.lean).
  GIVEN WITH THE SEED: the statements are not yours to turn. If you find one false, say at which input.
  Laid BY PROGRAM, IN A SANDBOX (cutbox-rows.mjs): the forced cells as the released guide's own fill.sh prints them over the translation fd42450bfaf03aa7… (all of the seat's roots in one cut). By AI agents, Wed Nov 11 2026. No macro, syntax, notation, axiom, sorry.
-/
import Derived.Test.YtolbeamphmoimaaDoorChecked
import GoSem.Claim
import GoSem.ClaimJoined
import GoSem.ClaimMapViews
import Derived.JoinedTies
import Derived.KernelRfl
namespace Go.Proofs.YtolbeamphmoimaaDoor
/- THE CELL 'sum', in the pinned program and in every row, IS THE sha256 OF THE DUMP (.gsa) THAT YtolbeamphmoimaaDoorProg.lean LOADS. Nothing in Lean hashes anything: it is a label: what it is worth is what the hold of that sum in a sandbox is worth. -/
noncomputable def Tryd.pinned : Pinned := { name := "ytolbeamphmoimaadoor", sum := "fd42450bfaf03aa72c3462ca7ff5c7d22fe2ef0293d2ca729de8bb015b989b84", checked := Tryd.checked }
namespace Rows
def none {H : Type} : Left H := { results := [], args := [] }

/- WHAT THE LISTED PACKAGE-LEVEL VARIABLES READ AS WHEN THE CALL BEGINS. Each datum BY PROGRAM (the guide's laid-datum.mjs) off the statement by which the dump's own 'gosem.cut.vars' lays the variable. In a bare row this is a premise. The card (YtolbeamphmoimaaDoorCards.lean) ties it to the program's text. -/
def laid_math_bits_deBruijn32tab {H : Type} : DataW H := .agg [.lit (.int .u8 0), .lit (.int .u8 1), .lit (.int .u8 28), .lit (.int .u8 2), .lit (.int .u8 29), .lit (.int .u8 14), .lit (.int .u8 24), .lit (.int .u8 3), .lit (.int .u8 30), .lit (.int .u8 22), .lit (.int .u8 20), .lit (.int .u8 15), .lit (.int .u8 25), .lit (.int .u8 17), .lit (.int .u8 4), .lit (.int .u8 8), .lit (.int .u8 31), .lit (.int .u8 27), .lit (.int .u8 13), .lit (.int .u8 23), .lit (.int .u8 21), .lit (.int .u8 19), .lit (.int .u8 16), .lit (.int .u8 7), .lit (.int .u8 26), .lit (.int .u8 12), .lit (.int .u8 18), .lit (.int .u8 6), .lit (.int .u8 11), .lit (.int .u8 5), .lit (.int .u8 10), .lit (.int .u8 9)]
def laid_math_bits_deBruijn64tab {H : Type} : DataW H := .agg [.lit (.int .u8 0), .lit (.int .u8 1), .lit (.int .u8 56), .lit (.int .u8 2), .lit (.int .u8 57), .lit (.int .u8 49), .lit (.int .u8 28), .lit (.int .u8 3), .lit (.int .u8 61), .lit (.int .u8 58), .lit (.int .u8 42), .lit (.int .u8 50), .lit (.int .u8 38), .lit (.int .u8 29), .lit (.int .u8 17), .lit (.int .u8 4), .lit (.int .u8 62), .lit (.int .u8 47), .lit (.int .u8 59), .lit (.int .u8 36), .lit (.int .u8 45), .lit (.int .u8 43), .lit (.int .u8 51), .lit (.int .u8 22), .lit (.int .u8 53), .lit (.int .u8 39), .lit (.int .u8 33), .lit (.int .u8 30), .lit (.int .u8 24), .lit (.int .u8 18), .lit (.int .u8 12), .lit (.int .u8 5), .lit (.int .u8 63), .lit (.int .u8 55), .lit (.int .u8 48), .lit (.int .u8 27), .lit (.int .u8 60), .lit (.int .u8 41), .lit (.int .u8 37), .lit (.int .u8 16), .lit (.int .u8 46), .lit (.int .u8 35), .lit (.int .u8 44), .lit (.int .u8 21), .lit (.int .u8 52), .lit (.int .u8 32), .lit (.int .u8 23), .lit (.int .u8 11), .lit (.int .u8 54), .lit (.int .u8 26), .lit (.int .u8 40), .lit (.int .u8 15), .lit (.int .u8 34), .lit (.int .u8 20), .lit (.int .u8 31), .lit (.int .u8 10), .lit (.int .u8 25), .lit (.int .u8 14), .lit (.int .u8 19), .lit (.int .u8 9), .lit (.int .u8 13), .lit (.int .u8 8), .lit (.int .u8 7), .lit (.int .u8 6)]

/-- 'doorwardlaw04.HeaderPuts': WHATEVER THE INPUT: true; the input reads as it did. -/
def headerPutsSpec : ChangeSpec := { name := "headerPuts", fn := fun _ => fun
  | [d1, d2] => { results := [.lit (.bool true)], args := [d1, d2] }
  | _ => none }
def headerPutsRow : OpenClaim := { program := "ytolbeamphmoimaadoor", sum := "fd42450bfaf03aa72c3462ca7ff5c7d22fe2ef0293d2ca729de8bb015b989b84", func := "doorward/doorwardlaw04.HeaderPuts", spec := "headerPuts", inPlace := ["internal/bytealg.MakeNoZero"], named := ["math/bits.deBruijn32tab", "math/bits.deBruijn64tab"], apart := false, laid := [("math/bits.deBruijn32tab", laid_math_bits_deBruijn32tab), ("math/bits.deBruijn64tab", laid_math_bits_deBruijn64tab)] }
def HeaderPutsSaid : Prop := headerPutsRow.holds Tryd.pinned (OpenSpec.ofChange headerPutsSpec)

/-- ITS FALSE NEIGHBOUR: 'it returns false'. Refute it at one input. -/
def headerPutsWrong : ChangeSpec := { name := "headerPuts", fn := fun _ => fun
  | [d1, d2] => { results := [.lit (.bool false)], args := [d1, d2] }
  | _ => none }
def HeaderPutsWrongFalsely : Prop := headerPutsRow.holds Tryd.pinned (OpenSpec.ofChange headerPutsWrong)

/-- 'doorwardlaw04.HeaderParses': WHATEVER THE INPUT: true; the input reads as it did. -/
def headerParsesSpec : ChangeSpec := { name := "headerParses", fn := fun _ => fun
  | [d] => { results := [.lit (.bool true)], args := [d] }
  | _ => none }
def headerParsesRow : OpenClaim := { program := "ytolbeamphmoimaadoor", sum := "fd42450bfaf03aa72c3462ca7ff5c7d22fe2ef0293d2ca729de8bb015b989b84", func := "doorward/doorwardlaw04.HeaderParses", spec := "headerParses", inPlace := ["internal/bytealg.MakeNoZero"], named := ["math/bits.deBruijn32tab", "math/bits.deBruijn64tab"], apart := false, laid := [("math/bits.deBruijn32tab", laid_math_bits_deBruijn32tab), ("math/bits.deBruijn64tab", laid_math_bits_deBruijn64tab)] }
def HeaderParsesSaid : Prop := headerParsesRow.holds Tryd.pinned (OpenSpec.ofChange headerParsesSpec)

/-- ITS FALSE NEIGHBOUR: 'it returns false'. Refute it at one input. -/
def headerParsesWrong : ChangeSpec := { name := "headerParses", fn := fun _ => fun
  | [d] => { results := [.lit (.bool false)], args := [d] }
  | _ => none }
def HeaderParsesWrongFalsely : Prop := headerParsesRow.holds Tryd.pinned (OpenSpec.ofChange headerParsesWrong)

/-- 'doorwardlaw04.HeaderBack': WHATEVER THE INPUT: true; the input reads as it did. -/
def headerBackSpec : ChangeSpec := { name := "headerBack", fn := fun _ => fun
  | [d1, d2] => { results := [.lit (.bool true)], args := [d1, d2] }
  | _ => none }
def headerBackRow : OpenClaim := { program := "ytolbeamphmoimaadoor", sum := "fd42450bfaf03aa72c3462ca7ff5c7d22fe2ef0293d2ca729de8bb015b989b84", func := "doorward/doorwardlaw04.HeaderBack", spec := "headerBack", inPlace := ["internal/bytealg.MakeNoZero"], named := ["math/bits.deBruijn32tab", "math/bits.deBruijn64tab"], apart := false, laid := [("math/bits.deBruijn32tab", laid_math_bits_deBruijn32tab), ("math/bits.deBruijn64tab", laid_math_bits_deBruijn64tab)] }
def HeaderBackSaid : Prop := headerBackRow.holds Tryd.pinned (OpenSpec.ofChange headerBackSpec)

/-- ITS FALSE NEIGHBOUR: 'it returns false'. Refute it at one input. -/
def headerBackWrong : ChangeSpec := { name := "headerBack", fn := fun _ => fun
  | [d1, d2] => { results := [.lit (.bool false)], args := [d1, d2] }
  | _ => none }
def HeaderBackWrongFalsely : Prop := headerBackRow.holds Tryd.pinned (OpenSpec.ofChange headerBackWrong)

/-- 'doorwardlaw04.HeaderCut': WHATEVER THE INPUT: true; the input reads as it did. -/
def headerCutSpec : ChangeSpec := { name := "headerCut", fn := fun _ => fun
  | [d1, d2] => { results := [.lit (.bool true)], args := [d1, d2] }
  | _ => none }
def headerCutRow : OpenClaim := { program := "ytolbeamphmoimaadoor", sum := "fd42450bfaf03aa72c3462ca7ff5c7d22fe2ef0293d2ca729de8bb015b989b84", func := "doorward/doorwardlaw04.HeaderCut", spec := "headerCut", inPlace := ["internal/bytealg.MakeNoZero"], named := ["math/bits.deBruijn32tab", "math/bits.deBruijn64tab"], apart := false, laid := [("math/bits.deBruijn32tab", laid_math_bits_deBruijn32tab), ("math/bits.deBruijn64tab", laid_math_bits_deBruijn64tab)] }
def HeaderCutSaid : Prop := headerCutRow.holds Tryd.pinned (OpenSpec.ofChange headerCutSpec)

/-- ITS FALSE NEIGHBOUR: 'it returns false'. Refute it at one input. -/
def headerCutWrong : ChangeSpec := { name := "headerCut", fn := fun _ => fun
  | [d1, d2] => { results := [.lit (.bool false)], args := [d1, d2] }
  | _ => none }
def HeaderCutWrongFalsely : Prop := headerCutRow.holds Tryd.pinned (OpenSpec.ofChange headerCutWrong)

/-- 'doorwardlaw04.HeaderPeeks': WHATEVER THE INPUT: true; the input reads as it did. -/
def headerPeeksSpec : ChangeSpec := { name := "headerPeeks", fn := fun _ => fun
  | [d1, d2] => { results := [.lit (.bool true)], args := [d1, d2] }
  | _ => none }
def headerPeeksRow : OpenClaim := { program := "ytolbeamphmoimaadoor", sum := "fd42450bfaf03aa72c3462ca7ff5c7d22fe2ef0293d2ca729de8bb015b989b84", func := "doorward/doorwardlaw04.HeaderPeeks", spec := "headerPeeks", inPlace := ["internal/bytealg.MakeNoZero"], named := ["math/bits.deBruijn32tab", "math/bits.deBruijn64tab"], apart := false, laid := [("math/bits.deBruijn32tab", laid_math_bits_deBruijn32tab), ("math/bits.deBruijn64tab", laid_math_bits_deBruijn64tab)] }
def HeaderPeeksSaid : Prop := headerPeeksRow.holds Tryd.pinned (OpenSpec.ofChange headerPeeksSpec)

/-- ITS FALSE NEIGHBOUR: 'it returns false'. Refute it at one input. -/
def headerPeeksWrong : ChangeSpec := { name := "headerPeeks", fn := fun _ => fun
  | [d1, d2] => { results := [.lit (.bool false)], args := [d1, d2] }
  | _ => none }
def HeaderPeeksWrongFalsely : Prop := headerPeeksRow.holds Tryd.pinned (OpenSpec.ofChange headerPeeksWrong)

/-- 'doorwardlaw04.HeaderApart': WHATEVER THE INPUT: true; the input reads as it did. -/
def headerApartSpec : ChangeSpec := { name := "headerApart", fn := fun _ => fun
  | [d1, d2] => { results := [.lit (.bool true)], args := [d1, d2] }
  | _ => none }
def headerApartRow : OpenClaim := { program := "ytolbeamphmoimaadoor", sum := "fd42450bfaf03aa72c3462ca7ff5c7d22fe2ef0293d2ca729de8bb015b989b84", func := "doorward/doorwardlaw04.HeaderApart", spec := "headerApart", inPlace := ["internal/bytealg.MakeNoZero"], named := ["math/bits.deBruijn32tab", "math/bits.deBruijn64tab"], apart := false, laid := [("math/bits.deBruijn32tab", laid_math_bits_deBruijn32tab), ("math/bits.deBruijn64tab", laid_math_bits_deBruijn64tab)] }
def HeaderApartSaid : Prop := headerApartRow.holds Tryd.pinned (OpenSpec.ofChange headerApartSpec)

/-- ITS FALSE NEIGHBOUR: 'it returns false'. Refute it at one input. -/
def headerApartWrong : ChangeSpec := { name := "headerApart", fn := fun _ => fun
  | [d1, d2] => { results := [.lit (.bool false)], args := [d1, d2] }
  | _ => none }
def HeaderApartWrongFalsely : Prop := headerApartRow.holds Tryd.pinned (OpenSpec.ofChange headerApartWrong)

/-- 'doorwardlaw04.HeaderRest': WHATEVER THE INPUT: true; the input reads as it did. -/
def headerRestSpec : ChangeSpec := { name := "headerRest", fn := fun _ => fun
  | [d1, d2] => { results := [.lit (.bool true)], args := [d1, d2] }
  | _ => none }
def headerRestRow : OpenClaim := { program := "ytolbeamphmoimaadoor", sum := "fd42450bfaf03aa72c3462ca7ff5c7d22fe2ef0293d2ca729de8bb015b989b84", func := "doorward/doorwardlaw04.HeaderRest", spec := "headerRest", inPlace := ["internal/bytealg.MakeNoZero"], named := ["math/bits.deBruijn32tab", "math/bits.deBruijn64tab"], apart := false, laid := [("math/bits.deBruijn32tab", laid_math_bits_deBruijn32tab), ("math/bits.deBruijn64tab", laid_math_bits_deBruijn64tab)] }
def HeaderRestSaid : Prop := headerRestRow.holds Tryd.pinned (OpenSpec.ofChange headerRestSpec)

/-- ITS FALSE NEIGHBOUR: 'it returns false'. Refute it at one input. -/
def headerRestWrong : ChangeSpec := { name := "headerRest", fn := fun _ => fun
  | [d1, d2] => { results := [.lit (.bool false)], args := [d1, d2] }
  | _ => none }
def HeaderRestWrongFalsely : Prop := headerRestRow.holds Tryd.pinned (OpenSpec.ofChange headerRestWrong)

/- THE SECOND FORM. 'bulk': how many values and letters a reading holds, each counted each time it is reached (what is shared counts as often as it is met; a slice's spare places count too). A statement '..UptoSaid' is the law's where the arguments, and the package variables that the reading takes, are together of bulk at most 1048576: NARROWER than '..Said'. Prove '..Said' where nothing that the law and all that it calls make is longer than what came in: it says more and counts as full. Else prove '..UptoSaid'. A law counts once. -/
mutual
def uptoBulk {H : Type} : DataW H → Nat
  | .lit (.string bytes) => bytes.length + 1
  | .lit _ => 1
  | .nil => 1
  | .ptr d => uptoBulk d + 1
  | .slice elems spare => uptoBulkAll elems + uptoBulkAll spare + 1
  | .agg parts => uptoBulkAll parts + 1
  | .iface _ d => uptoBulk d + 1
  | .map entries => uptoBulkEntries entries + 1
  | .held _ => 1
def uptoBulkAll {H : Type} : List (DataW H) → Nat
  | [] => 0
  | d :: r => uptoBulk d + uptoBulkAll r
def uptoBulkEntries {H : Type} : List (Lit × DataW H) → Nat
  | [] => 0
  | x :: r => uptoBulkEntry x + uptoBulkEntries r
def uptoBulkEntry {H : Type} : Lit × DataW H → Nat
  | (.string bytes, d) => bytes.length + uptoBulk d + 1
  | (_, d) => uptoBulk d + 1
 end
def uptoSmall : (H : Type) → List (DataW H) → Bool := fun _ ds => decide (uptoBulkAll ds ≤ 1048576)
def OpenSpec.upto (s : _root_.Go.ChangeSpec) : _root_.Go.OpenSpec := { _root_.Go.OpenSpec.ofChange s with cond := some uptoSmall }

/-- 'doorwardlaw04.HeaderPuts', WHERE WHAT IT READS IS OF BULK AT MOST 1048576: true; the input reads as it did. -/
def headerPutsUptoRow : OpenClaim := { program := "ytolbeamphmoimaadoor", sum := "fd42450bfaf03aa72c3462ca7ff5c7d22fe2ef0293d2ca729de8bb015b989b84", func := "doorward/doorwardlaw04.HeaderPuts", spec := "headerPuts", inPlace := ["internal/bytealg.MakeNoZero"], named := ["math/bits.deBruijn32tab", "math/bits.deBruijn64tab"], apart := false, laid := [("math/bits.deBruijn32tab", laid_math_bits_deBruijn32tab), ("math/bits.deBruijn64tab", laid_math_bits_deBruijn64tab)], narrowed := true }
def HeaderPutsUptoSaid : Prop := headerPutsUptoRow.holds Tryd.pinned (OpenSpec.upto headerPutsSpec)

/-- 'doorwardlaw04.HeaderParses', WHERE WHAT IT READS IS OF BULK AT MOST 1048576: true; the input reads as it did. -/
def headerParsesUptoRow : OpenClaim := { program := "ytolbeamphmoimaadoor", sum := "fd42450bfaf03aa72c3462ca7ff5c7d22fe2ef0293d2ca729de8bb015b989b84", func := "doorward/doorwardlaw04.HeaderParses", spec := "headerParses", inPlace := ["internal/bytealg.MakeNoZero"], named := ["math/bits.deBruijn32tab", "math/bits.deBruijn64tab"], apart := false, laid := [("math/bits.deBruijn32tab", laid_math_bits_deBruijn32tab), ("math/bits.deBruijn64tab", laid_math_bits_deBruijn64tab)], narrowed := true }
def HeaderParsesUptoSaid : Prop := headerParsesUptoRow.holds Tryd.pinned (OpenSpec.upto headerParsesSpec)

/-- 'doorwardlaw04.HeaderBack', WHERE WHAT IT READS IS OF BULK AT MOST 1048576: true; the input reads as it did. -/
def headerBackUptoRow : OpenClaim := { program := "ytolbeamphmoimaadoor", sum := "fd42450bfaf03aa72c3462ca7ff5c7d22fe2ef0293d2ca729de8bb015b989b84", func := "doorward/doorwardlaw04.HeaderBack", spec := "headerBack", inPlace := ["internal/bytealg.MakeNoZero"], named := ["math/bits.deBruijn32tab", "math/bits.deBruijn64tab"], apart := false, laid := [("math/bits.deBruijn32tab", laid_math_bits_deBruijn32tab), ("math/bits.deBruijn64tab", laid_math_bits_deBruijn64tab)], narrowed := true }
def HeaderBackUptoSaid : Prop := headerBackUptoRow.holds Tryd.pinned (OpenSpec.upto headerBackSpec)

/-- 'doorwardlaw04.HeaderCut', WHERE WHAT IT READS IS OF BULK AT MOST 1048576: true; the input reads as it did. -/
def headerCutUptoRow : OpenClaim := { program := "ytolbeamphmoimaadoor", sum := "fd42450bfaf03aa72c3462ca7ff5c7d22fe2ef0293d2ca729de8bb015b989b84", func := "doorward/doorwardlaw04.HeaderCut", spec := "headerCut", inPlace := ["internal/bytealg.MakeNoZero"], named := ["math/bits.deBruijn32tab", "math/bits.deBruijn64tab"], apart := false, laid := [("math/bits.deBruijn32tab", laid_math_bits_deBruijn32tab), ("math/bits.deBruijn64tab", laid_math_bits_deBruijn64tab)], narrowed := true }
def HeaderCutUptoSaid : Prop := headerCutUptoRow.holds Tryd.pinned (OpenSpec.upto headerCutSpec)

/-- 'doorwardlaw04.HeaderPeeks', WHERE WHAT IT READS IS OF BULK AT MOST 1048576: true; the input reads as it did. -/
def headerPeeksUptoRow : OpenClaim := { program := "ytolbeamphmoimaadoor", sum := "fd42450bfaf03aa72c3462ca7ff5c7d22fe2ef0293d2ca729de8bb015b989b84", func := "doorward/doorwardlaw04.HeaderPeeks", spec := "headerPeeks", inPlace := ["internal/bytealg.MakeNoZero"], named := ["math/bits.deBruijn32tab", "math/bits.deBruijn64tab"], apart := false, laid := [("math/bits.deBruijn32tab", laid_math_bits_deBruijn32tab), ("math/bits.deBruijn64tab", laid_math_bits_deBruijn64tab)], narrowed := true }
def HeaderPeeksUptoSaid : Prop := headerPeeksUptoRow.holds Tryd.pinned (OpenSpec.upto headerPeeksSpec)

/-- 'doorwardlaw04.HeaderApart', WHERE WHAT IT READS IS OF BULK AT MOST 1048576: true; the input reads as it did. -/
def headerApartUptoRow : OpenClaim := { program := "ytolbeamphmoimaadoor", sum := "fd42450bfaf03aa72c3462ca7ff5c7d22fe2ef0293d2ca729de8bb015b989b84", func := "doorward/doorwardlaw04.HeaderApart", spec := "headerApart", inPlace := ["internal/bytealg.MakeNoZero"], named := ["math/bits.deBruijn32tab", "math/bits.deBruijn64tab"], apart := false, laid := [("math/bits.deBruijn32tab", laid_math_bits_deBruijn32tab), ("math/bits.deBruijn64tab", laid_math_bits_deBruijn64tab)], narrowed := true }
def HeaderApartUptoSaid : Prop := headerApartUptoRow.holds Tryd.pinned (OpenSpec.upto headerApartSpec)

/-- 'doorwardlaw04.HeaderRest', WHERE WHAT IT READS IS OF BULK AT MOST 1048576: true; the input reads as it did. -/
def headerRestUptoRow : OpenClaim := { program := "ytolbeamphmoimaadoor", sum := "fd42450bfaf03aa72c3462ca7ff5c7d22fe2ef0293d2ca729de8bb015b989b84", func := "doorward/doorwardlaw04.HeaderRest", spec := "headerRest", inPlace := ["internal/bytealg.MakeNoZero"], named := ["math/bits.deBruijn32tab", "math/bits.deBruijn64tab"], apart := false, laid := [("math/bits.deBruijn32tab", laid_math_bits_deBruijn32tab), ("math/bits.deBruijn64tab", laid_math_bits_deBruijn64tab)], narrowed := true }
def HeaderRestUptoSaid : Prop := headerRestUptoRow.holds Tryd.pinned (OpenSpec.upto headerRestSpec)

end Rows
end Go.Proofs.YtolbeamphmoimaaDoor
