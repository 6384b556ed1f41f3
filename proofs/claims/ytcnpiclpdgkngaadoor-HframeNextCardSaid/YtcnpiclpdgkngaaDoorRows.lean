/-
  NARROWER THAN 'FOR EVERY INPUT', by the rows' own cells (each row's printed sentence says how): HframePuts: laid · HframeNext: laid · HframeBack: laid · HframeMany: laid · HframePasses: laid · HframeJoins: laid · HframeSettings: laid.
  DERIVED. THE GIVEN ROWS OF THIS SEAT. 7 by the template 'for every input the law returns true; each argument reads behind the call as it read before'; 0 by the template 'total and deterministic' (their statements: YtcnpiclpdgkngaaDoorTotals.lean).
  GIVEN WITH THE SEED: the statements are not yours to turn. If you find one false, say at which input.
  Laid BY PROGRAM, IN A SANDBOX (cutbox-rows.mjs): the forced cells as the released guide's own fill.sh prints them over the translation f15db4237662535b… (all of the seat's roots in one cut). By AI agents, Wed Nov 11 2026. No macro, syntax, notation, axiom, sorry.
-/
import Derived.Test.YtcnpiclpdgkngaaDoorChecked
import GoSem.PinnedTables
import GoSem.Claim
import GoSem.ClaimJoined
import GoSem.ClaimMapViews
import Derived.JoinedTies
import Derived.KernelRfl
namespace Go.Proofs.YtcnpiclpdgkngaaDoor
/- THE CELL 'sum', in the pinned program and in every row, IS THE sha256 OF THE DUMP (.gsa) THAT YtcnpiclpdgkngaaDoorProg.lean LOADS. Nothing in Lean hashes anything: it is a label: what it is worth is what the hold of that sum in a sandbox is worth. -/
noncomputable def Tryd.pinned : Pinned := { name := "ytcnpiclpdgkngaadoor", sum := "f15db4237662535b6579d4303f49ffbd48bc9ba7f896b134c2d57a4176c63dd3", checked := Tryd.checked }
namespace Rows
def none {H : Type} : Left H := { results := [], args := [] }

/- WHAT THE LISTED PACKAGE-LEVEL VARIABLES READ AS WHEN THE CALL BEGINS. Each datum BY PROGRAM (the guide's laid-datum.mjs) off the statement by which the dump's own 'gosem.cut.vars' lays the variable. In a bare row this is a premise. The card (YtcnpiclpdgkngaaDoorCards.lean) ties it to the program's text. -/
def laid_math_bits_deBruijn32tab {H : Type} : DataW H := .agg [.lit (.int .u8 0), .lit (.int .u8 1), .lit (.int .u8 28), .lit (.int .u8 2), .lit (.int .u8 29), .lit (.int .u8 14), .lit (.int .u8 24), .lit (.int .u8 3), .lit (.int .u8 30), .lit (.int .u8 22), .lit (.int .u8 20), .lit (.int .u8 15), .lit (.int .u8 25), .lit (.int .u8 17), .lit (.int .u8 4), .lit (.int .u8 8), .lit (.int .u8 31), .lit (.int .u8 27), .lit (.int .u8 13), .lit (.int .u8 23), .lit (.int .u8 21), .lit (.int .u8 19), .lit (.int .u8 16), .lit (.int .u8 7), .lit (.int .u8 26), .lit (.int .u8 12), .lit (.int .u8 18), .lit (.int .u8 6), .lit (.int .u8 11), .lit (.int .u8 5), .lit (.int .u8 10), .lit (.int .u8 9)]
def laid_math_bits_deBruijn64tab {H : Type} : DataW H := .agg [.lit (.int .u8 0), .lit (.int .u8 1), .lit (.int .u8 56), .lit (.int .u8 2), .lit (.int .u8 57), .lit (.int .u8 49), .lit (.int .u8 28), .lit (.int .u8 3), .lit (.int .u8 61), .lit (.int .u8 58), .lit (.int .u8 42), .lit (.int .u8 50), .lit (.int .u8 38), .lit (.int .u8 29), .lit (.int .u8 17), .lit (.int .u8 4), .lit (.int .u8 62), .lit (.int .u8 47), .lit (.int .u8 59), .lit (.int .u8 36), .lit (.int .u8 45), .lit (.int .u8 43), .lit (.int .u8 51), .lit (.int .u8 22), .lit (.int .u8 53), .lit (.int .u8 39), .lit (.int .u8 33), .lit (.int .u8 30), .lit (.int .u8 24), .lit (.int .u8 18), .lit (.int .u8 12), .lit (.int .u8 5), .lit (.int .u8 63), .lit (.int .u8 55), .lit (.int .u8 48), .lit (.int .u8 27), .lit (.int .u8 60), .lit (.int .u8 41), .lit (.int .u8 37), .lit (.int .u8 16), .lit (.int .u8 46), .lit (.int .u8 35), .lit (.int .u8 44), .lit (.int .u8 21), .lit (.int .u8 52), .lit (.int .u8 32), .lit (.int .u8 23), .lit (.int .u8 11), .lit (.int .u8 54), .lit (.int .u8 26), .lit (.int .u8 40), .lit (.int .u8 15), .lit (.int .u8 34), .lit (.int .u8 20), .lit (.int .u8 31), .lit (.int .u8 10), .lit (.int .u8 25), .lit (.int .u8 14), .lit (.int .u8 19), .lit (.int .u8 9), .lit (.int .u8 13), .lit (.int .u8 8), .lit (.int .u8 7), .lit (.int .u8 6)]
def laid_unicode_utf8_acceptRanges {H : Type} : DataW H := .agg [.agg [.lit (.int .u8 128), .lit (.int .u8 191)], .agg [.lit (.int .u8 160), .lit (.int .u8 191)], .agg [.lit (.int .u8 128), .lit (.int .u8 159)], .agg [.lit (.int .u8 144), .lit (.int .u8 191)], .agg [.lit (.int .u8 128), .lit (.int .u8 143)], .agg [.lit (.int .u8 0), .lit (.int .u8 0)], .agg [.lit (.int .u8 0), .lit (.int .u8 0)], .agg [.lit (.int .u8 0), .lit (.int .u8 0)], .agg [.lit (.int .u8 0), .lit (.int .u8 0)], .agg [.lit (.int .u8 0), .lit (.int .u8 0)], .agg [.lit (.int .u8 0), .lit (.int .u8 0)], .agg [.lit (.int .u8 0), .lit (.int .u8 0)], .agg [.lit (.int .u8 0), .lit (.int .u8 0)], .agg [.lit (.int .u8 0), .lit (.int .u8 0)], .agg [.lit (.int .u8 0), .lit (.int .u8 0)], .agg [.lit (.int .u8 0), .lit (.int .u8 0)]]
/-- One of Go's own tables, pinned by name: the form's constant. -/
def laid_unicode_utf8_first : DataW Unit := Go.Pinned.utf8First

/-- 'doorwardlaw06.HframePuts': WHATEVER THE INPUT: true; the input reads as it did. -/
def hframePutsSpec : ChangeSpec := { name := "hframePuts", fn := fun _ => fun
  | [d1, d2] => { results := [.lit (.bool true)], args := [d1, d2] }
  | _ => none }
def hframePutsRow : OpenClaim := { program := "ytcnpiclpdgkngaadoor", sum := "f15db4237662535b6579d4303f49ffbd48bc9ba7f896b134c2d57a4176c63dd3", func := "doorward/doorwardlaw06.HframePuts", spec := "hframePuts", unfollowed := true, recurses := true, named := ["math/bits.deBruijn32tab", "math/bits.deBruijn64tab", "unicode/utf8.first", "unicode/utf8.acceptRanges"], apart := false, laid := [("math/bits.deBruijn32tab", laid_math_bits_deBruijn32tab), ("math/bits.deBruijn64tab", laid_math_bits_deBruijn64tab), ("unicode/utf8.acceptRanges", laid_unicode_utf8_acceptRanges), ("unicode/utf8.first", laid_unicode_utf8_first)] }
def HframePutsSaid : Prop := hframePutsRow.holds Tryd.pinned (OpenSpec.ofChange hframePutsSpec)

/-- ITS FALSE NEIGHBOUR: 'it returns false'. Refute it at one input. -/
def hframePutsWrong : ChangeSpec := { name := "hframePuts", fn := fun _ => fun
  | [d1, d2] => { results := [.lit (.bool false)], args := [d1, d2] }
  | _ => none }
def HframePutsWrongFalsely : Prop := hframePutsRow.holds Tryd.pinned (OpenSpec.ofChange hframePutsWrong)

/-- 'doorwardlaw06.HframeNext': WHATEVER THE INPUT: true; the input reads as it did. -/
def hframeNextSpec : ChangeSpec := { name := "hframeNext", fn := fun _ => fun
  | [d] => { results := [.lit (.bool true)], args := [d] }
  | _ => none }
def hframeNextRow : OpenClaim := { program := "ytcnpiclpdgkngaadoor", sum := "f15db4237662535b6579d4303f49ffbd48bc9ba7f896b134c2d57a4176c63dd3", func := "doorward/doorwardlaw06.HframeNext", spec := "hframeNext", unfollowed := true, recurses := true, named := ["math/bits.deBruijn32tab", "math/bits.deBruijn64tab", "unicode/utf8.first", "unicode/utf8.acceptRanges"], apart := false, laid := [("math/bits.deBruijn32tab", laid_math_bits_deBruijn32tab), ("math/bits.deBruijn64tab", laid_math_bits_deBruijn64tab), ("unicode/utf8.acceptRanges", laid_unicode_utf8_acceptRanges), ("unicode/utf8.first", laid_unicode_utf8_first)] }
def HframeNextSaid : Prop := hframeNextRow.holds Tryd.pinned (OpenSpec.ofChange hframeNextSpec)

/-- ITS FALSE NEIGHBOUR: 'it returns false'. Refute it at one input. -/
def hframeNextWrong : ChangeSpec := { name := "hframeNext", fn := fun _ => fun
  | [d] => { results := [.lit (.bool false)], args := [d] }
  | _ => none }
def HframeNextWrongFalsely : Prop := hframeNextRow.holds Tryd.pinned (OpenSpec.ofChange hframeNextWrong)

/-- 'doorwardlaw06.HframeBack': WHATEVER THE INPUT: true; the input reads as it did. -/
def hframeBackSpec : ChangeSpec := { name := "hframeBack", fn := fun _ => fun
  | [d1, d2, d3] => { results := [.lit (.bool true)], args := [d1, d2, d3] }
  | _ => none }
def hframeBackRow : OpenClaim := { program := "ytcnpiclpdgkngaadoor", sum := "f15db4237662535b6579d4303f49ffbd48bc9ba7f896b134c2d57a4176c63dd3", func := "doorward/doorwardlaw06.HframeBack", spec := "hframeBack", unfollowed := true, recurses := true, named := ["math/bits.deBruijn32tab", "math/bits.deBruijn64tab", "unicode/utf8.first", "unicode/utf8.acceptRanges"], apart := false, laid := [("math/bits.deBruijn32tab", laid_math_bits_deBruijn32tab), ("math/bits.deBruijn64tab", laid_math_bits_deBruijn64tab), ("unicode/utf8.acceptRanges", laid_unicode_utf8_acceptRanges), ("unicode/utf8.first", laid_unicode_utf8_first)] }
def HframeBackSaid : Prop := hframeBackRow.holds Tryd.pinned (OpenSpec.ofChange hframeBackSpec)

/-- ITS FALSE NEIGHBOUR: 'it returns false'. Refute it at one input. -/
def hframeBackWrong : ChangeSpec := { name := "hframeBack", fn := fun _ => fun
  | [d1, d2, d3] => { results := [.lit (.bool false)], args := [d1, d2, d3] }
  | _ => none }
def HframeBackWrongFalsely : Prop := hframeBackRow.holds Tryd.pinned (OpenSpec.ofChange hframeBackWrong)

/-- 'doorwardlaw06.HframeMany': WHATEVER THE INPUT: true; the input reads as it did. -/
def hframeManySpec : ChangeSpec := { name := "hframeMany", fn := fun _ => fun
  | [d] => { results := [.lit (.bool true)], args := [d] }
  | _ => none }
def hframeManyRow : OpenClaim := { program := "ytcnpiclpdgkngaadoor", sum := "f15db4237662535b6579d4303f49ffbd48bc9ba7f896b134c2d57a4176c63dd3", func := "doorward/doorwardlaw06.HframeMany", spec := "hframeMany", unfollowed := true, recurses := true, named := ["math/bits.deBruijn32tab", "math/bits.deBruijn64tab", "unicode/utf8.first", "unicode/utf8.acceptRanges"], apart := false, laid := [("math/bits.deBruijn32tab", laid_math_bits_deBruijn32tab), ("math/bits.deBruijn64tab", laid_math_bits_deBruijn64tab), ("unicode/utf8.acceptRanges", laid_unicode_utf8_acceptRanges), ("unicode/utf8.first", laid_unicode_utf8_first)] }
def HframeManySaid : Prop := hframeManyRow.holds Tryd.pinned (OpenSpec.ofChange hframeManySpec)

/-- ITS FALSE NEIGHBOUR: 'it returns false'. Refute it at one input. -/
def hframeManyWrong : ChangeSpec := { name := "hframeMany", fn := fun _ => fun
  | [d] => { results := [.lit (.bool false)], args := [d] }
  | _ => none }
def HframeManyWrongFalsely : Prop := hframeManyRow.holds Tryd.pinned (OpenSpec.ofChange hframeManyWrong)

/-- 'doorwardlaw06.HframePasses': WHATEVER THE INPUT: true; the input reads as it did. -/
def hframePassesSpec : ChangeSpec := { name := "hframePasses", fn := fun _ => fun
  | [d1, d2] => { results := [.lit (.bool true)], args := [d1, d2] }
  | _ => none }
def hframePassesRow : OpenClaim := { program := "ytcnpiclpdgkngaadoor", sum := "f15db4237662535b6579d4303f49ffbd48bc9ba7f896b134c2d57a4176c63dd3", func := "doorward/doorwardlaw06.HframePasses", spec := "hframePasses", unfollowed := true, recurses := true, named := ["math/bits.deBruijn32tab", "math/bits.deBruijn64tab", "unicode/utf8.first", "unicode/utf8.acceptRanges"], apart := false, laid := [("math/bits.deBruijn32tab", laid_math_bits_deBruijn32tab), ("math/bits.deBruijn64tab", laid_math_bits_deBruijn64tab), ("unicode/utf8.acceptRanges", laid_unicode_utf8_acceptRanges), ("unicode/utf8.first", laid_unicode_utf8_first)] }
def HframePassesSaid : Prop := hframePassesRow.holds Tryd.pinned (OpenSpec.ofChange hframePassesSpec)

/-- ITS FALSE NEIGHBOUR: 'it returns false'. Refute it at one input. -/
def hframePassesWrong : ChangeSpec := { name := "hframePasses", fn := fun _ => fun
  | [d1, d2] => { results := [.lit (.bool false)], args := [d1, d2] }
  | _ => none }
def HframePassesWrongFalsely : Prop := hframePassesRow.holds Tryd.pinned (OpenSpec.ofChange hframePassesWrong)

/-- 'doorwardlaw06.HframeJoins': WHATEVER THE INPUT: true; the input reads as it did. -/
def hframeJoinsSpec : ChangeSpec := { name := "hframeJoins", fn := fun _ => fun
  | [d1, d2] => { results := [.lit (.bool true)], args := [d1, d2] }
  | _ => none }
def hframeJoinsRow : OpenClaim := { program := "ytcnpiclpdgkngaadoor", sum := "f15db4237662535b6579d4303f49ffbd48bc9ba7f896b134c2d57a4176c63dd3", func := "doorward/doorwardlaw06.HframeJoins", spec := "hframeJoins", unfollowed := true, recurses := true, named := ["math/bits.deBruijn32tab", "math/bits.deBruijn64tab", "unicode/utf8.first", "unicode/utf8.acceptRanges"], apart := false, laid := [("math/bits.deBruijn32tab", laid_math_bits_deBruijn32tab), ("math/bits.deBruijn64tab", laid_math_bits_deBruijn64tab), ("unicode/utf8.acceptRanges", laid_unicode_utf8_acceptRanges), ("unicode/utf8.first", laid_unicode_utf8_first)] }
def HframeJoinsSaid : Prop := hframeJoinsRow.holds Tryd.pinned (OpenSpec.ofChange hframeJoinsSpec)

/-- ITS FALSE NEIGHBOUR: 'it returns false'. Refute it at one input. -/
def hframeJoinsWrong : ChangeSpec := { name := "hframeJoins", fn := fun _ => fun
  | [d1, d2] => { results := [.lit (.bool false)], args := [d1, d2] }
  | _ => none }
def HframeJoinsWrongFalsely : Prop := hframeJoinsRow.holds Tryd.pinned (OpenSpec.ofChange hframeJoinsWrong)

/-- 'doorwardlaw06.HframeSettings': WHATEVER THE INPUT: true; the input reads as it did. -/
def hframeSettingsSpec : ChangeSpec := { name := "hframeSettings", fn := fun _ => fun
  | [d] => { results := [.lit (.bool true)], args := [d] }
  | _ => none }
def hframeSettingsRow : OpenClaim := { program := "ytcnpiclpdgkngaadoor", sum := "f15db4237662535b6579d4303f49ffbd48bc9ba7f896b134c2d57a4176c63dd3", func := "doorward/doorwardlaw06.HframeSettings", spec := "hframeSettings", unfollowed := true, recurses := true, named := ["math/bits.deBruijn32tab", "math/bits.deBruijn64tab", "unicode/utf8.first", "unicode/utf8.acceptRanges"], apart := false, laid := [("math/bits.deBruijn32tab", laid_math_bits_deBruijn32tab), ("math/bits.deBruijn64tab", laid_math_bits_deBruijn64tab), ("unicode/utf8.acceptRanges", laid_unicode_utf8_acceptRanges), ("unicode/utf8.first", laid_unicode_utf8_first)] }
def HframeSettingsSaid : Prop := hframeSettingsRow.holds Tryd.pinned (OpenSpec.ofChange hframeSettingsSpec)

/-- ITS FALSE NEIGHBOUR: 'it returns false'. Refute it at one input. -/
def hframeSettingsWrong : ChangeSpec := { name := "hframeSettings", fn := fun _ => fun
  | [d] => { results := [.lit (.bool false)], args := [d] }
  | _ => none }
def HframeSettingsWrongFalsely : Prop := hframeSettingsRow.holds Tryd.pinned (OpenSpec.ofChange hframeSettingsWrong)

/- THE SECOND FORM. 'bulk': how many values and letters a reading holds, each counted each time it is reached (what is shared counts as often as it is met; a slice's spare places count too). A statement '..UptoSaid' is the law's where the arguments, and the package variables that the reading takes, are together of bulk at most 1048576: NARROWER than '..Said'. Prove '..Said' where nothing that the law and all that it calls make is longer than what came in: it says more and counts as full. Else prove '..UptoSaid'. A law counts once. -/
mutual
def uptoBulk {H : Type} : DataW H → Nat
  | .lit (.string bytes) => bytes.length + 1
  | .lit _ => 1
  | .nil => 1
  | .ptr d => uptoBulk d + 1
  | .slice elems spare => uptoBulkAll elems + uptoBulkAll spare + 1
  | .agg parts => uptoBulkAll parts + 1
  | .iface _ d => uptoBulk d + 1
  | .map entries => uptoBulkEntries entries + 1
  | .held _ => 1
def uptoBulkAll {H : Type} : List (DataW H) → Nat
  | [] => 0
  | d :: r => uptoBulk d + uptoBulkAll r
def uptoBulkEntries {H : Type} : List (Lit × DataW H) → Nat
  | [] => 0
  | x :: r => uptoBulkEntry x + uptoBulkEntries r
def uptoBulkEntry {H : Type} : Lit × DataW H → Nat
  | (.string bytes, d) => bytes.length + uptoBulk d + 1
  | (_, d) => uptoBulk d + 1
 end
def uptoSmall : (H : Type) → List (DataW H) → Bool := fun _ ds => decide (uptoBulkAll ds ≤ 1048576)
def OpenSpec.upto (s : _root_.Go.ChangeSpec) : _root_.Go.OpenSpec := { _root_.Go.OpenSpec.ofChange s with cond := some uptoSmall }

/-- 'doorwardlaw06.HframePuts', WHERE WHAT IT READS IS OF BULK AT MOST 1048576: true; the input reads as it did. -/
def hframePutsUptoRow : OpenClaim := { program := "ytcnpiclpdgkngaadoor", sum := "f15db4237662535b6579d4303f49ffbd48bc9ba7f896b134c2d57a4176c63dd3", func := "doorward/doorwardlaw06.HframePuts", spec := "hframePuts", unfollowed := true, recurses := true, named := ["math/bits.deBruijn32tab", "math/bits.deBruijn64tab", "unicode/utf8.first", "unicode/utf8.acceptRanges"], apart := false, laid := [("math/bits.deBruijn32tab", laid_math_bits_deBruijn32tab), ("math/bits.deBruijn64tab", laid_math_bits_deBruijn64tab), ("unicode/utf8.acceptRanges", laid_unicode_utf8_acceptRanges), ("unicode/utf8.first", laid_unicode_utf8_first)], narrowed := true }
def HframePutsUptoSaid : Prop := hframePutsUptoRow.holds Tryd.pinned (OpenSpec.upto hframePutsSpec)

/-- 'doorwardlaw06.HframeNext', WHERE WHAT IT READS IS OF BULK AT MOST 1048576: true; the input reads as it did. -/
def hframeNextUptoRow : OpenClaim := { program := "ytcnpiclpdgkngaadoor", sum := "f15db4237662535b6579d4303f49ffbd48bc9ba7f896b134c2d57a4176c63dd3", func := "doorward/doorwardlaw06.HframeNext", spec := "hframeNext", unfollowed := true, recurses := true, named := ["math/bits.deBruijn32tab", "math/bits.deBruijn64tab", "unicode/utf8.first", "unicode/utf8.acceptRanges"], apart := false, laid := [("math/bits.deBruijn32tab", laid_math_bits_deBruijn32tab), ("math/bits.deBruijn64tab", laid_math_bits_deBruijn64tab), ("unicode/utf8.acceptRanges", laid_unicode_utf8_acceptRanges), ("unicode/utf8.first", laid_unicode_utf8_first)], narrowed := true }
def HframeNextUptoSaid : Prop := hframeNextUptoRow.holds Tryd.pinned (OpenSpec.upto hframeNextSpec)

/-- 'doorwardlaw06.HframeBack', WHERE WHAT IT READS IS OF BULK AT MOST 1048576: true; the input reads as it did. -/
def hframeBackUptoRow : OpenClaim := { program := "ytcnpiclpdgkngaadoor", sum := "f15db4237662535b6579d4303f49ffbd48bc9ba7f896b134c2d57a4176c63dd3", func := "doorward/doorwardlaw06.HframeBack", spec := "hframeBack", unfollowed := true, recurses := true, named := ["math/bits.deBruijn32tab", "math/bits.deBruijn64tab", "unicode/utf8.first", "unicode/utf8.acceptRanges"], apart := false, laid := [("math/bits.deBruijn32tab", laid_math_bits_deBruijn32tab), ("math/bits.deBruijn64tab", laid_math_bits_deBruijn64tab), ("unicode/utf8.acceptRanges", laid_unicode_utf8_acceptRanges), ("unicode/utf8.first", laid_unicode_utf8_first)], narrowed := true }
def HframeBackUptoSaid : Prop := hframeBackUptoRow.holds Tryd.pinned (OpenSpec.upto hframeBackSpec)

/-- 'doorwardlaw06.HframeMany', WHERE WHAT IT READS IS OF BULK AT MOST 1048576: true; the input reads as it did. -/
def hframeManyUptoRow : OpenClaim := { program := "ytcnpiclpdgkngaadoor", sum := "f15db4237662535b6579d4303f49ffbd48bc9ba7f896b134c2d57a4176c63dd3", func := "doorward/doorwardlaw06.HframeMany", spec := "hframeMany", unfollowed := true, recurses := true, named := ["math/bits.deBruijn32tab", "math/bits.deBruijn64tab", "unicode/utf8.first", "unicode/utf8.acceptRanges"], apart := false, laid := [("math/bits.deBruijn32tab", laid_math_bits_deBruijn32tab), ("math/bits.deBruijn64tab", laid_math_bits_deBruijn64tab), ("unicode/utf8.acceptRanges", laid_unicode_utf8_acceptRanges), ("unicode/utf8.first", laid_unicode_utf8_first)], narrowed := true }
def HframeManyUptoSaid : Prop := hframeManyUptoRow.holds Tryd.pinned (OpenSpec.upto hframeManySpec)

/-- 'doorwardlaw06.HframePasses', WHERE WHAT IT READS IS OF BULK AT MOST 1048576: true; the input reads as it did. -/
def hframePassesUptoRow : OpenClaim := { program := "ytcnpiclpdgkngaadoor", sum := "f15db4237662535b6579d4303f49ffbd48bc9ba7f896b134c2d57a4176c63dd3", func := "doorward/doorwardlaw06.HframePasses", spec := "hframePasses", unfollowed := true, recurses := true, named := ["math/bits.deBruijn32tab", "math/bits.deBruijn64tab", "unicode/utf8.first", "unicode/utf8.acceptRanges"], apart := false, laid := [("math/bits.deBruijn32tab", laid_math_bits_deBruijn32tab), ("math/bits.deBruijn64tab", laid_math_bits_deBruijn64tab), ("unicode/utf8.acceptRanges", laid_unicode_utf8_acceptRanges), ("unicode/utf8.first", laid_unicode_utf8_first)], narrowed := true }
def HframePassesUptoSaid : Prop := hframePassesUptoRow.holds Tryd.pinned (OpenSpec.upto hframePassesSpec)

/-- 'doorwardlaw06.HframeJoins', WHERE WHAT IT READS IS OF BULK AT MOST 1048576: true; the input reads as it did. -/
def hframeJoinsUptoRow : OpenClaim := { program := "ytcnpiclpdgkngaadoor", sum := "f15db4237662535b6579d4303f49ffbd48bc9ba7f896b134c2d57a4176c63dd3", func := "doorward/doorwardlaw06.HframeJoins", spec := "hframeJoins", unfollowed := true, recurses := true, named := ["math/bits.deBruijn32tab", "math/bits.deBruijn64tab", "unicode/utf8.first", "unicode/utf8.acceptRanges"], apart := false, laid := [("math/bits.deBruijn32tab", laid_math_bits_deBruijn32tab), ("math/bits.deBruijn64tab", laid_math_bits_deBruijn64tab), ("unicode/utf8.acceptRanges", laid_unicode_utf8_acceptRanges), ("unicode/utf8.first", laid_unicode_utf8_first)], narrowed := true }
def HframeJoinsUptoSaid : Prop := hframeJoinsUptoRow.holds Tryd.pinned (OpenSpec.upto hframeJoinsSpec)

/-- 'doorwardlaw06.HframeSettings', WHERE WHAT IT READS IS OF BULK AT MOST 1048576: true; the input reads as it did. -/
def hframeSettingsUptoRow : OpenClaim := { program := "ytcnpiclpdgkngaadoor", sum := "f15db4237662535b6579d4303f49ffbd48bc9ba7f896b134c2d57a4176c63dd3", func := "doorward/doorwardlaw06.HframeSettings", spec := "hframeSettings", unfollowed := true, recurses := true, named := ["math/bits.deBruijn32tab", "math/bits.deBruijn64tab", "unicode/utf8.first", "unicode/utf8.acceptRanges"], apart := false, laid := [("math/bits.deBruijn32tab", laid_math_bits_deBruijn32tab), ("math/bits.deBruijn64tab", laid_math_bits_deBruijn64tab), ("unicode/utf8.acceptRanges", laid_unicode_utf8_acceptRanges), ("unicode/utf8.first", laid_unicode_utf8_first)], narrowed := true }
def HframeSettingsUptoSaid : Prop := hframeSettingsUptoRow.holds Tryd.pinned (OpenSpec.upto hframeSettingsSpec)

end Rows
end Go.Proofs.YtcnpiclpdgkngaaDoor
