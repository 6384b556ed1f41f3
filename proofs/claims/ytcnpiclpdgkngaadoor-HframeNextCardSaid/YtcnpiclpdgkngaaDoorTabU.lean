/- What the laws' statements have in common (chapter 06): the four tables of the library's hold what the program's text lays; a world for the witness. -/
import Derived.Test.YtcnpiclpdgkngaaDoorCards
import Derived.Test.YtcnpiclpdgkngaaDoorTie
import Derived.Test.YtcnpiclpdgkngaaDoorVarA
import Derived.Test.YtcnpiclpdgkngaaDoorLaw
import Derived.ProofKit
import Derived.OpenShut
import Derived.Deep.DeepHandedRow
import Derived.Lib.LaidTab
import Derived.LaidSub
import Derived.Lib.LaidU8T
namespace Go.Proofs.YtcnpiclpdgkngaaDoor
open Go.ChangeShapes Go.WideShapes Go.ChangeAt Go.RowKit

theorem own : ownKnob Tryd.prog.godebug = none := by kernel_rfl
theorem gTab : Tryd.prog.globalNamed "math/bits.deBruijn64tab" = some 1 := by kernel_rfl
theorem gTabType : (Tryd.prog.globals[1]?).map (·.type) = some 100 := by kernel_rfl
theorem cellsTab : Tryd.prog.cellsOf 100 = 64 := by kernel_rfl
theorem cellsByte : Tryd.prog.cellsOf 5 = 1 := by kernel_rfl
def tab64 : List Int := [0, 1, 56, 2, 57, 49, 28, 3, 61, 58, 42, 50, 38, 29, 17, 4, 62, 47, 59, 36, 45, 43, 51, 22, 53, 39, 33, 30, 24, 18, 12, 5, 63, 55, 48, 27, 60, 41, 37, 16, 46, 35, 44, 21, 52, 32, 23, 11, 54, 26, 40, 15, 34, 20, 31, 10, 25, 14, 19, 9, 13, 8, 7, 6]
def tab32 : List Int := [0, 1, 28, 2, 29, 14, 24, 3, 30, 22, 20, 15, 25, 17, 4, 8, 31, 27, 13, 23, 21, 19, 16, 7, 26, 12, 18, 6, 11, 5, 10, 9]
def fourLaid : List (String × DataW Unit) := [("math/bits.deBruijn32tab", Rows.laid_math_bits_deBruijn32tab), ("math/bits.deBruijn64tab", Rows.laid_math_bits_deBruijn64tab), ("unicode/utf8.acceptRanges", Rows.laid_unicode_utf8_acceptRanges), ("unicode/utf8.first", Rows.laid_unicode_utf8_first)]
theorem table {W : World} (h : laidMetH Tryd.prog fourLaid W) : Lib.TabIs Tryd.prog W "math/bits.deBruijn64tab" .u8 tab64 := by
  have h2 := h.filter (fun x => x.1 == "math/bits.deBruijn64tab")
  have e : fourLaid.filter (fun x => x.1 == "math/bits.deBruijn64tab") = [("math/bits.deBruijn64tab", Lib.tabData .u8 tab64)] := rfl
  rw [e] at h2
  exact Lib.tabIs_of_head (rest := []) gTab gTabType Tryd.underlying100 Tryd.underlying5 cellsByte cellsTab h2
theorem tabs_of {W : World} (h : laidMetH Tryd.prog fourLaid W) : Tabs W :=
  ⟨(table h).cell gTab 0 (by decide), (table h).cell gTab 1 (by decide), (table h).cell gTab 3 (by decide), (table h).cell gTab 7 (by decide)⟩
theorem noHandles : (fourLaid.filter fun x => x.2.handleName?.isNone) = fourLaid := by kernel_rfl
theorem fourMet {W : World} (h : laidMetH Tryd.prog fourLaid W) : laidMet Tryd.prog fourLaid W := by
  have := (laidMetH_iff.1 h).1
  rwa [noHandles] at this
/-- The numbering of what the bridge speaks of. -/
def ren8 : Go.Shelf.Ren where
  f := fun n => n
  t := fun n => match n with
    | 5 => 5
    | 119 => 101
    | 138 => 103
    | 139 => 104
    | n => n
  g := fun n => match n with
    | 3 => 2
    | 4 => 3
    | n => n
theorem types8 : U8Types Tryd.prog ren8 := ⟨by kernel_rfl, by kernel_rfl, by kernel_rfl, by kernel_rfl⟩
theorem extra8 : U8Extra Tryd.prog ren8 := ⟨by kernel_rfl, by kernel_rfl, by kernel_rfl, by kernel_rfl, by kernel_rfl, by kernel_rfl, by kernel_rfl⟩
theorem first8 : Rows.laid_unicode_utf8_first = Lib.firstData := by kernel_rfl
theorem accept8 : (Rows.laid_unicode_utf8_acceptRanges : DataW Unit) = Lib.acceptData := by kernel_rfl
theorem utabs_of {W : World} (h : laidMetH Tryd.prog fourLaid W) : Lib.Utf8Tabs 2 3 W := by
  have hm := fourMet h
  exact utf8Tabs_of_readsT types8 extra8 (Lib.laidMet.reads hm (by rw [← first8]; simp [fourLaid])) (Lib.laidMet.reads hm (by rw [← accept8]; simp [fourLaid]))
/-- A world for a witness: the settled one, the tables holding what their initialisers lay. -/
def fillTab (cs : Array Value) : Obj → Obj
  | .cells _ t frozen => .cells cs t frozen
  | o => o
noncomputable def laidWorld (os : Os) : World :=
  { World.holding Tryd.prog os ⟨#[], #[], []⟩ with heap := ((((World.holding Tryd.prog os ⟨#[], #[], []⟩).heap.modify 0 (fillTab (tab32.map (Value.int .u8)).toArray)).modify 1 (fillTab (tab64.map (Value.int .u8)).toArray)).modify 2 (fillTab (Go.Pinned.utf8FirstZ.map fun (n : Nat) => Value.int .u8 (Int.ofNat n)).toArray)).modify 3 (fillTab ((([128, 191, 160, 191, 128, 159, 144, 191, 128, 143] ++ List.replicate 22 0 : List Int)).map (Value.int .u8)).toArray) }
end Go.Proofs.YtcnpiclpdgkngaaDoor
