/-
  No cell of these rows narrows 'for every input' (looked for: loops, veiled, ifaces, maps, wideKeys, modest, calm, conditions, laid).
  DERIVED. THE GIVEN ROWS OF THIS SEAT. 6 by the template 'for every input the law returns true; each argument reads behind the call as it read before'; 0 by the template 'total and deterministic' (their statements: YtodcadcapmhgfaaTotals.lean).
  GIVEN WITH THE SEED: the statements are not yours to turn. If you find one false, say at which input.
  Laid BY PROGRAM, IN A SANDBOX (cutbox-rows.mjs): the forced cells as the released guide's own fill.sh prints them over the translation 767ac4a97058da87… (all of the seat's roots in one cut). By AI agents, Wed Nov 11 2026. No macro, syntax, notation, axiom, sorry.
-/
import Derived.Test.YtodcadcapmhgfaaChecked
import GoSem.Claim
import GoSem.ClaimJoined
import GoSem.ClaimMapViews
import Derived.JoinedTies
import Derived.KernelRfl
namespace Go.Proofs.Ytodcadcapmhgfaa
/- THE CELL 'sum', in the pinned program and in every row, IS THE sha256 OF THE DUMP (.gsa) THAT YtodcadcapmhgfaaProg.lean LOADS. Nothing in Lean hashes anything: it is a label: what it is worth is what the hold of that sum in a sandbox is worth. -/
noncomputable def Try.pinned : Pinned := { name := "ytodcadcapmhgfaa", sum := "767ac4a97058da87ca5744131ca70bcf30e290ef09ddb28c92c9cc632bea9a42", checked := Try.checked }
namespace Rows
def none {H : Type} : Left H := { results := [], args := [] }

/-- 'doorwardlaw12.TimersActs': WHATEVER THE INPUT: true; the input reads as it did. -/
def timersActsSpec : ChangeSpec := { name := "timersActs", fn := fun _ => fun
  | [d] => { results := [.lit (.bool true)], args := [d] }
  | _ => none }
def timersActsRow : OpenClaim := { program := "ytodcadcapmhgfaa", sum := "767ac4a97058da87ca5744131ca70bcf30e290ef09ddb28c92c9cc632bea9a42", func := "doorward/doorwardlaw12.TimersActs", spec := "timersActs", unfollowed := true, recurses := true, plainKeys := false, apart := false }
def TimersActsSaid : Prop := timersActsRow.holds Try.pinned (OpenSpec.ofChange timersActsSpec)

/-- ITS FALSE NEIGHBOUR: 'it returns false'. Refute it at one input. -/
def timersActsWrong : ChangeSpec := { name := "timersActs", fn := fun _ => fun
  | [d] => { results := [.lit (.bool false)], args := [d] }
  | _ => none }
def TimersActsWrongFalsely : Prop := timersActsRow.holds Try.pinned (OpenSpec.ofChange timersActsWrong)

/-- 'doorwardlaw12.TimersOrder': WHATEVER THE INPUT: true; the input reads as it did. -/
def timersOrderSpec : ChangeSpec := { name := "timersOrder", fn := fun _ => fun
  | [d1, d2] => { results := [.lit (.bool true)], args := [d1, d2] }
  | _ => none }
def timersOrderRow : OpenClaim := { program := "ytodcadcapmhgfaa", sum := "767ac4a97058da87ca5744131ca70bcf30e290ef09ddb28c92c9cc632bea9a42", func := "doorward/doorwardlaw12.TimersOrder", spec := "timersOrder", unfollowed := true, recurses := true, plainKeys := false, apart := false }
def TimersOrderSaid : Prop := timersOrderRow.holds Try.pinned (OpenSpec.ofChange timersOrderSpec)

/-- ITS FALSE NEIGHBOUR: 'it returns false'. Refute it at one input. -/
def timersOrderWrong : ChangeSpec := { name := "timersOrder", fn := fun _ => fun
  | [d1, d2] => { results := [.lit (.bool false)], args := [d1, d2] }
  | _ => none }
def TimersOrderWrongFalsely : Prop := timersOrderRow.holds Try.pinned (OpenSpec.ofChange timersOrderWrong)

/-- 'doorwardlaw12.TimersLast': WHATEVER THE INPUT: true; the input reads as it did. -/
def timersLastSpec : ChangeSpec := { name := "timersLast", fn := fun _ => fun
  | [d] => { results := [.lit (.bool true)], args := [d] }
  | _ => none }
def timersLastRow : OpenClaim := { program := "ytodcadcapmhgfaa", sum := "767ac4a97058da87ca5744131ca70bcf30e290ef09ddb28c92c9cc632bea9a42", func := "doorward/doorwardlaw12.TimersLast", spec := "timersLast", unfollowed := true, recurses := true, plainKeys := false, apart := false }
def TimersLastSaid : Prop := timersLastRow.holds Try.pinned (OpenSpec.ofChange timersLastSpec)

/-- ITS FALSE NEIGHBOUR: 'it returns false'. Refute it at one input. -/
def timersLastWrong : ChangeSpec := { name := "timersLast", fn := fun _ => fun
  | [d] => { results := [.lit (.bool false)], args := [d] }
  | _ => none }
def TimersLastWrongFalsely : Prop := timersLastRow.holds Try.pinned (OpenSpec.ofChange timersLastWrong)

/-- 'doorwardlaw12.TimersDrops': WHATEVER THE INPUT: true; the input reads as it did. -/
def timersDropsSpec : ChangeSpec := { name := "timersDrops", fn := fun _ => fun
  | [d1, d2] => { results := [.lit (.bool true)], args := [d1, d2] }
  | _ => none }
def timersDropsRow : OpenClaim := { program := "ytodcadcapmhgfaa", sum := "767ac4a97058da87ca5744131ca70bcf30e290ef09ddb28c92c9cc632bea9a42", func := "doorward/doorwardlaw12.TimersDrops", spec := "timersDrops", unfollowed := true, recurses := true, plainKeys := false, apart := false }
def TimersDropsSaid : Prop := timersDropsRow.holds Try.pinned (OpenSpec.ofChange timersDropsSpec)

/-- ITS FALSE NEIGHBOUR: 'it returns false'. Refute it at one input. -/
def timersDropsWrong : ChangeSpec := { name := "timersDrops", fn := fun _ => fun
  | [d1, d2] => { results := [.lit (.bool false)], args := [d1, d2] }
  | _ => none }
def TimersDropsWrongFalsely : Prop := timersDropsRow.holds Try.pinned (OpenSpec.ofChange timersDropsWrong)

/-- 'doorwardlaw12.TimersNext': WHATEVER THE INPUT: true; the input reads as it did. -/
def timersNextSpec : ChangeSpec := { name := "timersNext", fn := fun _ => fun
  | [d1, d2] => { results := [.lit (.bool true)], args := [d1, d2] }
  | _ => none }
def timersNextRow : OpenClaim := { program := "ytodcadcapmhgfaa", sum := "767ac4a97058da87ca5744131ca70bcf30e290ef09ddb28c92c9cc632bea9a42", func := "doorward/doorwardlaw12.TimersNext", spec := "timersNext", unfollowed := true, recurses := true, plainKeys := false, apart := false }
def TimersNextSaid : Prop := timersNextRow.holds Try.pinned (OpenSpec.ofChange timersNextSpec)

/-- ITS FALSE NEIGHBOUR: 'it returns false'. Refute it at one input. -/
def timersNextWrong : ChangeSpec := { name := "timersNext", fn := fun _ => fun
  | [d1, d2] => { results := [.lit (.bool false)], args := [d1, d2] }
  | _ => none }
def TimersNextWrongFalsely : Prop := timersNextRow.holds Try.pinned (OpenSpec.ofChange timersNextWrong)

/-- 'doorwardlaw12.TimersAgain': WHATEVER THE INPUT: true; the input reads as it did. -/
def timersAgainSpec : ChangeSpec := { name := "timersAgain", fn := fun _ => fun
  | [d1, d2] => { results := [.lit (.bool true)], args := [d1, d2] }
  | _ => none }
def timersAgainRow : OpenClaim := { program := "ytodcadcapmhgfaa", sum := "767ac4a97058da87ca5744131ca70bcf30e290ef09ddb28c92c9cc632bea9a42", func := "doorward/doorwardlaw12.TimersAgain", spec := "timersAgain", unfollowed := true, recurses := true, plainKeys := false, apart := false }
def TimersAgainSaid : Prop := timersAgainRow.holds Try.pinned (OpenSpec.ofChange timersAgainSpec)

/-- ITS FALSE NEIGHBOUR: 'it returns false'. Refute it at one input. -/
def timersAgainWrong : ChangeSpec := { name := "timersAgain", fn := fun _ => fun
  | [d1, d2] => { results := [.lit (.bool false)], args := [d1, d2] }
  | _ => none }
def TimersAgainWrongFalsely : Prop := timersAgainRow.holds Try.pinned (OpenSpec.ofChange timersAgainWrong)

/- THE SECOND FORM. 'bulk': how many values and letters a reading holds, each counted each time it is reached (what is shared counts as often as it is met; a slice's spare places count too). A statement '..UptoSaid' is the law's where the arguments, and the package variables that the reading takes, are together of bulk at most 1048576: NARROWER than '..Said'. Prove '..Said' where nothing that the law and all that it calls make is longer than what came in: it says more and counts as full. Else prove '..UptoSaid'. A law counts once. -/
mutual
def uptoBulk {H : Type} : DataW H → Nat
  | .lit (.string bytes) => bytes.length + 1
  | .lit _ => 1
  | .nil => 1
  | .ptr d => uptoBulk d + 1
  | .slice elems spare => uptoBulkAll elems + uptoBulkAll spare + 1
  | .agg parts => uptoBulkAll parts + 1
  | .iface _ d => uptoBulk d + 1
  | .map entries => uptoBulkEntries entries + 1
  | .held _ => 1
def uptoBulkAll {H : Type} : List (DataW H) → Nat
  | [] => 0
  | d :: r => uptoBulk d + uptoBulkAll r
def uptoBulkEntries {H : Type} : List (Lit × DataW H) → Nat
  | [] => 0
  | x :: r => uptoBulkEntry x + uptoBulkEntries r
def uptoBulkEntry {H : Type} : Lit × DataW H → Nat
  | (.string bytes, d) => bytes.length + uptoBulk d + 1
  | (_, d) => uptoBulk d + 1
 end
def uptoSmall : (H : Type) → List (DataW H) → Bool := fun _ ds => decide (uptoBulkAll ds ≤ 1048576)
def OpenSpec.upto (s : _root_.Go.ChangeSpec) : _root_.Go.OpenSpec := { _root_.Go.OpenSpec.ofChange s with cond := some uptoSmall }

/-- 'doorwardlaw12.TimersActs', WHERE WHAT IT READS IS OF BULK AT MOST 1048576: true; the input reads as it did. -/
def timersActsUptoRow : OpenClaim := { program := "ytodcadcapmhgfaa", sum := "767ac4a97058da87ca5744131ca70bcf30e290ef09ddb28c92c9cc632bea9a42", func := "doorward/doorwardlaw12.TimersActs", spec := "timersActs", unfollowed := true, recurses := true, plainKeys := false, apart := false, narrowed := true }
def TimersActsUptoSaid : Prop := timersActsUptoRow.holds Try.pinned (OpenSpec.upto timersActsSpec)

/-- 'doorwardlaw12.TimersOrder', WHERE WHAT IT READS IS OF BULK AT MOST 1048576: true; the input reads as it did. -/
def timersOrderUptoRow : OpenClaim := { program := "ytodcadcapmhgfaa", sum := "767ac4a97058da87ca5744131ca70bcf30e290ef09ddb28c92c9cc632bea9a42", func := "doorward/doorwardlaw12.TimersOrder", spec := "timersOrder", unfollowed := true, recurses := true, plainKeys := false, apart := false, narrowed := true }
def TimersOrderUptoSaid : Prop := timersOrderUptoRow.holds Try.pinned (OpenSpec.upto timersOrderSpec)

/-- 'doorwardlaw12.TimersLast', WHERE WHAT IT READS IS OF BULK AT MOST 1048576: true; the input reads as it did. -/
def timersLastUptoRow : OpenClaim := { program := "ytodcadcapmhgfaa", sum := "767ac4a97058da87ca5744131ca70bcf30e290ef09ddb28c92c9cc632bea9a42", func := "doorward/doorwardlaw12.TimersLast", spec := "timersLast", unfollowed := true, recurses := true, plainKeys := false, apart := false, narrowed := true }
def TimersLastUptoSaid : Prop := timersLastUptoRow.holds Try.pinned (OpenSpec.upto timersLastSpec)

/-- 'doorwardlaw12.TimersDrops', WHERE WHAT IT READS IS OF BULK AT MOST 1048576: true; the input reads as it did. -/
def timersDropsUptoRow : OpenClaim := { program := "ytodcadcapmhgfaa", sum := "767ac4a97058da87ca5744131ca70bcf30e290ef09ddb28c92c9cc632bea9a42", func := "doorward/doorwardlaw12.TimersDrops", spec := "timersDrops", unfollowed := true, recurses := true, plainKeys := false, apart := false, narrowed := true }
def TimersDropsUptoSaid : Prop := timersDropsUptoRow.holds Try.pinned (OpenSpec.upto timersDropsSpec)

/-- 'doorwardlaw12.TimersNext', WHERE WHAT IT READS IS OF BULK AT MOST 1048576: true; the input reads as it did. -/
def timersNextUptoRow : OpenClaim := { program := "ytodcadcapmhgfaa", sum := "767ac4a97058da87ca5744131ca70bcf30e290ef09ddb28c92c9cc632bea9a42", func := "doorward/doorwardlaw12.TimersNext", spec := "timersNext", unfollowed := true, recurses := true, plainKeys := false, apart := false, narrowed := true }
def TimersNextUptoSaid : Prop := timersNextUptoRow.holds Try.pinned (OpenSpec.upto timersNextSpec)

/-- 'doorwardlaw12.TimersAgain', WHERE WHAT IT READS IS OF BULK AT MOST 1048576: true; the input reads as it did. -/
def timersAgainUptoRow : OpenClaim := { program := "ytodcadcapmhgfaa", sum := "767ac4a97058da87ca5744131ca70bcf30e290ef09ddb28c92c9cc632bea9a42", func := "doorward/doorwardlaw12.TimersAgain", spec := "timersAgain", unfollowed := true, recurses := true, plainKeys := false, apart := false, narrowed := true }
def TimersAgainUptoSaid : Prop := timersAgainUptoRow.holds Try.pinned (OpenSpec.upto timersAgainSpec)

end Rows
end Go.Proofs.Ytodcadcapmhgfaa
