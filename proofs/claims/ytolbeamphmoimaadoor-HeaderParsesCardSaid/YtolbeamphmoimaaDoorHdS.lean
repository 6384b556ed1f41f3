/- The statements' own first call: the document's examples. 'append' to rows whose block is longer than their capacity. -/
import Derived.Test.YtolbeamphmoimaaDoorHdP
import Derived.Test.YtolbeamphmoimaaDoorHdB
namespace Go.Proofs.YtolbeamphmoimaaDoor
open Go.RowKit

theorem wpList_append_w {w : World} {ops : Array Oper} {rest : List Oper} {o : Oper} {a : Act} {Q : Exit → Act → World → Prop} (hgd : o.guard = none) (s x : Operand)
    (ho : o.op = .call { callee := .builtin .append, args := #[s, x], argTypes := #[23, 23] })
    (v : Value) (l : List UInt8) (B n : Nat) (hs : a.eval s = v) (hown : OwnW w B v l)
    (sv : Value) (news : List UInt8) (hx : a.eval x = sv) (hsl : Byts w sv news) (L : List UInt8) (hL : L = l ++ news) (hn : l.length + news.length = n) (hbytes : (n : Int) ≤ 140737488355328) (hbase : B ≤ w.heap.size)
    (h : ∀ ap cp w', OwnW w' B (.slice ap n cp) L → (∀ {w0 : World}, Mod (fun _ => False) w0 w → w0.heap.size ≤ B → Mod (fun _ => False) w0 w') → wpList Tryd.prog ops Q rest (a.put o.dst (.slice ap n cp)) w') : wpList Tryd.prog ops Q (o :: rest) a w := by
  subst hL
  obtain ⟨i0, hi, hz0, hz1, hz2⟩ := info_parts Tryd.info5
  obtain ⟨v', w', hrun, ho', hg⟩ := run_append_w (P := Tryd.prog) 23 o.type i0 (.int .u8 0) Tryd.underlying23 hi hz0 hz1 hz2 rfl B v l hown sv news hsl (by omega) hbase
  obtain ⟨ap, cp, rfl, _⟩ := byts_val ho'.byts
  have e : (l ++ news).length = n := by simpa using hn
  rw [e] at hrun ho'
  refine wpList_plain hgd fun K hK => ?_
  unfold Oper.wp
  simp [execOp, ho, resolve, invoke, builtin, hs, hx, hrun, Result.andThen]
  exact hK _ _ (h ap cp w' ho' (fun hM hB => hM.grown hg (fun k hk hlt => by have := (hown.lt k hk).1; omega)))

def sH : Hd := ⟨false, false, 0, 0, [7, 7, 7, 7, 7, 7, 7, 7], [], [], [9], 0⟩
def lH : Hd := ⟨true, false, 0, 1, [97, 98], [99], [116], [1, 2], 3⟩
def cL : List UInt8 := [193, 0, 0, 0, 1, 2, 97, 98, 1, 99, 1, 116, 5, 1, 2, 1, 2, 3, 4]
theorem put_sH : hputL sH = [64, 7, 7, 7, 7, 7, 7, 7, 7, 9] := by decide
theorem put_lH : hputL lH = [193, 0, 0, 0, 1, 2, 97, 98, 1, 99, 1, 116, 5, 1, 2] := by decide
theorem parse_cL : parseL cL = (lH, 15, 0) := by rfl
theorem parse_nil : parseL [] = (Hd.zero, 0, 2) := by rfl
theorem peek_cL : peekL cL = ([97, 98], true, true) := by rfl
end Go.Proofs.YtolbeamphmoimaaDoor
