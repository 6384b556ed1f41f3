/- 'append' of a timer, and a literal of one, in plain regions. -/
import Derived.Test.YtodcadcapmhgfaaTlE
namespace Go.Proofs.Ytodcadcapmhgfaa
open Go.RowKit

theorem wpList_build_tm {ops : Array Oper} {rest : List Oper} {op : Oper} {a : Act} {w : World} {Q : Exit → Act → World → Prop} (hg : op.guard = none) (x : Operand) (ho : op.op = .buildSlice 34 1 #[(0, x)]) (t : Tm) (hx : a.eval x = .agg (tmA t))
    (k : wpList Try.prog ops Q rest (a.put op.dst (.slice (some ⟨w.heap.size, 0, none⟩) 1 1)) (w.alloc (.cells (tmA t) 27))) : wpList Try.prog ops Q (op :: rest) a w := by
  refine wpList_plain hg fun K hK => ?_
  unfold Oper.wp
  rw [exec_build_tm ho hx]
  exact hK _ _ k
/-- The value of a row of timers of the call's own, written out. -/
theorem OwnT.val {w : World} {B : Nat} {v : Value} {h : List Tm} (ho : OwnT w B v h) : ∃ a c, v = .slice a h.length c := by
  obtain ⟨a, c, e, -⟩ := Sl.val (Sl.ofOwn ho)
  exact ⟨a, c, e⟩
theorem wpList_append_tm {ops : Array Oper} {rest : List Oper} {op : Oper} {a : Act} {w : World} {Q : Exit → Act → World → Prop} (hg : op.guard = none) (s x : Operand) (ho : op.op = .call { callee := .builtin .append, args := #[s, x], argTypes := #[34, 34] })
    (v : Value) (h : List Tm) (B nb : Nat) (hs : a.eval s = v) (hown : OwnT w B v h) (hl : h.length ≤ 200) (hB : B ≤ w.heap.size) (hx : a.eval x = .slice (some ⟨nb, 0, none⟩) 1 1) (t : Tm) (hb : Blk w nb (tmA t) 27)
    (k : ∀ ap cp w', OwnT w' B (.slice ap (h.length + 1) cp) (h ++ [t]) → Mod (fun k => v.ownBlock = some k) w w' → ((Value.slice ap (h.length + 1) cp).ownBlock = v.ownBlock ∨ (Value.slice ap (h.length + 1) cp).ownBlock = some w.heap.size) → wpList Try.prog ops Q rest (a.put op.dst (.slice ap (h.length + 1) cp)) w') : wpList Try.prog ops Q (op :: rest) a w := by
  obtain ⟨ap, cp, w', hr, h1, h2, h3⟩ := OwnT.append hown hl hB hb op.type
  refine wpList_plain hg fun K hK => ?_
  unfold Oper.wp
  rw [exec_append (s := s) (x := x) ho hs hx hr]
  exact hK _ _ (k ap cp w' h1 ((Mod.refl (fun k => v.ownBlock = some k) _).grown h2 (fun k hk _ => hk)) h3)
theorem OwnT.tmv {w : World} {B : Nat} {v : Value} {h : List Tm} (ho : OwnT w B v h) : TmV w v h := Sl.ofOwn ho
theorem OwnT.still {w w' : World} {B : Nat} {v : Value} {h : List Tm} (ho : OwnT w B v h) (hM : Mod (fun _ => False) w w') : OwnT w' B v h := ho.kept hM (fun _ _ e => e)
theorem OwnT.lt {w : World} {B : Nat} {v : Value} {h : List Tm} (ho : OwnT w B v h) : ∀ g, v.ownBlock = some g → B ≤ g ∧ g < w.heap.size := fun g hg => World.ownsRow.lt ho g hg
end Go.Proofs.Ytodcadcapmhgfaa
