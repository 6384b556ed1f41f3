/- Comparison with no time at all, one more: at guarded operations, too. -/
import Derived.Test.YtodcadcapmhgfaaTlB
import Derived.BigFrame
import Derived.IntWalk
namespace Go.Proofs.Ytodcadcapmhgfaa
open Go.RowKit

theorem never_eq (n : Nat) : neverB n = decide ((n : Int) = 18446744073709551615) := by
  unfold neverB
  rw [decide_eq_decide]
  unfold neverN
  omega
theorem exec_never {w : World} {a : Act} {op : Oper} {x : Operand} (hop : op.op = .binOp .eql 25 x (.const (.int .u64 18446744073709551615)) 25) {n : Nat} (hx : a.eval x = .int .u64 (n : Int)) : (execOp a.eval op).run Try.prog w = .ok (.value (.bool (neverB n))) w := by
  rw [never_eq]
  unfold execOp
  have ec : a.eval (.const (.int .u64 18446744073709551615)) = .int .u64 18446744073709551615 := rfl
  simp only [hop, hx, ec, Sem.run_bind, Sem.run_pure]
  simp [go_sem, BEq.beq]
theorem exec_nnever {w : World} {a : Act} {op : Oper} {x : Operand} (hop : op.op = .binOp .neq 25 x (.const (.int .u64 18446744073709551615)) 25) {n : Nat} (hx : a.eval x = .int .u64 (n : Int)) : (execOp a.eval op).run Try.prog w = .ok (.value (.bool (!neverB n))) w := by
  rw [never_eq]
  unfold execOp
  have ec : a.eval (.const (.int .u64 18446744073709551615)) = .int .u64 18446744073709551615 := rfl
  simp only [hop, hx, ec, Sem.run_bind, Sem.run_pure]
  simp [go_sem, BEq.beq, bne]
theorem wpList_never_g {ops : Array Oper} {rest : List Oper} {o : Oper} {a : Act} {w : World} {Q : Exit → Act → World → Prop} (x : Operand) (hop : o.op = .binOp .eql 25 x (.const (.int .u64 18446744073709551615)) 25) (hw : Region.wanted o (yielded ops a.tmps) = true) {n : Nat} (hx : a.eval x = .int .u64 (n : Int))
    (k : wpList Try.prog ops Q rest (a.put o.dst (.bool (neverB n))) w) : wpList Try.prog ops Q (o :: rest) a w := by
  refine BigFrame.wpList_want hw fun K hK => ?_
  unfold Oper.wp
  rw [exec_never hop hx]
  exact hK _ _ k
/-- One more than a time. -/
theorem wpList_add1 {ops : Array Oper} {rest : List Oper} {o : Oper} {a : Act} {w : World} {Q : Exit → Act → World → Prop} (x : Operand) (hop : o.op = .binOp .add 25 x (.const (.int .u64 1)) 25) (hw : Region.wanted o (yielded ops a.tmps) = true) {n n1 : Nat} (h1 : n1 = n + 1) (hn : n1 ≤ neverN) (hx : a.eval x = .int .u64 (n : Int))
    (k : wpList Try.prog ops Q rest (a.put o.dst (.int .u64 (n1 : Int))) w) : wpList Try.prog ops Q (o :: rest) a w := by
  refine BigFrame.wpList_want hw fun K hK => ?_
  have hr : (execOp a.eval o).run Try.prog w = .ok (.value (.int .u64 (n1 : Int))) w := by
    unfold execOp
    have ec : a.eval (.const (.int .u64 1)) = .int .u64 1 := rfl
    have e : IntKind.u64.wrap ((n : Int) + 1) = (n1 : Int) := by
      rw [show (n : Int) + 1 = (n1 : Int) by omega]
      exact IntWalk.u64_in _ (by unfold neverN at hn; omega)
    simp only [hop, hx, ec, Sem.run_bind, Sem.run_pure]
    simp [go_sem, e]
  unfold Oper.wp
  rw [hr]
  exact hK _ _ k
theorem wrap_1 {n n1 : Nat} (h1 : n1 = n + 1) (hn : n1 ≤ neverN) : IntKind.u64.wrap ((n : Int) + 1) = (n1 : Int) := by
  rw [show (n : Int) + 1 = (n1 : Int) by omega]
  exact IntWalk.u64_in _ (by unfold neverN at hn; omega)
theorem wpList_load_gt {ops : Array Oper} {rest : List Oper} {op : Oper} {a : Act} {w : World} {Q : Exit → Act → World → Prop} (x : Operand) (ho : op.op = .load 27 x) (hw : Region.wanted op (yielded ops a.tmps) = true) (b o : Nat) (hx : a.eval x = .pointer (some ⟨b, o, none⟩)) (t : Tm) (hc : w.rangeAt b o (tmL t))
    (k : wpList Try.prog ops Q rest (a.put op.dst (.agg (tmA t))) w) : wpList Try.prog ops Q (op :: rest) a w := by
  refine BigFrame.wpList_want hw fun K hK => ?_
  unfold Oper.wp
  rw [exec_load' ho hx (tm_load hc)]
  exact hK _ _ k
theorem set_neverT {t : Tm} {L : List Tm} (h : t.t = neverN) : setT t L = (true, (setT t L).2) := by
  unfold setT
  rw [if_pos h]
theorem tail_no {a : Tm} {L : List Tm} (h : QL (a :: L)) : ∀ b ∈ L, keyT b ≠ (a.c, a.k) := by
  intro b hb e
  have hab := h.u b (by simp [hb]) a (by simp) (by rw [e]; rfl)
  subst hab
  have := h.s.1 b hb
  rw [ahd_irrefl] at this
  cases this
theorem set_len1 {t : Tm} {L : List Tm} (ht : t.t ≠ neverN) (hn : ∀ b ∈ L, keyT b ≠ (t.c, t.k)) (hl : L.length < 200) : (setT t L).2.length = L.length + 1 := by
  unfold setT
  rw [if_neg ht, if_neg (by omega)]
  have := (insT_perm t (delT t.c t.k L)).length_eq
  rw [this, delT_none hn]
  rfl
end Go.Proofs.Ytodcadcapmhgfaa
