/- Plain words of the laws of timers: what is due, one behind the other. No program in sight. -/
import Derived.Test.YtodcadcapmhgfaaTeP
namespace Go.Proofs.Ytodcadcapmhgfaa
open Go.RowKit

theorem wpList_load_tm {ops : Array Oper} {rest : List Oper} {op : Oper} {a : Act} {w : World} {Q : Exit → Act → World → Prop} (hgd : op.guard = none) (x : Operand) (ho : op.op = .load 27 x) (b o : Nat) (hx : a.eval x = .pointer (some ⟨b, o, none⟩)) (t : Tm) (hc : w.rangeAt b o (tmL t))
    (h : wpList Try.prog ops Q rest (a.put op.dst (.agg (tmA t))) w) : wpList Try.prog ops Q (op :: rest) a w :=
  wpList_load_mid hgd 27 x ho b o hx (tmL t) _ hc Try.underlying27 rfl (size_tmL t) h
theorem sorted_le : ∀ {L : List Tm}, SortedT L → ∀ (i j : Nat) (a b : Tm), L[i]? = some a → L[j]? = some b → i ≤ j → a.t ≤ b.t
  | [], _, i, j, a, b, h, _, _ => by simp at h
  | x :: L, hs, 0, 0, a, b, h1, h2, _ => by simp at h1 h2; subst h1; subst h2; exact Nat.le_refl _
  | x :: L, hs, 0, j + 1, a, b, h1, h2, _ => by
    simp at h1 h2
    subst h1
    have := hs.1 b (List.mem_of_getElem? h2)
    rw [ahd_iff] at this
    omega
  | x :: L, hs, i + 1, 0, a, b, _, _, h => by omega
  | x :: L, hs, i + 1, j + 1, a, b, h1, h2, h => sorted_le hs.2 i j a b (by simpa using h1) (by simpa using h2) (by omega)
theorem drop_cons {L : List Tm} {i : Nat} {x : Tm} (hx : L[i]? = some x) : L.drop i = x :: L.drop (i + 1) := by
  have hi := (List.getElem?_eq_some_iff.1 hx).1
  rw [List.drop_eq_getElem_cons hi, (List.getElem?_eq_some_iff.1 hx).2]
theorem due_drop {L : List Tm} {i now : Nat} {x : Tm} (hx : L[i]? = some x) (h : ¬ now < x.t) : dueT now (L.drop i) = (some x, L.drop (i + 1)) := by
  rw [drop_cons hx, due_cons, if_neg h]
theorem due_drop_no {L : List Tm} {i now : Nat} {x : Tm} (hx : L[i]? = some x) (h : now < x.t) : dueT now (L.drop i) = (none, L.drop i) := by
  rw [drop_cons hx, due_cons, if_pos h]
theorem due_end {L : List Tm} {i now : Nat} (h : L.length ≤ i) : dueT now (L.drop i) = (none, L.drop i) := by
  rw [List.drop_of_length_le h]
  rfl
end Go.Proofs.Ytodcadcapmhgfaa
