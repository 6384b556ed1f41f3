/- Plain words of TimersLast: what counts last. No program in sight. -/
import Derived.Test.YtodcadcapmhgfaaTlA
namespace Go.Proofs.Ytodcadcapmhgfaa
open Go.RowKit

theorem want_app (a : Tm) : ∀ (l m : List Tm) (n : Nat), wantN a n (l ++ m) = wantN a (wantN a n l) m
  | [], _, _ => rfl
  | b :: l, m, n => by
    show wantN a _ (l ++ m) = wantN a (wantN a _ l) m
    exact want_app a l m _
theorem want_snoc (a : Tm) (l : List Tm) (t : Tm) (n : Nat) : wantN a n (l ++ [t]) = if keyT t = keyT a then t.t else wantN a n l := want_app a l [t] n
theorem want_at {l : List Tm} {i : Nat} {x : Tm} (hx : l[i]? = some x) (n : Nat) : wantN x n l = wantN x x.t (l.drop (i + 1)) := by
  have e : l = l.take i ++ x :: l.drop (i + 1) := by rw [← drop_cons hx, List.take_append_drop]
  rw [congrArg (wantN x n) e, want_app]
  show wantN x (if keyT x = keyT x then x.t else _) _ = _
  rw [if_pos rfl]
theorem want_step {l : List Tm} {i k : Nat} {x y : Tm} (hik : i + 1 ≤ k) (hy : l[k]? = some y) : wantN x x.t ((l.take (k + 1)).drop (i + 1)) = if keyT y = keyT x then y.t else wantN x x.t ((l.take k).drop (i + 1)) := by
  have hk := (List.getElem?_eq_some_iff.1 hy).1
  rw [List.take_add_one, hy, List.drop_append_of_le_length (by rw [List.length_take]; omega)]
  exact want_snoc x _ y _
theorem last_at {l : List Tm} {i : Nat} {x : Tm} (hok : ∀ t ∈ l, okTm t) (hl : l.length ≤ 150) (hx : l[i]? = some x) : atN x.c x.k (setAll l []) = wantN x x.t ((l.take l.length).drop (i + 1)) := by
  rw [at_setAll l x QL.nil (fun t ht => (hok t ht).1) (by simp; omega), List.take_length]
  exact want_at hx _
theorem set_true {x : Tm} {L : List Tm} (h : L.length < 200) : setT x L = (true, (setT x L).2) := by
  rw [← set_ok (t := x) h]
/-- A timer's cells. -/
def TmC (w : World) (b o : Nat) (x : Tm) : Prop := w.cell? ⟨b, o, none⟩ = some (.int .u64 (x.t : Int)) ∧ w.cell? ⟨b, o + 1, none⟩ = some (.int .i64 x.c) ∧ w.cell? ⟨b, o + 2, none⟩ = some (.int .i64 x.k)
theorem TmC.of {w : World} {b o : Nat} {x : Tm} (h : w.rangeAt b o (tmL x)) : TmC w b o x := ⟨by simpa using h 0 _ rfl, h 1 _ rfl, h 2 _ rfl⟩
end Go.Proofs.Ytodcadcapmhgfaa
