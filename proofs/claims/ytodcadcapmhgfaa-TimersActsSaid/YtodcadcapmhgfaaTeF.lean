/- A timer finds its place: the program's; what is left of a queue when a place is cut off. -/
import Derived.Test.YtodcadcapmhgfaaTeE
namespace Go.Proofs.Ytodcadcapmhgfaa
open Go.RowKit

theorem HS.trans {w0 w1 w2 : World} {B qb mb n1 n2 : Nat} {v : Value} {h0 h1 h2 : List Tm} {f1 f2 : Int × Int → Option Value} (a : HS w0 w1 B qb v mb n1 h0 h1 f1) (b : HS w1 w2 B qb v mb n2 h1 h2 f2) : HS w0 w2 B qb v mb n2 h0 h2 f2 :=
  ⟨b.q, b.perm.trans a.perm, b.cons, a.mod.trans b.mod⟩
theorem OkAll.perm {h h' : List Tm} (k : OkAll h) (hp : h'.Perm h) : OkAll h' := fun t ht => k t (hp.mem_iff.1 ht)
set_option maxHeartbeats 4000000 in
theorem settle_any {w : World} {B qb mb n i : Nat} {v : Value} {h : List Tm} {f : Int × Int → Option Value} (q : QM w B qb v mb n h f) (hc : Cons h f) (hi : i < h.length) (hl : h.length ≤ 200) (hx : HeapEx h i) (hn : n + 900 < maxLen) (hk : OkAll h) :
    Calls Try.prog 28 #[.pointer (some ⟨qb, 0, none⟩), .int .i64 i] w fun e w' => DownR w w' B qb v mb (n + 800) h e := by
  have HP : Hid (QM w B qb v mb n h f ∧ Cons h f ∧ i < h.length ∧ h.length ≤ 200 ∧ HeapEx h i ∧ n + 900 < maxLen ∧ OkAll h) := ⟨q, hc, hi, hl, hx, hn, hk⟩
  clear q hc hi hl hx hn hk
  go_enter Try.func28, Try.ntmps28
  go_wp2_with (first
    | (go_at_call 35; refine (up_any HP.out.1 HP.out.2.1 HP.out.2.2.1 HP.out.2.2.2.1 HP.out.2.2.2.2.1 (by have := HP.out.2.2.2.2.2.1; omega) HP.out.2.2.2.2.2.2).mono ?_; rintro e w1 ⟨n1, i1, h1, f1, rfl, hs1, hd1, hi1, hn1⟩; have HS1 := Lib.hid (And.intro hs1 (And.intro hd1 (And.intro hi1 hn1))); clear hs1 hd1 hi1 hn1)
    | (go_at_call 34; refine (down_any HS1.out.1.q HS1.out.1.cons HS1.out.2.2.1 (by have := HS1.out.1.perm.length_eq; have := HP.out.2.2.2.1; omega) HS1.out.2.1 (by have := HP.out; have := HS1.out.2.2.2; omega) (HP.out.2.2.2.2.2.2.perm HS1.out.1.perm)).mono ?_; rintro e w2 ⟨n2, h2, f2, rfl, hs2, hh2, hn2⟩; have HS2 := Lib.hid (And.intro hs2 (And.intro hh2 hn2)); clear hs2 hh2 hn2)
    | fail)
  go_end0
  exact ⟨n2, h2, f2, rfl, HS1.out.1.trans HS2.out.1, HS2.out.2.1, by have := HP.out; have := HS1.out; have := HS2.out.2.2; have := HS1.out.1.perm.length_eq; omega⟩

theorem take_at {h : List Tm} {m j : Nat} {a : Tm} (ha : (h.take m)[j]? = some a) : h[j]? = some a ∧ j < m := by
  have hj : j < (h.take m).length := (List.getElem?_eq_some_iff.1 ha).1
  have hm : j < m := by rw [List.length_take] at hj; omega
  rw [List.getElem?_take_of_lt hm] at ha
  exact ⟨ha, hm⟩
theorem Heap.take {h : List Tm} (hh : Heap h) (m : Nat) : Heap (h.take m) := fun j a b h0 ha hb => hh j a b h0 (take_at ha).1 (take_at hb).1
theorem HeapEx.take {h : List Tm} {i : Nat} (hh : HeapEx h i) (m : Nat) : HeapEx (h.take m) i :=
  ⟨fun j a b h0 hj hp ha hb => hh.1 j a b h0 hj hp (take_at ha).1 (take_at hb).1, fun j a b h0 hp hi ha hb => hh.2 j a b h0 hp hi (take_at ha).1 (take_at hb).1⟩
theorem swp_take {h : List Tm} {i : Nat} {a b : Tm} : (swp h i (h.length - 1) a b).take (h.length - 1) = (h.set i b).take (h.length - 1) := by
  unfold swp
  rw [List.take_set_of_le (Nat.le_refl _)]
def cutL (h : List Tm) (i : Nat) (a b : Tm) : List Tm := (swp h i (h.length - 1) a b).take (h.length - 1)
theorem cutL_len (h : List Tm) (i : Nat) (a b : Tm) : (cutL h i a b).length = h.length - 1 := by
  unfold cutL
  rw [List.length_take, swp_len]
  omega
theorem cutL_ex {h : List Tm} {i : Nat} {a b : Tm} (hh : Heap h) : HeapEx (cutL h i a b) i := by
  unfold cutL
  rw [swp_take]
  exact ((hh.ex i).set b).take _
theorem cutL_last {h : List Tm} {i : Nat} {a b : Tm} (hh : Heap h) (hi : i + 1 = h.length) : Heap (cutL h i a b) := by
  unfold cutL
  rw [swp_take, show h.length - 1 = i by omega, List.take_set_of_le (Nat.le_refl _)]
  exact hh.take _
theorem OwnT.take {w : World} {B g n cap : Nat} {h : List Tm} (ho : OwnT w B (.slice (some ⟨g, 0, none⟩) n cap) h) (m : Nat) (hm : m ≤ h.length) : OwnT w B (.slice (some ⟨g, 0, none⟩) m cap) (h.take m) := by
  have hl : (h.take m).length = m := by rw [List.length_take]; omega
  have e2 : h.flatMap tmL = (h.take m).flatMap tmL ++ (h.drop m).flatMap tmL := by rw [← List.flatMap_append, List.take_append_drop]
  have e3 : ((h.take m).flatMap tmL).length = m * 3 := by rw [tmL_len, hl]
  obtain ⟨hlen, ho2⟩ := ho
  refine ⟨by rw [tmL_len], ?_⟩
  rcases ho2 with ⟨h1, _⟩ | ⟨g', cap', cur, he, hb, hg, hc1, hc2, hs, ht⟩
  · cases h1
  · simp only [Value.slice.injEq, Option.some.injEq, Addr.mk.injEq, and_true] at he
    obtain ⟨rfl, hn, rfl⟩ := he
    refine .inr ⟨g, cap, cur, by rw [hl], hb, hg, by rw [hl]; omega, hc2, hs, ?_⟩
    rw [hl]
    have e4 : cur.toList.take (m * 3) = (cur.toList.take (h.length * 3)).take (m * 3) := by rw [List.take_take, Nat.min_eq_left (by omega)]
    rw [e4, ht, e2, List.take_left' e3]
def delK (f : Int × Int → Option Value) (p : Int × Int) : Int × Int → Option Value := fun y => if y = p then none else f y
theorem Cons.cut {h : List Tm} {f : Int × Int → Option Value} {a : Tm} (c : Cons h f) (ha : h[h.length - 1]? = some a) : Cons (h.take (h.length - 1)) (delK f (keyT a)) := by
  have hl := (List.getElem?_eq_some_iff.1 ha).1
  refine ⟨fun j t ht => ?_, fun p hp => ?_⟩
  · obtain ⟨ht2, hj⟩ := take_at ht
    unfold delK
    rw [if_neg (fun e => by have := c.uniq ht2 ha e; omega)]
    exact c.yes j t ht2
  · unfold delK
    split
    · rfl
    · rename_i hne
      refine c.no p (fun t ht e => ?_)
      obtain ⟨j, hj⟩ := List.getElem?_of_mem ht
      have hjl := (List.getElem?_eq_some_iff.1 hj).1
      by_cases he : j = h.length - 1
      · subst he
        rw [ha] at hj
        cases hj
        exact hne e.symm
      · exact hp t (List.mem_of_getElem? (show (h.take (h.length - 1))[j]? = some t by rw [List.getElem?_take_of_lt (by omega)]; exact hj)) e
theorem swp_last {h : List Tm} {i : Nat} {a b : Tm} (hi : i < h.length) : (swp h i (h.length - 1) a b)[(swp h i (h.length - 1) a b).length - 1]? = some a := by
  rw [swp_len]
  unfold swp
  rw [List.getElem?_set_self (by simp; omega)]
theorem exec_wdel {w w' : World} {a : Act} {op : Oper} {m x : Operand} {t : TypeId} {v : Value} (ho : op.op = Op.call { callee := Callee.builtin Builtin.delete, args := #[m, x], argTypes := #[t, 55] }) {mv k : Value} (hm : a.eval m = mv) (hx : a.eval x = k) (hr : (Builtin.delete_ #[t, 55] op.type #[mv, k]).run Try.prog w = .ok v w') : (execOp a.eval op).run Try.prog w = .ok (.value v) w' := by
  unfold execOp
  simp [ho, resolve, invoke, builtin, hm, hx, hr, Result.andThen]
/-- What a change of a queue may write. -/
def QB (qb : Nat) (v : Value) (mb : Nat) : Nat → Prop := fun k => k = qb ∨ v.ownBlock = some k ∨ k = mb
theorem QS.qb {qb mb : Nat} {v : Value} (k : Nat) (h : QS v mb k) : QB qb v mb k := h.elim (fun h => Or.inr (Or.inl h)) (fun h => Or.inr (Or.inr h))
end Go.Proofs.Ytodcadcapmhgfaa
