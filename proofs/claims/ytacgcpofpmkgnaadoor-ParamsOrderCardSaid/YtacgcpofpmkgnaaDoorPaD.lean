/- Comparison of tokens and of parameters, at the operation (guarded or not). -/
import Derived.Test.YtacgcpofpmkgnaaDoorPaS
import Derived.Test.YtacgcpofpmkgnaaDoorPaB
import Derived.Test.YtacgcpofpmkgnaaDoorVarB
import Derived.ChangeKeysEq
import Derived.Laws.StructEq
namespace Go.Proofs.YtacgcpofpmkgnaaDoor
open Go.RowKit

/-- A binary operation on two values, whose run is known; its guard, if any, says yes. -/
theorem wpList_eq_g {P : Program} {ops : Array Oper} {rest : List Oper} {op : Oper} {a : Act} {w : World} {Q : Exit → Act → World → Prop} (b : BinOp) (ty t' : TypeId) (x y : Operand) (ho : op.op = .binOp b ty x y t') (hw : Region.wanted op (yielded ops a.tmps) = true)
    (X Y : Array Value) (hx : a.eval x = .agg X) (hy : a.eval y = .agg Y) (hg : P.eqGuardType P.depth ty = false) (r : Bool) (hrun : (binOp b ty (.agg X) (.agg Y)).run P w = .ok (.bool r) w)
    (k : wpList P ops Q rest (a.put op.dst (.bool r)) w) : wpList P ops Q (op :: rest) a w := by
  refine BigFrame.wpList_want hw fun K hK => ?_
  unfold Oper.wp execOp
  simp only [ho, hx, hy, Sem.run_bind, run_eqGuard_agg (P := P) w b ty x y X Y hg, Result.andThen_ok, hrun, Sem.run_pure]
  exact hK _ _ k
theorem wpList_load_g {P : Program} {ops : Array Oper} {rest : List Oper} {op : Oper} {a : Act} {w : World} {Q : Exit → Act → World → Prop} (ty : TypeId) (x : Operand) (ho : op.op = .load ty x) (hw : Region.wanted op (yielded ops a.tmps) = true)
    (p v : Value) (hx : a.eval x = p) (hl : (Instr.loadAt ty p).run P w = .ok v w) (k : wpList P ops Q rest (a.put op.dst v) w) : wpList P ops Q (op :: rest) a w := by
  refine BigFrame.wpList_want hw fun K hK => ?_
  unfold Oper.wp execOp
  simp only [ho, hx, Sem.run_bind, hl, Result.andThen_ok, Sem.run_pure]
  exact hK _ _ k
theorem part8 (w : World) (t : List UInt8) (i : Nat) (x : UInt8) (h : t[i]? = some x) : (part 5 (t.map bv).toArray i).run Tryd.prog w = .ok (bv x) w := by
  simp [part, isAgg, run_underlying Tryd.underlying5, h]
theorem items8 (w : World) (d : Nat) (t t' : List UInt8) : ∀ is : List Nat, (∀ i ∈ is, i < t.length ∧ i < t'.length) →
    (Op.eqItems (d + 1) 5 1 (t.map bv).toArray (t'.map bv).toArray is).run Tryd.prog w = .ok (is.all fun i => t[i]? == t'[i]?) w
  | [], _ => by simp [Op.eqItems]
  | i :: is, h => by
    obtain ⟨h1, h2⟩ := h i (by simp)
    have ih := items8 w d t t' is (fun j hj => h j (by simp [hj]))
    have e1 : t[i]? = some t[i] := List.getElem?_eq_getElem h1
    have e2 : t'[i]? = some t'[i] := List.getElem?_eq_getElem h2
    have p1 := part8 w t i _ e1
    have p2 := part8 w t' i _ e2
    have q : (Op.equalIn (d + 1) 5 (bv t[i]) (bv t'[i])).run Tryd.prog w = .ok (t[i] == t'[i]) w := by
      unfold bv
      rw [run_equalIn_int w d 5 .u8 .u8 _ _ Tryd.underlying5]
      congr 1
      rw [Bool.eq_iff_iff]; simp only [beq_iff_eq]; rw [← UInt8.toNat_inj]; omega
    simp only [Op.eqItems, Sem.run_bind, Nat.mul_one, p1, p2, q, Result.andThen_ok, List.all_cons, e1, e2]
    cases hb : (t[i] == t'[i])
    · simp [hb]
    · simp [hb, ih]
theorem eqTok (w : World) (d : Nat) (t t' : List UInt8) (h : t.length = 16) (h' : t'.length = 16) :
    (Op.equalIn (d + 2) 23 (.agg (t.map bv).toArray) (.agg (t'.map bv).toArray)).run Tryd.prog w = .ok (decide (t = t')) w := by
  obtain ⟨i0, hi, _⟩ := info_parts Tryd.info5
  rw [Go.run_equalIn_array w (d + 1) _ _ Tryd.underlying23 hi, show Program.cellsOf Tryd.prog 5 = 1 by kernel_rfl, items8 w d t t' _ (fun i hi => by simp at hi; omega)]
  congr 1
  rw [Bool.eq_iff_iff]
  simp only [List.all_eq_true, List.mem_range, beq_iff_eq, decide_eq_true_eq]
  constructor
  · intro hh
    apply List.ext_getElem?
    intro i
    by_cases hi : i < 16
    · exact hh i hi
    · rw [List.getElem?_eq_none (by omega), List.getElem?_eq_none (by omega)]
  · rintro rfl _ _; rfl
theorem tok_bin (w : World) (t t' : List UInt8) (h : t.length = 16) (h' : t'.length = 16) :
    (binOp .eql 23 (.agg (t.map bv).toArray) (.agg (t'.map bv).toArray)).run Tryd.prog w = .ok (.bool (decide (t = t'))) w := by
  rw [run_eql_struct, show (10000 : Nat) = 9998 + 2 from rfl, eqTok w 9998 t t' h h']
  rfl
theorem tok_guard : Program.eqGuardType Tryd.prog (Program.depth Tryd.prog) 23 = false := by kernel_rfl
/-- The comparison of a token with the zero one. -/
def pmEq (p q : Pm) : Bool := p.i == q.i && p.d == q.d && p.s == q.s && p.n == q.n && p.h == q.h && decide (p.t = q.t)
theorem pmEq_iff (p q : Pm) : pmEq p q = true ↔ p = q := by
  obtain ⟨i, d, s, n, hh, t⟩ := p
  obtain ⟨i', d', s', n', hh', t'⟩ := q
  simp [pmEq, and_assoc]
theorem partN (w : World) (p : Pm) (i : Nat) (n : Nat) (h : (pmC p)[i]? = some (.int .u64 (n : Int))) : (part 22 (pmC p) i).run Tryd.prog w = .ok (.int .u64 (n : Int)) w := by
  simp [part, isAgg, run_underlying Tryd.underlying22, h]
theorem partH (w : World) (p : Pm) (b : Bool) (h : (pmC p)[4]? = some (.bool b)) : (part 4 (pmC p) 4).run Tryd.prog w = .ok (.bool b) w := by
  simp [part, isAgg, run_underlying Tryd.underlying4, h]
theorem pmC_ext (p : Pm) (h : p.t.length = 16) : (pmC p).extract 5 21 = (p.t.map bv).toArray := by
  apply Array.toList_inj.1
  simp [pmC, pmL]
  exact List.take_of_length_le (by simp [h])
theorem sizeOf23 (w : World) : (sizeOf 23).run Tryd.prog w = .ok 16 w := by kernel_rfl
theorem partT (w : World) (p : Pm) (h : p.t.length = 16) : (part 23 (pmC p) 5).run Tryd.prog w = .ok (.agg (p.t.map bv).toArray) w := by
  have e : (isAgg 23).run Tryd.prog w = .ok true w := by
    unfold isAgg
    rw [Sem.run_bind, run_underlying Tryd.underlying23 w]
    rfl
  simp only [part, Sem.run_bind, e, Result.andThen_ok, if_true, sizeOf23 w, Sem.run_pure, pmC_ext p h]
theorem fields25 : (Program.fieldsOf Tryd.prog 25).toList.map (fun f => (decide (f.name ≠ "_"), f.type, f.offset)) = [(true, 22, 0), (true, 22, 1), (true, 22, 2), (true, 22, 3), (true, 4, 4), (true, 23, 5)] := by kernel_rfl
theorem guard25 : Program.eqGuardType Tryd.prog (Program.depth Tryd.prog) 25 = false := by kernel_rfl
theorem under25 : Program.underlying Tryd.prog 25 = some (.struct (Program.fieldsOf Tryd.prog 25)) := by kernel_rfl
theorem stood25 : Program.stoodInHeld Tryd.prog 25 = false := by kernel_rfl
theorem six {α : Type} {β : Type} {l : List α} {f : α → β} {a b c d e g : β} (h : l.map f = [a, b, c, d, e, g]) : ∃ x0 x1 x2 x3 x4 x5, l = [x0, x1, x2, x3, x4, x5] ∧ f x0 = a ∧ f x1 = b ∧ f x2 = c ∧ f x3 = d ∧ f x4 = e ∧ f x5 = g := by
  match l, h with
  | [x0, x1, x2, x3, x4, x5], h => simp at h; exact ⟨x0, x1, x2, x3, x4, x5, rfl, h.1, h.2.1, h.2.2.1, h.2.2.2.1, h.2.2.2.2.1, h.2.2.2.2.2⟩
theorem eqInt (w : World) (d : Nat) (m n : Nat) : (Op.equalIn (d + 1) 22 (.int .u64 (m : Int)) (.int .u64 (n : Int))).run Tryd.prog w = .ok (m == n) w := by
  rw [run_equalIn_int w d 22 .u64 .u64 _ _ Tryd.underlying22]
  congr 1
  rw [Bool.eq_iff_iff]; simp only [beq_iff_eq]; omega
theorem eqFields_cons {P : Program} (w : World) (d : Nat) (xs ys : Array Value) (f : Field) (fs : List Field) (a b : Value) (r : Bool) (hn : decide (f.name ≠ "_") = true) (h1 : (part f.type xs f.offset).run P w = .ok a w) (h2 : (part f.type ys f.offset).run P w = .ok b w) (h3 : (Op.equalIn d f.type a b).run P w = .ok r w) (R : Bool) (h4 : (Op.eqFields d xs ys fs).run P w = .ok R w) :
    (Op.eqFields d xs ys (f :: fs)).run P w = .ok (r && R) w := by
  rw [Op.eqFields, if_pos (by simpa using hn)]
  simp only [Sem.run_bind, h1, h2, h3, Result.andThen_ok]
  cases r
  · simp
  · simp [h4]
theorem eqPm (w : World) (d : Nat) (p q : Pm) (hp : p.t.length = 16) (hq : q.t.length = 16) :
    (Op.equalIn (d + 3) 25 (.agg (pmC p)) (.agg (pmC q))).run Tryd.prog w = .ok (pmEq p q) w := by
  rw [run_equalIn_struct w (d + 2) 25 _ _ under25 stood25]
  obtain ⟨x0, x1, x2, x3, x4, x5, e, k0, k1, k2, k3, k4, k5⟩ := six fields25
  simp only [Prod.mk.injEq] at k0 k1 k2 k3 k4 k5
  obtain ⟨n0, t0, o0⟩ := k0
  obtain ⟨n1, t1, o1⟩ := k1
  obtain ⟨n2, t2, o2⟩ := k2
  obtain ⟨n3, t3, o3⟩ := k3
  obtain ⟨n4, t4, o4⟩ := k4
  obtain ⟨n5, t5, o5⟩ := k5
  rw [e]
  have s5 := eqFields_cons w (d + 2) (pmC p) (pmC q) x5 [] _ _ _ n5 (by rw [t5, o5]; exact partT w p hp) (by rw [t5, o5]; exact partT w q hq) (by rw [t5]; exact eqTok w d p.t q.t hp hq) true (by simp [Op.eqFields])
  have s4 := eqFields_cons w (d + 2) (pmC p) (pmC q) x4 [x5] _ _ _ n4 (by rw [t4, o4]; exact partH w p p.h rfl) (by rw [t4, o4]; exact partH w q q.h rfl) (by rw [t4]; exact run_equalIn_bool w (d + 1) 4 p.h q.h Tryd.underlying4) _ s5
  have s3 := eqFields_cons w (d + 2) (pmC p) (pmC q) x3 _ _ _ _ n3 (by rw [t3, o3]; exact partN w p 3 p.n rfl) (by rw [t3, o3]; exact partN w q 3 q.n rfl) (by rw [t3]; exact eqInt w (d + 1) p.n q.n) _ s4
  have s2 := eqFields_cons w (d + 2) (pmC p) (pmC q) x2 _ _ _ _ n2 (by rw [t2, o2]; exact partN w p 2 p.s rfl) (by rw [t2, o2]; exact partN w q 2 q.s rfl) (by rw [t2]; exact eqInt w (d + 1) p.s q.s) _ s3
  have s1 := eqFields_cons w (d + 2) (pmC p) (pmC q) x1 _ _ _ _ n1 (by rw [t1, o1]; exact partN w p 1 p.d rfl) (by rw [t1, o1]; exact partN w q 1 q.d rfl) (by rw [t1]; exact eqInt w (d + 1) p.d q.d) _ s2
  have s0 := eqFields_cons w (d + 2) (pmC p) (pmC q) x0 _ _ _ _ n0 (by rw [t0, o0]; exact partN w p 0 p.i rfl) (by rw [t0, o0]; exact partN w q 0 q.i rfl) (by rw [t0]; exact eqInt w (d + 1) p.i q.i) _ s1
  rw [s0]
  congr 1
  simp [pmEq, Bool.and_assoc]
theorem pm_eql (w : World) (p q : Pm) (hp : p.t.length = 16) (hq : q.t.length = 16) : (binOp .eql 25 (.agg (pmC p)) (.agg (pmC q))).run Tryd.prog w = .ok (.bool (pmEq p q)) w := by
  rw [run_eql_struct, show (10000 : Nat) = 9997 + 3 from rfl, eqPm w 9997 p q hp hq]
  rfl
theorem pm_neq (w : World) (p q : Pm) (hp : p.t.length = 16) (hq : q.t.length = 16) : (binOp .neq 25 (.agg (pmC p)) (.agg (pmC q))).run Tryd.prog w = .ok (.bool (!pmEq p q)) w := by
  rw [run_neq_struct, show (10000 : Nat) = 9997 + 3 from rfl, eqPm w 9997 p q hp hq]
  rfl
end Go.Proofs.YtacgcpofpmkgnaaDoor
