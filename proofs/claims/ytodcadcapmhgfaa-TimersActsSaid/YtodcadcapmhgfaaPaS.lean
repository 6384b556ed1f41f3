/- A whole struct, by value, out of and into a block that is known whole: no cell by cell. -/
import Derived.Test.YtodcadcapmhgfaaKit
import Derived.Deep.MidRow
import Derived.Deep.WholeRow
namespace Go.Proofs.Ytodcadcapmhgfaa
open Go.RowKit

theorem Blk.range {w : World} {b : Nat} {C : Array Value} {T : TypeId} (h : Blk w b C T) (o : Nat) (cs : List Value) (hc : ∀ j v, cs[j]? = some v → C[o + j]? = some v) : w.rangeAt b o cs := fun j v hv => (h.cell (o + j)).trans (hc j v hv)
theorem Blk.whole {w : World} {b : Nat} {C : Array Value} {T : TypeId} (h : Blk w b C T) : w.rangeAt b 0 C.toList := h.range 0 _ (fun j v hv => by rw [Nat.zero_add]; simpa using hv)
theorem blk_loadVar {P : Program} {w : World} {b : Nat} {C : Array Value} {T ty : TypeId} {d : TypeDesc} (h : Blk w b C T) (hu : P.underlying ty = some d) (hd : d.isRow = true) (hi : (P.info? ty).map (·.size) = some C.size) :
    (loadVar ty ⟨b, 0, none⟩).run P w = .ok (.agg C) w := run_loadVar_mid w b 0 ty C.toList d h.whole hu hd hi
/-- The load of a whole struct. -/
theorem wpList_load_blk {P : Program} {ops : Array Oper} {rest : List Oper} {op : Oper} {a : Act} {w : World} {Q : Exit → Act → World → Prop} (hgd : op.guard = none) (ty : TypeId) (x : Operand) (ho : op.op = .load ty x)
    (b : Nat) (hx : a.eval x = .pointer (some ⟨b, 0, none⟩)) (C : Array Value) (T : TypeId) (d : TypeDesc) (h : Blk w b C T)
    (hu : P.underlying ty = some d) (hd : d.isRow = true) (hi : (P.info? ty).map (·.size) = some C.size)
    (k : wpList P ops Q rest (a.put op.dst (.agg C)) w) : wpList P ops Q (op :: rest) a w :=
  wpList_load_mid hgd ty x ho b 0 hx C.toList d h.whole hu hd hi k
theorem blk_setCells' {b : Nat} {T : TypeId} : ∀ (vs : List Value) (o : Nat) (w : World) (cs : Array Value), Blk w b cs T → o + vs.length ≤ cs.size → ∃ cs', Blk (w.setCells b o vs) b cs' T ∧ cs'.size = cs.size ∧ cs'.toList = cs.toList.take o ++ vs ++ cs.toList.drop (o + vs.length)
  | [], o, w, cs, h, _ => ⟨cs, h, rfl, by simp⟩
  | v :: vs, o, w, cs, h, hl => by
    simp only [List.length_cons] at hl ⊢
    obtain ⟨cs', h1, h2, h3⟩ := blk_setCells' vs (o + 1) (w.setCell ⟨b, o, none⟩ v) (cs.setIfInBounds o v) (h.set o v) (by rw [Array.size_setIfInBounds]; omega)
    refine ⟨cs', h1, by simpa using h2, ?_⟩
    rw [h3]
    have hlo : o < cs.toList.length := by simp; omega
    rw [Array.toList_setIfInBounds, List.take_add_one, List.getElem?_set_self hlo, List.take_set_of_le (Nat.le_refl _), List.drop_set_of_lt (by omega), show o + 1 + vs.length = o + (vs.length + 1) by omega]
    simp
theorem mod_setCells {a : World} {b : Nat} : ∀ (vs : List Value) (o : Nat) (w : World), Mod (fun k => k = b) a w → Mod (fun k => k = b) a (w.setCells b o vs)
  | [], _, _, h => h
  | v :: vs, o, _, h => mod_setCells vs (o + 1) _ (h.setCell (p := ⟨b, o, none⟩) (fun _ => rfl) v)
/-- The store of many cells. -/
theorem blk_store {P : Program} {w : World} {b : Nat} {C cells : Array Value} {T : TypeId} (o : Nat) (ty : TypeId) (h : Blk w b C T) (hi : (P.info? ty).map (·.size) = some cells.size) (hl : o + cells.size ≤ C.size) (h1 : ∀ v ∈ cells.toList, v.oneCell' = true) :
    ∃ w' C', (storeVar ty ⟨b, o, none⟩ (.agg cells)).run P w = .ok () w' ∧ Blk w' b C' T ∧ C'.size = C.size ∧ C'.toList = C.toList.take o ++ cells.toList ++ C.toList.drop (o + cells.size) ∧ Mod (fun k => k = b) w w' := by
  have ht : w.there b o cells.size := fun j hj => ⟨by rw [h.cell]; simp; omega, h.free _⟩
  obtain ⟨C', h2, h3, h4⟩ := blk_setCells' cells.toList o w C h (by simpa using hl)
  refine ⟨_, C', run_storeVar_mid w b o ty cells ht hi (Array.all_eq_true_iff_forall_mem.2 (fun v hv => h1 v (by simpa using hv))), h2, h3, by simpa using h4, mod_setCells _ _ _ (Mod.refl _ _)⟩
/-- The store of a whole struct. -/
theorem wpList_store_blk {P : Program} {ops : Array Oper} {rest : List Oper} {op : Oper} {a : Act} {w : World} {Q : Exit → Act → World → Prop} (hgd : op.guard = none) (ty : TypeId) (x y : Operand) (ho : op.op = .store ty x y)
    (b : Nat) (hx : a.eval x = .pointer (some ⟨b, 0, none⟩)) (C cells : Array Value) (hy : a.eval y = .agg cells) (T : TypeId) (h : Blk w b C T) (hi : (P.info? ty).map (·.size) = some cells.size) (hl : C.size = cells.size) (h1 : ∀ v ∈ cells.toList, v.oneCell' = true)
    (k : ∀ w', Blk w' b cells T → Mod (fun k => k = b) w w' → wpList P ops Q rest (a.put op.dst undef) w') : wpList P ops Q (op :: rest) a w := by
  obtain ⟨w', C', hr, hB, hs, he, hM⟩ := blk_store (P := P) 0 ty h hi (by omega) h1
  have e : C' = cells := by
    apply Array.toList_inj.1
    rw [he, List.drop_of_length_le (by simp; omega)]
    simp
  subst e
  refine wpList_plain hgd fun K hK => ?_
  unfold Oper.wp execOp
  simp only [ho, hx, hy, Instr.storeAt, Instr.sureAddr, Sem.run_bind, Sem.run_pure, Result.andThen_ok, hr]
  exact hK _ _ (k w' hB hM)
theorem results_cell {P : Program} {w : World} {fn : Func} {t : Tmp} {ty : TypeId} {b : Nat} {v : Value} (h : fn.results = #[.cell t ty]) (tmps : Array Value) (ha : tmps.getD t undef = .pointer (some ⟨b, 0, none⟩)) (hl : (loadVar ty ⟨b, 0, none⟩).run P w = .ok v w) :
    (results fn tmps).run P w = .ok v w := by
  have ha' : (tmps[t]?).getD undef = .pointer (some ⟨b, 0, none⟩) := by simpa using ha
  simp only [results, h]
  simp [ha', asAddr, hl]
theorem results_cell_tmp {P : Program} {w : World} {fn : Func} {t u : Tmp} {ty : TypeId} {b : Nat} {v : Value} (h : fn.results = #[.cell t ty, .tmp u]) (tmps : Array Value) (ha : tmps.getD t undef = .pointer (some ⟨b, 0, none⟩)) (hl : (loadVar ty ⟨b, 0, none⟩).run P w = .ok v w) :
    (results fn tmps).run P w = .ok (.tuple #[v, tmps.getD u undef]) w := by
  have ha' : (tmps[t]?).getD undef = .pointer (some ⟨b, 0, none⟩) := by simpa using ha
  simp only [results, h]
  simp [ha', asAddr, hl]
end Go.Proofs.Ytodcadcapmhgfaa
