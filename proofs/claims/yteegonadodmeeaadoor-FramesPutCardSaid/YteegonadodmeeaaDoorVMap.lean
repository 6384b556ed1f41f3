/- A map of the call's own, keyed by ints, whose elements are whatever values: told by a plain function. -/
import Derived.Test.YteegonadodmeeaaDoorVarA
import Derived.Maps.OwnOps
import Derived.Maps.Views
namespace Go.Proofs.YteegonadodmeeaaDoor
open Go.RowKit Go.Maps

/-- Every value reads as itself. -/
def anyElem (v : Value) : Option (DataW Value × List MemPlace) := some (.held v, [])
theorem lawInt : Keyed Tryd.prog 3 := int_keyed Tryd.underlying3
def okKey (z : Int) : Prop := (Lit.int .i64 z).wf = true
theorem okKey_key {z : Int} (h : okKey z) : keyOf Tryd.prog 3 (.int .i64 z) = some (.int .i64 z) := keyOf_int_mk Tryd.underlying3 h
def VMap (w : World) (mb n : Nat) (f : Int → Option Value) : Prop :=
  ∃ D : DataW Value, w.ownsMap Tryd.prog 3 anyElem mb n D ∧ IsMap D ∧ ∀ z, okKey z → (∀ d, D.atKey (.int .i64 z) (.held d) = .held ((f z).getD d)) ∧ has D (.int .i64 z) = (f z).isSome
theorem VMap.made (w : World) : VMap (w.alloc (.map #[] 0)) w.heap.size 0 (fun _ => none) := ⟨.map [], World.ownsMap_made w _ _ _, ⟨[], rfl⟩, fun _ _ => ⟨fun _ => rfl, rfl⟩⟩
theorem VMap.kept {S : Nat → Prop} {w w' : World} {mb n : Nat} {f : Int → Option Value} (h : VMap w mb n f) (hM : Mod S w w') (hS : ¬ S mb) : VMap w' mb n f := by
  obtain ⟨D, ⟨es, clock, hb, F, hn, hD⟩, h2, h3⟩ := h
  exact ⟨D, ⟨es, clock, (hM.block mb (Array.getElem?_eq_some_iff.1 hb).1 hS).trans hb, F, hn, hD⟩, h2, h3⟩
theorem VMap.lt {w : World} {mb n : Nat} {f : Int → Option Value} (h : VMap w mb n f) : mb < w.heap.size := by
  obtain ⟨D, h1, _⟩ := h; exact h1.lt
theorem VMap.ne {w : World} {mb n b : Nat} {f : Int → Option Value} {C : Array Value} {T : TypeId} (h : VMap w mb n f) (hb : Blk w b C T) : mb ≠ b := by
  obtain ⟨D, ⟨es, clock, h1, _⟩, _⟩ := h
  rintro rfl
  unfold Blk at hb
  rw [h1] at hb
  simp at hb
theorem VMap.look {t e : TypeId} {w : World} {mb n : Nat} {z : Int} {f : Int → Option Value} {zv : Value} (h : VMap w mb n f) (hz : okKey z) (ht : Tryd.prog.underlying t = some (.map 3 e)) (h0 : (zeroValue e).run Tryd.prog w = .ok zv w) :
    (Instr.lookup t (.map (some mb)) (.int .i64 z) false).run Tryd.prog w = .ok ((f z).getD zv) w := by
  obtain ⟨D, h1, h2, h3⟩ := h
  obtain ⟨v, ps, hr, hv⟩ := h1.lookup lawInt ht h0 (zd := .held zv) (zp := []) rfl (okKey_key hz)
  rw [(h3 z hz).1 zv] at hv
  simp only [anyElem, Option.some.injEq, Prod.mk.injEq, DataW.held.injEq] at hv
  rw [hr, hv.1]
theorem VMap.put {t e : TypeId} {w : World} {mb n : Nat} {z : Int} {f : Int → Option Value} (v : Value) (h : VMap w mb n f) (hz : okKey z) (hn : n < maxLen) (ht : Tryd.prog.underlying t = some (.map 3 e)) :
    ∃ w', (Instr.mapUpdate t (.map (some mb)) (.int .i64 z) v).run Tryd.prog w = .ok () w' ∧ VMap w' mb (n + 1) (fun y => if y = z then some v else f y) ∧ Mod (fun k => k = mb) w w' := by
  obtain ⟨D, h1, h2, h3⟩ := h
  obtain ⟨w', hr, ho, hg⟩ := h1.update lawInt ht hn (okKey_key hz) (val := v) (d := .held v) (ps := []) rfl
  refine ⟨w', hr, ⟨_, ho, IsMap.put h2 _ _, fun y hy => ?_⟩, (Mod.refl (fun k => k = mb) w).grown hg (fun k hk _ => (Option.some.inj hk).symm)⟩
  by_cases he : y = z
  · subst he
    refine ⟨fun d => ?_, ?_⟩
    · rw [atKey_put_same h2 (lawInt.key (okKey_key hz))]; simp
    · rw [has_put_same h2 (lawInt.key (okKey_key hz))]; simp
  · have hne : Lit.int .i64 y ≠ Lit.int .i64 z := by simpa using he
    refine ⟨fun d => ?_, ?_⟩
    · rw [atKey_put_other hne, (h3 y hy).1 d]; simp [he]
    · rw [has_put_other hne, (h3 y hy).2]; simp [he]
/-- A store, at the operation. -/
theorem wpList_mapUpdate_v {t e : TypeId} {w : World} {ops : Array Oper} {rest : List Oper} {o : Oper} {a : Act} {Q : Exit → Act → World → Prop} (hg : o.guard = none) (m x v : Operand) (hop : o.op = Op.mapUpdate t m x v) (ht : Tryd.prog.underlying t = some (.map 3 e))
    {mb n : Nat} {f : Int → Option Value} {z : Int} {val : Value} (hm : a.eval m = .map (some mb)) (h : VMap w mb n f) (hn : n < maxLen) (hx : a.eval x = .int .i64 z) (hz : okKey z) (hv : a.eval v = val)
    (hK : ∀ w', VMap w' mb (n + 1) (fun y => if y = z then some val else f y) → Mod (fun k => k = mb) w w' → wpList Tryd.prog ops Q rest (a.put o.dst undef) w') : wpList Tryd.prog ops Q (o :: rest) a w := by
  obtain ⟨w', hr, h1, h2⟩ := h.put val hz hn ht
  refine wpList_plain hg fun K' hK' => ?_
  unfold Oper.wp
  simp [execOp, hop, hm, hx, hv, hr, Result.andThen]
  exact hK' _ _ (hK w' h1 h2)
/-- A literal's entry, at the operation. -/
theorem wpList_insert_v {t e : TypeId} {w : World} {ops : Array Oper} {rest : List Oper} {o : Oper} {a : Act} {Q : Exit → Act → World → Prop} (hg : o.guard = none) (m x v : Operand) (hop : o.op = Op.insert t m x v) (ht : Tryd.prog.underlying t = some (.map 3 e))
    {mb n : Nat} {f : Int → Option Value} {z : Int} {val : Value} (hm : a.eval m = .map (some mb)) (h : VMap w mb n f) (hn : n < maxLen) (hx : a.eval x = .int .i64 z) (hz : okKey z) (hv : a.eval v = val)
    (hK : ∀ w', VMap w' mb (n + 1) (fun y => if y = z then some val else f y) → Mod (fun k => k = mb) w w' → wpList Tryd.prog ops Q rest (a.put o.dst undef) w') : wpList Tryd.prog ops Q (o :: rest) a w := by
  obtain ⟨w', hr, h1, h2⟩ := h.put val hz hn ht
  refine wpList_plain hg fun K' hK' => ?_
  unfold Oper.wp
  simp [execOp, hop, hm, hx, hv, hr, Result.andThen]
  exact hK' _ _ (hK w' h1 h2)
end Go.Proofs.YteegonadodmeeaaDoor
