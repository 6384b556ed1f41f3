/- A map of the call's own, keyed by a struct of two ints, whose elements are ints: told by a plain function. -/
import Derived.Test.YtodcadcapmhgfaaPaS
import Derived.Test.YtodcadcapmhgfaaProg
import Derived.Maps.OwnOps
import Derived.Maps.OwnSet
import Derived.Maps.Views
import Derived.DeepKeys4
namespace Go.Proofs.Ytodcadcapmhgfaa
open Go.RowKit Go.Maps

/-- Every value reads as itself. -/
def anyElem (v : Value) : Option (DataW Value × List MemPlace) := some (.held v, [])
def okInt (z : Int) : Prop := (Lit.int .i64 z).wf = true
/-- A key. -/
def wK (p : Int × Int) : Value := .agg #[.int .i64 p.1, .int .i64 p.2]
def okK (p : Int × Int) : Prop := okInt p.1 ∧ okInt p.2
theorem Try.laidOutW : laidOutB Try.prog = true := by kernel_rfl
theorem lawW : Keyed Try.prog 55 := Keyed.of_law (deep_law_laid Try.laidOutW (m := 2) (by omega) (of_decide_eq_true (by kernel_rfl)) (by kernel_rfl) (by kernel_rfl))
theorem wK_inj {p q : Int × Int} (h : wK p = wK q) : p = q := by
  obtain ⟨a, b⟩ := p
  obtain ⟨c, d⟩ := q
  simp [wK] at h
  obtain ⟨rfl, rfl⟩ := h
  rfl
theorem okK_key {p : Int × Int} (h : okK p) : ∃ l, keyOf Try.prog 55 (wK p) = some l := by
  obtain ⟨c, k⟩ := p
  obtain ⟨hc, hk⟩ := h
  have h1 : Try.prog.keyType 55 = true := by kernel_rfl
  unfold keyOf
  rw [Try.underlying55]
  simp only [h1, Bool.true_and]
  have h2 : Value.formed Try.prog 55 (wK (c, k)) = true := by kernel_rfl
  have hi : ∀ (d : Nat) (n : Int), okInt n → Try.prog.keyLits (d + 1) 3 [.int .i64 n] = some [.int .i64 n] := by
    intro d n hn
    unfold Program.keyLits
    rw [Try.underlying3]
    exact if_pos ⟨rfl, hn⟩
  obtain ⟨d, hd⟩ : ∃ d, Try.prog.types.size + 1 = d + 2 := ⟨Try.prog.types.size - 1, by
    have : 0 < Try.prog.types.size := of_decide_eq_true (by kernel_rfl)
    omega⟩
  have z1 : Program.cellsOf Try.prog 3 = 1 := by kernel_rfl
  have z2 : Program.cellsOf Try.prog 55 = 2 := by kernel_rfl
  have h3 : Try.prog.keyLits (d + 2) 55 [.int .i64 c, .int .i64 k] = some [.int .i64 c, .int .i64 k] := by
    unfold Program.keyLits
    rw [Try.underlying55]
    simp [z1, z2, hi d c hc, hi d k hk]
  rw [if_pos h2, hd]
  have e : (wK (c, k)).cells.toList = [.int .i64 c, .int .i64 k] := rfl
  rw [e, h3]
  exact ⟨_, rfl⟩
def WMap (w : World) (mb n : Nat) (f : Int × Int → Option Value) : Prop :=
  ∃ D : DataW Value, w.ownsMap Try.prog 55 anyElem mb n D ∧ IsMap D ∧ ∀ p l, keyOf Try.prog 55 (wK p) = some l → (∀ d, D.atKey l (.held d) = .held ((f p).getD d)) ∧ has D l = (f p).isSome
theorem WMap.made (w : World) : WMap (w.alloc (.map #[] 0)) w.heap.size 0 (fun _ => none) := ⟨.map [], World.ownsMap_made w _ _ _, ⟨[], rfl⟩, fun _ _ _ => ⟨fun _ => rfl, rfl⟩⟩
theorem WMap.kept {S : Nat → Prop} {w w' : World} {mb n : Nat} {f : Int × Int → Option Value} (h : WMap w mb n f) (hM : Mod S w w') (hS : ¬ S mb) : WMap w' mb n f := by
  obtain ⟨D, ⟨es, clock, hb, F, hn, hD⟩, h2, h3⟩ := h
  exact ⟨D, ⟨es, clock, (hM.block mb (Array.getElem?_eq_some_iff.1 hb).1 hS).trans hb, F, hn, hD⟩, h2, h3⟩
theorem WMap.lt {w : World} {mb n : Nat} {f : Int × Int → Option Value} (h : WMap w mb n f) : mb < w.heap.size := by
  obtain ⟨D, h1, _⟩ := h; exact h1.lt
theorem WMap.ne {w : World} {mb n b : Nat} {f : Int × Int → Option Value} {C : Array Value} {T : TypeId} (h : WMap w mb n f) (hb : Blk w b C T) : mb ≠ b := by
  obtain ⟨D, ⟨es, clock, h1, _⟩, _⟩ := h
  rintro rfl
  unfold Blk at hb
  rw [h1] at hb
  simp at hb
theorem WMap.put {t e : TypeId} {w : World} {mb n : Nat} {p : Int × Int} {f : Int × Int → Option Value} (v : Value) (h : WMap w mb n f) (hz : okK p) (hn : n < maxLen) (ht : Try.prog.underlying t = some (.map 55 e)) :
    ∃ w', (Instr.mapUpdate t (.map (some mb)) (wK p) v).run Try.prog w = .ok () w' ∧ WMap w' mb (n + 1) (fun y => if y = p then some v else f y) ∧ Mod (fun k => k = mb) w w' := by
  obtain ⟨D, h1, h2, h3⟩ := h
  obtain ⟨lz, hlz⟩ := okK_key hz
  obtain ⟨w', hr, ho, hg⟩ := h1.update lawW ht hn hlz (val := v) (d := .held v) (ps := []) rfl
  refine ⟨w', hr, ⟨_, ho, IsMap.put h2 _ _, fun y l hy => ?_⟩, (Mod.refl (fun k => k = mb) w).grown hg (fun k hk _ => (Option.some.inj hk).symm)⟩
  by_cases he : y = p
  · subst he
    rw [hlz] at hy
    cases hy
    refine ⟨fun d => ?_, ?_⟩
    · rw [atKey_put_same h2 (lawW.key hlz)]; simp
    · rw [has_put_same h2 (lawW.key hlz)]; simp
  · have hne : l ≠ lz := fun e2 => he (wK_inj (lawW.inj (e2 ▸ hy) hlz))
    refine ⟨fun d => ?_, ?_⟩
    · rw [atKey_put_other hne, (h3 y l hy).1 d]; simp [he]
    · rw [has_put_other hne, (h3 y l hy).2]; simp [he]
theorem WMap.look {t e : TypeId} {w : World} {mb n : Nat} {p : Int × Int} {f : Int × Int → Option Value} {zv : Value} (h : WMap w mb n f) (hz : okK p) (ht : Try.prog.underlying t = some (.map 55 e)) (h0 : (zeroValue e).run Try.prog w = .ok zv w) :
    (Instr.lookup t (.map (some mb)) (wK p) true).run Try.prog w = .ok (.tuple #[(f p).getD zv, .bool (f p).isSome]) w := by
  obtain ⟨D, h1, h2, h3⟩ := h
  obtain ⟨l, hl⟩ := okK_key hz
  obtain ⟨v, ps, hr, hv⟩ := h1.look_ok lawW ht h0 (zd := .held zv) (zp := []) rfl hl
  rw [(h3 p l hl).1 zv] at hv
  simp only [anyElem, Option.some.injEq, Prod.mk.injEq, DataW.held.injEq] at hv
  rw [hr, hv.1, (h3 p l hl).2]
theorem WMap.del {t e : TypeId} {w : World} {mb n : Nat} {p : Int × Int} {f : Int × Int → Option Value} (h : WMap w mb n f) (hz : okK p) (ht : Try.prog.underlying t = some (.map 55 e)) (ty : TypeId) :
    ∃ w', (Builtin.delete_ #[t, 55] ty #[.map (some mb), wK p]).run Try.prog w = .ok (.tuple #[]) w' ∧ WMap w' mb n (fun y => if y = p then none else f y) ∧ Mod (fun k => k = mb) w w' := by
  obtain ⟨D, h1, h2, h3⟩ := h
  obtain ⟨lz, hlz⟩ := okK_key hz
  obtain ⟨w', hr, ho, hg⟩ := h1.drop lawW ht hlz ty
  refine ⟨w', hr, ⟨_, ho, IsMap.del h2 _, fun y l hy => ?_⟩, (Mod.refl (fun k => k = mb) w).grown hg.grown (fun k hk _ => (Option.some.inj hk).symm)⟩
  by_cases he : y = p
  · subst he
    rw [hlz] at hy
    cases hy
    refine ⟨fun d => ?_, ?_⟩
    · rw [atKey_del_same]; simp
    · rw [has_del_same]; simp
  · have hne : l ≠ lz := fun e2 => he (wK_inj (lawW.inj (e2 ▸ hy) hlz))
    refine ⟨fun d => ?_, ?_⟩
    · rw [atKey_del_other hne, (h3 y l hy).1 d]; simp [he]
    · rw [has_del_other hne, (h3 y l hy).2]; simp [he]
/-- A store, at the operation. -/
theorem wpList_wput {t e : TypeId} {w : World} {ops : Array Oper} {rest : List Oper} {o : Oper} {a : Act} {Q : Exit → Act → World → Prop} (hg : o.guard = none) (m x v : Operand) (hop : o.op = Op.mapUpdate t m x v) (ht : Try.prog.underlying t = some (.map 55 e))
    {mb n : Nat} {f : Int × Int → Option Value} {p : Int × Int} {val : Value} (hm : a.eval m = .map (some mb)) (h : WMap w mb n f) (hn : n < maxLen) (hx : a.eval x = wK p) (hz : okK p) (hv : a.eval v = val)
    (hK : ∀ w', WMap w' mb (n + 1) (fun y => if y = p then some val else f y) → Mod (fun k => k = mb) w w' → wpList Try.prog ops Q rest (a.put o.dst undef) w') : wpList Try.prog ops Q (o :: rest) a w := by
  obtain ⟨w', hr, h1, h2⟩ := h.put val hz hn ht
  refine wpList_plain hg fun K' hK' => ?_
  unfold Oper.wp
  simp [execOp, hop, hm, hx, hv, hr, Result.andThen]
  exact hK' _ _ (hK w' h1 h2)
/-- A look, at the operation. -/
theorem wpList_wlook {t e : TypeId} {w : World} {ops : Array Oper} {rest : List Oper} {o : Oper} {a : Act} {Q : Exit → Act → World → Prop} (hg : o.guard = none) (m x : Operand) (hop : o.op = Op.lookup t m x true) (ht : Try.prog.underlying t = some (.map 55 e))
    {mb n : Nat} {f : Int × Int → Option Value} {p : Int × Int} {zv : Value} (h0 : (zeroValue e).run Try.prog w = .ok zv w) (hm : a.eval m = .map (some mb)) (h : WMap w mb n f) (hx : a.eval x = wK p) (hz : okK p)
    (hK : wpList Try.prog ops Q rest (a.put o.dst (.tuple #[(f p).getD zv, .bool (f p).isSome])) w) : wpList Try.prog ops Q (o :: rest) a w := by
  have hr := h.look hz ht h0
  refine wpList_plain hg fun K' hK' => ?_
  unfold Oper.wp
  simp [execOp, hop, hm, hx, hr, Result.andThen]
  exact hK' _ _ hK
/-- A taking away, at the operation. -/
theorem wpList_wdel {t e : TypeId} {w : World} {ops : Array Oper} {rest : List Oper} {o : Oper} {a : Act} {Q : Exit → Act → World → Prop} (hg : o.guard = none) (m x : Operand) (hop : o.op = Op.call { callee := Callee.builtin Builtin.delete, args := #[m, x], argTypes := #[t, 55] }) (ht : Try.prog.underlying t = some (.map 55 e))
    {mb n : Nat} {f : Int × Int → Option Value} {p : Int × Int} (hm : a.eval m = .map (some mb)) (h : WMap w mb n f) (hx : a.eval x = wK p) (hz : okK p)
    (hK : ∀ w', WMap w' mb n (fun y => if y = p then none else f y) → Mod (fun k => k = mb) w w' → wpList Try.prog ops Q rest (a.put o.dst (.tuple #[])) w') : wpList Try.prog ops Q (o :: rest) a w := by
  obtain ⟨w', hr, h1, h2⟩ := h.del hz ht o.type
  refine wpList_plain hg fun K' hK' => ?_
  unfold Oper.wp
  simp [execOp, hop, resolve, invoke, builtin, hm, hx, hr, Result.andThen]
  exact hK' _ _ (hK w' h1 h2)
end Go.Proofs.Ytodcadcapmhgfaa
