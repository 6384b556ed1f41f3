/- All frames of bytes: the program's Parse. -/
import Derived.Test.YteegonadodmeeaaDoorGaZ
namespace Go.Proofs.YteegonadodmeeaaDoor
open Go.RowKit

theorem frL_one {w : World} {B : Nat} {f : Fr} {cs : List Value} (h : FrO w B f cs) : ∀ u ∈ cs, u.oneCell' = true := by
  obtain ⟨vd, vr, rfl, h2, h3, h4⟩ := h
  obtain ⟨da, dc, rfl, _⟩ := byts_val h2.byts
  obtain ⟨ra, rc, rfl, _⟩ := rg_val h3.rgv
  intro v hv
  simp only [frL, List.mem_append, List.mem_cons, List.not_mem_nil, or_false] at hv
  rcases hv with (rfl | rfl | rfl | rfl | rfl | rfl | rfl | rfl) | hv <;> try rfl
  exact bv_one _ _ hv
theorem fr_lit (w : World) {f : Fr} {vd vr : Value} (h : f.t.length = 16) : Sl (w.alloc (.cells (frC f vd vr) 27)) 24 (.slice (some ⟨w.heap.size, 0, none⟩) 1 1) 1 (frL f vd vr) := by
  have hb := Blk.new w (frC f vd vr) 27
  refine ⟨by simp [frL, h], some ⟨w.heap.size, 0, none⟩, 1, rfl, Nat.le_refl _, by decide, fun e => by simp at e, fun j u hu => ⟨w.heap.size, 0, rfl, ?_⟩⟩
  rw [Nat.zero_add]
  exact hb.cellAt j (by simpa [frC] using hu)
/-- A frame is appended to frames of the call's own. -/
theorem wpList_append_fr {w : World} {ops : Array Oper} {rest : List Oper} {o : Oper} {a : Act} {Q : Exit → Act → World → Prop} (hgd : o.guard = none) (s x : Operand)
    (ho : o.op = .call { callee := .builtin .append, args := #[s, x], argTypes := #[33, 33] })
    (v : Value) (l : List Fr) (B : Nat) (hs : a.eval s = v) (hown : OwnF w B v l)
    (sv : Value) (f : Fr) (cs : List Value) (hx : a.eval x = sv) (hsl : Sl w 24 sv 1 cs) (hf : FrO w B f cs) (n : Nat) (hln : l.length = n) (hn : n ≤ 100000) (hbase : B ≤ w.heap.size)
    (h : ∀ ap cp w', OwnF w' B (.slice ap (n + 1) cp) (l ++ [f]) → w.grownBy w' v.ownBlock → wpList Tryd.prog ops Q rest (a.put o.dst (.slice ap (n + 1) cp)) w') : wpList Tryd.prog ops Q (o :: rest) a w := by
  subst hln
  obtain ⟨css, h1, h2⟩ := hown
  obtain ⟨i0, hi, hz0, hz1, hz2⟩ := info_parts infoFr
  refine wpList_append_sl hgd s x 33 ho B 27 i0 _ 24 112 Tryd.underlying33 hi hz0 hz1 hz2 rfl (by decide) v l.length css.flatten hs h2 sv 1 cs hx hsl (frL_one hf) (by omega) (by decide) hbase ?_
  intro v' w' ho' hg
  have hM : Mod (fun j => v.ownBlock = some j) w w' := (Mod.refl (fun j => v.ownBlock = some j) _).grown hg (fun k hk _ => hk)
  have hS : ∀ b cs T, Blk w b cs T → T = 5 ∨ T = 44 → ¬ v.ownBlock = some b := fun b cs T hb hT e => by
    rcases h2.2 with ⟨rfl, _⟩ | ⟨g, cap, cur, rfl, _, hgg, _⟩
    · simp [Value.ownBlock] at e
    · simp [Value.ownBlock] at e; subst e
      exact Blk.ne hb (show Blk w g cur 27 from hgg) (by rcases hT with rfl | rfl <;> decide) rfl
  have ho2 : OwnF w' B v' (l ++ [f]) := ⟨css ++ [cs], (h1.kept hM hS).snoc (hf.kept hM hS), by simpa using ho'⟩
  obtain ⟨ap, cp, rfl, _⟩ := Sl.val (Sl.ofOwn ho')
  exact h ap cp w' ho2 hg
end Go.Proofs.YteegonadodmeeaaDoor
