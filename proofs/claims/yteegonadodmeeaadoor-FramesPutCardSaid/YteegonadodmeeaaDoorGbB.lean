/- Frames of the call's own, one behind the other; the program's Parse. -/
import Derived.Test.YteegonadodmeeaaDoorGaY
import Derived.Great.BuildSlice
namespace Go.Proofs.YteegonadodmeeaaDoor
open Go.RowKit

/-- A frame's cells, whose slices are the call's own. -/
def FrO (w : World) (B : Nat) (f : Fr) (cs : List Value) : Prop := ∃ vd vr, cs = frL f vd vr ∧ OwnB w B vd f.d ∧ OwnR w B vr f.rs ∧ f.t.length = 16
theorem FrO.kept {S : Nat → Prop} {w w' : World} {B : Nat} {f : Fr} {cs : List Value} (h : FrO w B f cs) (hM : Mod S w w') (hS : ∀ b cs T, Blk w b cs T → T = 5 ∨ T = 44 → ¬ S b) : FrO w' B f cs := by
  obtain ⟨vd, vr, h1, h2, h3, h4⟩ := h
  refine ⟨vd, vr, h1, hM.own h2 (fun g hg e => ?_), h3.kept hM (fun g hg e => ?_), h4⟩
  · rcases h2.2 with ⟨rfl, _⟩ | ⟨g', cap, cur, rfl, _, hgg, _⟩
    · simp [Value.ownBlock] at hg
    · simp [Value.ownBlock] at hg; subst hg
      exact hS _ _ _ (show Blk w g' cur 5 from hgg) (.inl rfl) e
  · rcases h3.2 with ⟨rfl, _⟩ | ⟨g', cap, cur, rfl, _, hgg, _⟩
    · simp [Value.ownBlock] at hg
    · simp [Value.ownBlock] at hg; subst hg
      exact hS _ _ _ (show Blk w g' cur 44 from hgg) (.inr rfl) e
theorem FrO.nil {w w' : World} {B : Nat} {f : Fr} {cs : List Value} (h : FrO w B f cs) (hM : Mod (fun _ => False) w w') : FrO w' B f cs := h.kept hM (fun _ _ _ _ _ h => h)
theorem FrO.len {w : World} {B : Nat} {f : Fr} {cs : List Value} (h : FrO w B f cs) : cs.length = 24 := by
  obtain ⟨vd, vr, rfl, _, _, h4⟩ := h
  simp [frL, h4]
/-- Frames' cells. -/
def FrsO (w : World) (B : Nat) : List Fr → List (List Value) → Prop
  | [], css => css = []
  | f :: l, css => ∃ c cs, css = c :: cs ∧ FrO w B f c ∧ FrsO w B l cs
theorem FrsO.kept {S : Nat → Prop} {w w' : World} {B : Nat} (hM : Mod S w w') (hS : ∀ b cs T, Blk w b cs T → T = 5 ∨ T = 44 → ¬ S b) : ∀ {l : List Fr} {css : List (List Value)}, FrsO w B l css → FrsO w' B l css
  | [], _, h => h
  | _ :: _, _, ⟨c, cs, h1, h2, h3⟩ => ⟨c, cs, h1, h2.kept hM hS, h3.kept hM hS⟩
theorem FrsO.snoc {w : World} {B : Nat} : ∀ {l : List Fr} {css : List (List Value)} {f : Fr} {c : List Value}, FrsO w B l css → FrO w B f c → FrsO w B (l ++ [f]) (css ++ [c])
  | [], _, f, c, h, hc => by
    have : _ = [] := h
    subst this
    exact ⟨c, [], rfl, hc, rfl⟩
  | g :: l, _, f, c, ⟨d, cs, h1, h2, h3⟩, hc => by
    subst h1
    exact ⟨d, cs ++ [c], rfl, h2, h3.snoc hc⟩
theorem FrsO.len {w : World} {B : Nat} : ∀ {l : List Fr} {css : List (List Value)}, FrsO w B l css → css.length = l.length ∧ css.flatten.length = l.length * 24
  | [], _, h => by
    have : _ = [] := h
    subst this
    simp
  | f :: l, _, ⟨c, cs, h1, h2, h3⟩ => by
    subst h1
    obtain ⟨e1, e2⟩ := h3.len
    have h24 := h2.len
    rw [List.flatten_cons, List.length_append, List.length_cons, List.length_cons]
    omega
/-- The call's own frames. -/
def OwnF (w : World) (B : Nat) (v : Value) (l : List Fr) : Prop := ∃ css, FrsO w B l css ∧ w.ownsRow B 27 24 v l.length css.flatten
theorem infoFr : (Tryd.prog.info? 27).map (fun i => (i.zero, i.size, i.bytes)) = some (some (.agg frZ), 24, 112) := by kernel_rfl
end Go.Proofs.YteegonadodmeeaaDoor

namespace Go.Proofs.YteegonadodmeeaaDoor
open Go.RowKit

theorem frL_one {w : World} {B : Nat} {f : Fr} {cs : List Value} (h : FrO w B f cs) : ∀ u ∈ cs, u.oneCell' = true := by
  obtain ⟨vd, vr, rfl, h2, h3, h4⟩ := h
  obtain ⟨da, dc, rfl, _⟩ := byts_val h2.byts
  obtain ⟨ra, rc, rfl, _⟩ := rg_val h3.rgv
  intro v hv
  simp only [frL, List.mem_append, List.mem_cons, List.not_mem_nil, or_false] at hv
  rcases hv with (rfl | rfl | rfl | rfl | rfl | rfl | rfl | rfl) | hv <;> try rfl
  exact bv_one _ _ hv
theorem fr_lit (w : World) {f : Fr} {vd vr : Value} (h : f.t.length = 16) : Sl (w.alloc (.cells (frC f vd vr) 27)) 24 (.slice (some ⟨w.heap.size, 0, none⟩) 1 1) 1 (frL f vd vr) := by
  have hb := Blk.new w (frC f vd vr) 27
  refine ⟨by simp [frL, h], some ⟨w.heap.size, 0, none⟩, 1, rfl, Nat.le_refl _, by decide, fun e => by simp at e, fun j u hu => ⟨w.heap.size, 0, rfl, ?_⟩⟩
  rw [Nat.zero_add]
  exact hb.cellAt j (by simpa [frC] using hu)
/-- A frame is appended to frames of the call's own. -/
theorem wpList_append_fr {w : World} {ops : Array Oper} {rest : List Oper} {o : Oper} {a : Act} {Q : Exit → Act → World → Prop} (hgd : o.guard = none) (s x : Operand)
    (ho : o.op = .call { callee := .builtin .append, args := #[s, x], argTypes := #[33, 33] })
    (v : Value) (l : List Fr) (B : Nat) (hs : a.eval s = v) (hown : OwnF w B v l)
    (sv : Value) (f : Fr) (cs : List Value) (hx : a.eval x = sv) (hsl : Sl w 24 sv 1 cs) (hf : FrO w B f cs) (n : Nat) (hln : l.length = n) (hn : n ≤ 100000) (hbase : B ≤ w.heap.size)
    (h : ∀ ap cp w', OwnF w' B (.slice ap (n + 1) cp) (l ++ [f]) → w.grownBy w' v.ownBlock → wpList Tryd.prog ops Q rest (a.put o.dst (.slice ap (n + 1) cp)) w') : wpList Tryd.prog ops Q (o :: rest) a w := by
  subst hln
  obtain ⟨css, h1, h2⟩ := hown
  obtain ⟨i0, hi, hz0, hz1, hz2⟩ := info_parts infoFr
  refine wpList_append_sl hgd s x 33 ho B 27 i0 _ 24 112 Tryd.underlying33 hi hz0 hz1 hz2 rfl (by decide) v l.length css.flatten hs h2 sv 1 cs hx hsl (frL_one hf) (by omega) (by decide) hbase ?_
  intro v' w' ho' hg
  have hM : Mod (fun j => v.ownBlock = some j) w w' := (Mod.refl (fun j => v.ownBlock = some j) _).grown hg (fun k hk _ => hk)
  have hS : ∀ b cs T, Blk w b cs T → T = 5 ∨ T = 44 → ¬ v.ownBlock = some b := fun b cs T hb hT e => by
    rcases h2.2 with ⟨rfl, _⟩ | ⟨g, cap, cur, rfl, _, hgg, _⟩
    · simp [Value.ownBlock] at e
    · simp [Value.ownBlock] at e; subst e
      exact Blk.ne hb (show Blk w g cur 27 from hgg) (by rcases hT with rfl | rfl <;> decide) rfl
  have ho2 : OwnF w' B v' (l ++ [f]) := ⟨css ++ [cs], (h1.kept hM hS).snoc (hf.kept hM hS), by simpa using ho'⟩
  obtain ⟨ap, cp, rfl, _⟩ := Sl.val (Sl.ofOwn ho')
  exact h ap cp w' ho2 hg
end Go.Proofs.YteegonadodmeeaaDoor

namespace Go.Proofs.YteegonadodmeeaaDoor
open Go.RowKit

theorem OwnR.mono {w : World} {B B' : Nat} {v : Value} {l : List (Nat × Nat)} (h : OwnR w B v l) (hB : B' ≤ B) : OwnR w B' v l := by
  refine ⟨h.1, ?_⟩
  rcases h.2 with h' | ⟨g, cap, cur, h1, h2, h3⟩
  · exact .inl h'
  · exact .inr ⟨g, cap, cur, h1, Nat.le_trans hB h2, h3⟩
theorem OwnF.nil (w : World) (B : Nat) : OwnF w B (.slice none 0 0) [] := ⟨[], rfl, World.ownsRow_nil _ _ _ _⟩
theorem OwnF.kept {S : Nat → Prop} {w w' : World} {B : Nat} {v : Value} {l : List Fr} (h : OwnF w B v l) (hM : Mod S w w') (hS : ∀ b cs T, Blk w b cs T → T = 5 ∨ T = 44 → ¬ S b) (hv : ∀ g, v.ownBlock = some g → ¬ S g) : OwnF w' B v l := by
  obtain ⟨css, h1, h2⟩ := h
  exact ⟨css, h1.kept hM hS, hM.own h2 hv⟩
theorem OwnF.val {w : World} {B : Nat} {v : Value} {l : List Fr} (h : OwnF w B v l) : ∃ a cap, v = .slice a l.length cap ∧ l.length ≤ cap ∧ cap ≤ maxLen ∧ (a = none → cap = 0) := by
  obtain ⟨css, h1, h2⟩ := h
  exact Sl.val (Sl.ofOwn h2)
theorem OwnF.apart {w : World} {B b : Nat} {v : Value} {l : List Fr} {C : Array Value} {T : TypeId} (h : OwnF w B v l) (hb : Blk w b C T) (ht : T ≠ 27) : ¬ v.ownBlock = some b := by
  obtain ⟨css, _, h2⟩ := h
  intro e
  rcases h2.2 with ⟨rfl, _⟩ | ⟨g, cap, cur, rfl, _, hg, _⟩
  · simp [Value.ownBlock] at e
  · simp [Value.ownBlock] at e
    subst e
    exact Blk.ne hb (show Blk w g cur 27 from hg) ht rfl
theorem OwnF.lt {w : World} {B : Nat} {v : Value} {l : List Fr} (h : OwnF w B v l) : ∀ g, v.ownBlock = some g → B ≤ g ∧ g < w.heap.size := by
  obtain ⟨css, _, h2⟩ := h
  exact fun g hg => World.ownsRow.lt h2 g hg
theorem rdr_ne {w : World} {rb fb : Nat} {s : RS} {C : Array Value} {T : TypeId} (h : Rdr w rb s) (hf : Blk w fb C T) (ht : T ≠ 76) : ¬ fb = rb := by
  obtain ⟨_, a, cap, hb, _⟩ := h
  exact hf.ne hb ht
/-- The state of Parse. -/
structure PaS (w0 w : World) (rb : Nat) (v : Value) (l : List Fr) (s : RS) : Prop where
  rd : Rdr w rb s
  own : OwnF w w0.heap.size v l
  mod : Mod (fun _ => False) w0 w
  base : w0.heap.size ≤ rb
theorem PaS.step {w0 w w' : World} {rb : Nat} {v : Value} {l : List Fr} {s s' : RS} (h : PaS w0 w rb v l s) (hr : Rdr w' rb s') (hM : Mod (fun j => j = rb) w w') : PaS w0 w' rb v l s' := by
  obtain ⟨hrd, ho, hm, hb⟩ := h
  have hrd' := hrd
  obtain ⟨_, a, cap, hbk, _⟩ := hrd'
  exact ⟨hr, ho.kept hM (fun b cs T hB hT e => by subst e; exact Blk.ne hB hbk (by rcases hT with rfl | rfl <;> decide) rfl) (fun g hg e => ho.apart hbk (by decide) (by rw [hg, e])), hm.trans' hM (fun i hi e => by omega), hb⟩
theorem PaS.still {w0 w w' : World} {rb : Nat} {v : Value} {l : List Fr} {s : RS} (h : PaS w0 w rb v l s) (hM : Mod (fun _ => False) w w') : PaS w0 w' rb v l s :=
  ⟨h.rd.kept hM (fun _ _ h => h), h.own.kept hM (fun _ _ _ _ _ h => h) (fun _ _ h => h), h.mod.trans hM, h.base⟩
theorem PaS.put {w0 w w' : World} {rb fb : Nat} {v : Value} {l : List Fr} {s : RS} {C : Array Value} (h : PaS w0 w rb v l s) (hb : Blk w fb C 27) (hne : ∀ g, v.ownBlock = some g → g ≠ fb) (hM : Mod (fun j => j = fb) w w') (h0 : w0.heap.size ≤ fb) : PaS w0 w' rb v l s :=
  ⟨hM.rdr h.rd (fun e => rdr_ne h.rd hb (by decide) e.symm) (fun b cs hb' e => hb.ne hb' (by decide) e.symm), h.own.kept hM (fun b cs T hB hT e => by subst e; exact Blk.ne hB hb (by rcases hT with rfl | rfl <;> decide) rfl) (fun g hg e => hne g hg e), h.mod.trans' hM (fun i hi e => by omega), h.base⟩
theorem PaS.app {w0 w w' : World} {rb : Nat} {v v2 : Value} {l l2 : List Fr} {s : RS} (h : PaS w0 w rb v l s) (hg : w.grownBy w' v.ownBlock) (ho : OwnF w' w0.heap.size v2 l2) : PaS w0 w' rb v2 l2 s := by
  have hM : Mod (fun j => v.ownBlock = some j) w w' := (Mod.refl _ _).grown hg (fun k hk _ => hk)
  have hrd := h.rd
  obtain ⟨_, a, cap, hbk, _⟩ := hrd
  exact ⟨hM.rdr h.rd (h.own.apart hbk (by decide)) (fun b cs hb => h.own.apart hb (by decide)), ho, h.mod.trans' hM (fun i hi e => by have := (h.own.lt i e).1; omega), h.base⟩
theorem frV_of {w : World} {B : Nat} {f : Fr} {vd vr : Value} (hd : OwnB w B vd f.d) (hr : OwnR w B vr f.rs) (ht : f.t.length = 16) (B' : Nat) (hB : B' ≤ B) : FrO w B' f (frL f vd vr) := ⟨vd, vr, rfl, OwnB.mono hd hB, OwnR.mono hr hB, ht⟩
theorem frC_oneO {w : World} {B : Nat} {f : Fr} {vd vr : Value} (h : FrO w B f (frL f vd vr)) : ∀ v ∈ (frC f vd vr).toList, v.oneCell' = true := fun v hv => frL_one h v (by simpa [frC] using hv)
/-- A literal of a slice of one frame. -/
theorem wpList_build_fr {w : World} {ops : Array Oper} {rest : List Oper} {o : Oper} {a : Act} {Q : Exit → Act → World → Prop} (hgd : o.guard = none) (x : Operand)
    (ho : o.op = .buildSlice 33 1 #[(0, x)]) (f : Fr) (vd vr : Value) (h16 : f.t.length = 16) (hx : a.eval x = .agg (frC f vd vr))
    (h : wpList Tryd.prog ops Q rest (a.put o.dst (.slice (some ⟨w.heap.size, 0, none⟩) 1 1)) (w.alloc (.cells (frC f vd vr) 27))) : wpList Tryd.prog ops Q (o :: rest) a w := by
  obtain ⟨i0, hi, hz0, hz1, hz2⟩ := info_parts infoFr
  refine wpList_buildSlice hgd 33 27 1 #[(0, x)] ho (frC f vd vr) i0 _ Tryd.underlying33 hi hz0 (by rw [hz1]; decide) (by rw [hz1]; decide) ?_ h
  rw [hz1]
  have e := Go.Great.fill_whole (s := 24) (by decide) [Value.agg (frC f vd vr)] ((Array.range (1 * 24)).map ((Value.agg frZ).cells[· % (Value.agg frZ).cells.size]!)) (fun v hv => by
    have := List.mem_singleton.1 hv
    subst this
    exact frC_size f vd vr h16) (by rw [Array.size_map, Array.size_range]; rfl)
  have e2 : (#[(0, x)].map fun (p : Nat × Operand) => (p.1, a.eval p.2)).toList = (([Value.agg (frC f vd vr)].zipIdx 0).map fun x => (x.2, x.1)) := by
    simp [hx]
  refine Eq.trans (congrArg _ e2) (e.trans ?_)
  simp [Value.cells]
/-- All frames of bytes, at most 65 rounds. -/
def parse66 (b : List UInt8) : List Fr × Int := parseN 66 [] ⟨b, 0⟩
def lenOfV : Value → Nat
  | .slice _ n _ => n
  | _ => 0
theorem parse_nil {n : Nat} {acc : List Fr} {s : RS} (hs : s.l = []) : parseN n acc s = finL acc s := by
  cases n with
  | zero => rfl
  | succ n => show (if s.l = [] then _ else _) = _; rw [if_pos hs]
theorem parse_step {n : Nat} {acc : List Fr} {s s' : RS} {f : Fr} (hs : s.l ≠ []) (hf : nextF s = (f, s')) : parseN (n + 1) acc s = parseN n (acc ++ [f]) (mostL acc.length s') := by
  show (if s.l = [] then _ else _) = _
  rw [if_neg hs, hf]
theorem readGaps_le : ∀ (n : Nat) (out : List (Nat × Nat)) (lo : Nat) (s : RS), (readGaps n out lo s).2.l.length ≤ s.l.length
  | 0, _, _, s => Nat.le_refl _
  | n + 1, out, lo, s => by
    have h1 := int_le s
    have h2 := int_le s.int.2
    have h3 := fail_le s.int.2.int.2 3
    show (if _ then _ else _ : List (Nat × Nat) × RS).2.l.length ≤ _
    split
    · simp only; omega
    · have := readGaps_le n (out ++ [(lo - 2 - s.int.1 - s.int.2.int.1, lo - 2 - s.int.1)]) (lo - 2 - s.int.1 - s.int.2.int.1) s.int.2.int.2
      omega
theorem readN_le (t k : Nat) (f : Fr) (s : RS) : (readN t k f s).2.l.length ≤ s.l.length := by
  have i1 := int_le s
  have i2 := int_le s.int.2
  have i3 := int_le s.int.2.int.2
  have i4 := int_le s.int.2.int.2.int.2
  unfold readN
  split
  · simp
  · show (readAckL f s).2.l.length ≤ _
    unfold readAckL
    simp only
    have h3 := fail_le s.int.2.int.2.int.2.int.2 3
    split
    · simp only; omega
    · have := readGaps_le s.int.2.int.2.int.1 [(s.int.1 - s.int.2.int.2.int.2.int.1, s.int.1)] (s.int.1 - s.int.2.int.2.int.2.int.1) s.int.2.int.2.int.2.int.2
      simp only
      omega
  · simp only; omega
  · simp only; omega
  · have := (bytes_le2 s.int.2.int.2 s.int.2.int.1).2
    simp only; omega
  · have := (bytes_le2 s.int.2 s.int.1).2
    simp only; omega
  · show (readStreamL t f s).2.l.length ≤ _
    unfold readStreamL
    simp only
    have := bytes_le2 (if t / 2 % 2 = 1 then (if t / 4 % 2 = 1 then s.int.2.int else (0, s.int.2)).2.int else ((if t / 4 % 2 = 1 then s.int.2.int else (0, s.int.2)).2.l.length, (if t / 4 % 2 = 1 then s.int.2.int else (0, s.int.2)).2)).2 (if t / 2 % 2 = 1 then (if t / 4 % 2 = 1 then s.int.2.int else (0, s.int.2)).2.int else ((if t / 4 % 2 = 1 then s.int.2.int else (0, s.int.2)).2.l.length, (if t / 4 % 2 = 1 then s.int.2.int else (0, s.int.2)).2)).1
    refine Nat.le_trans this.2 ?_
    by_cases h4 : t / 4 % 2 = 1 <;> by_cases h2 : t / 2 % 2 = 1 <;> simp only [h4, h2, if_true, if_false] <;> omega
  · simp only; omega
  · simp only; omega
  · simp only; omega
  · simp only; omega
  · simp only; omega
  · simp only; omega
  · have h1 := (bytes_le2 s.int.2.int.2 1).2
    have h2 := (bytes_le2 s.int.2.int.2.byte.2 s.int.2.int.2.byte.1.toNat).2
    have h3 := (bytes_le2 (s.int.2.int.2.byte.2.bytes s.int.2.int.2.byte.1.toNat).2 16).2
    have e : s.int.2.int.2.byte.2 = (s.int.2.int.2.bytes 1).2 := rfl
    rw [← e] at h1
    simp only; omega
  · simp only; omega
  · exact (bytes_le2 s 8).2
  · exact (bytes_le2 s 8).2
  · simp only
    have h1 := (bytes_le2 s.int.2.int.2 s.int.2.int.1).2
    have h2 := (bytes_le2 s.int.2.int.2.int.2 s.int.2.int.2.int.1).2
    cases f.fl
    · simp only [Bool.false_eq_true, if_false]; omega
    · simp only [if_true]; omega
  · exact Nat.le_refl _
theorem three_le (t : Nat) (s : RS) : (three t s).l.length ≤ s.l.length := by
  have i1 := int_le s
  have i2 := int_le s.int.2
  have i3 := int_le s.int.2.int.2
  unfold three
  split <;> omega
theorem nextF_le (s : RS) : (nextF s).2.l.length ≤ s.l.length := by
  have i1 := int_le s
  have f1 := fail_le s.int.2 3
  unfold nextF
  split
  · simp only; omega
  · split
    · simp only; omega
    · have h1 := readN_le s.int.1 (knownL s.int.1).1.toNat (Fr.ofKind (knownL s.int.1).1 (knownL s.int.1).2) s.int.2
      have h2 := three_le s.int.1 (readN s.int.1 (knownL s.int.1).1.toNat (Fr.ofKind (knownL s.int.1).1 (knownL s.int.1).2) s.int.2).2
      have h3 := fail_le (three s.int.1 (readN s.int.1 (knownL s.int.1).1.toNat (Fr.ofKind (knownL s.int.1).1 (knownL s.int.1).2) s.int.2).2) 3
      unfold nextK
      split
      · simp only; omega
      · simp only; omega
set_option maxHeartbeats 8000000 in
set_option maxRecDepth 10000 in
theorem parse_any {w : World} {v : Value} {b : List UInt8} (hv : Byts w v b) (hl : (b.length : Int) ≤ 10000000) :
    Calls Tryd.prog 20 #[v] w fun e w' => ∃ v', e = .returned (.tuple #[v', .int .i64 (parse66 b).2]) ∧ OwnF w' w.heap.size v' (parse66 b).1 ∧ Mod (fun _ => False) w w' := by
  obtain ⟨R, hR⟩ : ∃ x, x = parse66 b := ⟨_, rfl⟩
  rw [← hR]
  have HRR0 : Hid (parseN (66 - 0) [] ⟨b, 0⟩ = R) := hR.symm
  have HV := Lib.hid (read_any hv (by omega))
  have HLB := Lib.hid hl
  obtain ⟨a, cap, rfl, _⟩ := byts_val hv
  clear hR hv hl
  generalize hbl : b.length = bl at *
  have HBL := Lib.hid hbl
  clear hbl
  go_enter Tryd.func20, Tryd.ntmps20
  go_wp2_with fail
  refine (HV.out).mono ?_
  rintro e w1 ⟨rb, rfl, hrb, hr, hM⟩
  have HS0 : Hid (PaS w w1 rb (.slice none 0 0) [] ⟨b, 0⟩) := ⟨hr, OwnF.nil _ _, hM, hrb⟩
  have HLE0 : Hid (((⟨b, 0⟩ : RS).l.length : Int) ≤ 10000000) := by show _ ≤ _; have := HLB.out; have := HBL.out; simp only; omega
  generalize (⟨b, 0⟩ : RS) = s0 at *
  clear hr hM hrb HV HLB HBL
  go_wp2
  go_loopw [5] (fun s5 wr => ∃ k ap cp, s5 = .slice ap k cp ∧ k ≤ 65 ∧ ∃ acc s, Hid (acc.length = k) ∧ Hid (k = 65 → s.l = []) ∧ Hid (PaS w wr rb (.slice ap k cp) acc s) ∧ Hid ((s.l.length : Int) ≤ 10000000) ∧ Hid (parseN (66 - k) acc s = R)) (fun s5 _ => 70 - lenOfV s5)
  case atStart => exact ⟨0, none, 0, rfl, by omega, [], s0, rfl, fun h => absurd h (by decide), HS0, HLE0, HRR0⟩
  case round =>
    clear HS0 HRR0 HLE0
    obtain ⟨k, ap, cp, rfl, hk, acc, s, HA, HE, HS, HLE, HRR⟩ := hrel
    have hleft := left_any HS.out.rd
    by_cases hs : s.l = []
    · have hl0 : ((s.l.length : Nat) : Int) = 0 := by simp [hs]
      rw [hl0] at hleft
      have HFIN : Hid (finL acc s = R) := by
        show _ = _
        rw [← HRR.out]
        exact (parse_nil hs).symm
      clear hl0 hs HRR HE
      by_cases hk0 : k = 0
      · subst hk0
        have HAN : Hid (acc = []) := List.eq_nil_of_length_eq_zero HA.out
        go_wp2_with (first | (go_at_call 33; refine (hleft).mono ?_; rintro e w' ⟨rfl, rfl⟩) | fail)
        refine (fail_any 3 HS.out.rd).mono ?_
        rintro e w2 ⟨rfl, hr2, hM2⟩
        have HS2 := Lib.hid (HS.out.step hr2 hM2)
        clear hr2 hM2
        have HF2 : Hid ((s.fail 3).e ≠ 0 ∧ R = ([], (s.fail 3).e)) := by
          show _ ∧ _
          have hne : (s.fail 3).e ≠ 0 := by
            unfold RS.fail
            split
            · exact (by decide : (3 : Int) ≠ 0)
            · next h => intro e; exact h ⟨e, by decide⟩
          refine ⟨hne, ?_⟩
          rw [← HFIN.out, HAN.out]
          unfold finL
          rw [if_pos (by simpa using hne)]
          simp
        have hb := bad_any HS2.out.rd
        have HNE := HF2.out.1
        have HRE := Lib.hid HF2.out.2
        generalize (s.fail 3).e = e5 at *
        have he1 : (e5 == 0) = false := by simpa using HNE
        go_wp2_with (first
          | (go_at_call 36; refine hb.mono ?_; rintro e w' ⟨rfl, rfl⟩)
          | fail)
        go_ret2
        rw [HRE.out]
        exact ⟨_, rfl, OwnF.nil _ _, HS2.out.mod⟩
      · have HAN : Hid (acc ≠ []) := by show _ ≠ _; intro e; exact hk0 (by rw [← HA.out, e]; rfl)
        have hb := bad_any HS.out.rd
        have hkz : (((k : Nat) : Int) == 0) = false := by simpa using hk0
        by_cases he : s.e = 0
        · rw [he] at hb
          have HF2 : Hid (R = (acc, 0)) := by
            show _ = _
            rw [← HFIN.out]
            unfold finL
            rw [if_neg HAN.out, if_neg (by simp [he])]
          clear he
          go_wp2_with (first
            | (go_at_call 33; refine (hleft).mono ?_; rintro e w' ⟨rfl, rfl⟩)
            | (go_at_call 36; refine hb.mono ?_; rintro e w' ⟨rfl, rfl⟩)
            | fail)
          go_ret2
          rw [HF2.out]
          exact ⟨_, rfl, HS.out.own, HS.out.mod⟩
        · have HF2 : Hid (R = ([], s.e)) := by
            show _ = _
            rw [← HFIN.out]
            unfold finL
            rw [if_neg HAN.out, if_pos (by simpa using he)]
          have he1 : (s.e == 0) = false := by simpa using he
          have HNE := Lib.hid he
          clear he
          generalize s.e = e5 at *
          go_wp2_with (first
            | (go_at_call 33; refine (hleft).mono ?_; rintro e w' ⟨rfl, rfl⟩)
            | (go_at_call 36; refine hb.mono ?_; rintro e w' ⟨rfl, rfl⟩)
            | fail)
          go_ret2
          rw [HF2.out]
          exact ⟨_, rfl, OwnF.nil _ _, HS.out.mod⟩
    · have hl1 : (0 : Int) < ((s.l.length : Nat) : Int) := by
        have : 0 < s.l.length := by cases h : s.l with | nil => exact absurd h hs | cons => simp
        omega
      have hl0 : decide ((0 : Int) < ((s.l.length : Nat) : Int)) = true := decide_eq_true hl1
      have hk64 : k ≤ 64 := by
        by_cases h : k = 65
        · exact absurd (HE.out h) hs
        · omega
      have HN := Lib.hid (next_any HS.out.rd HLE.out)
      obtain ⟨f, s1, h1⟩ : ∃ f s1, nextF s = (f, s1) := ⟨_, _, rfl⟩
      have HN1 := nextF_le s
      rw [h1] at HN HN1
      simp only at HN1
      have HSTEP : Hid (parseN (65 - k) (acc ++ [f]) (mostL k s1) = R) := by
        show _ = _
        rw [← HRR.out, show 66 - k = (65 - k) + 1 by omega, parse_step hs h1, HA.out]
      generalize hsl : (s.l.length : Int) = sl at *
      have HL1 : Hid ((s1.l.length : Int) ≤ 10000000) := by show _ ≤ _; have := HN1; have h2 := HLE.out; omega
      clear h1 hs hsl HRR HE
      go_wp2_with (first | (go_at_call 33; refine (hleft).mono ?_; rintro e w' ⟨rfl, rfl⟩) | fail)
      refine (HN.out).mono ?_
      rintro e w2 ⟨vd, vr, he, hd2, hr2, ht2, hr, hM2⟩
      obtain ⟨C, hC⟩ : ∃ C, C = frC f vd vr := ⟨_, rfl⟩
      have he2 : e = .returned (.agg C) := by rw [he, hC]; rfl
      subst he2
      clear he
      have HC := Lib.hid hC
      have HSZ : Hid ((Tryd.prog.info? 27).map (·.size) = some C.size) := by show _ = _; rw [hC]; exact sizeFr f vd vr ht2
      have HS24 : Hid (frZ.size = C.size) := by show _ = _; rw [hC]; exact (frC_size f vd vr ht2).symm
      have HONE : Hid (∀ v ∈ C.toList, v.oneCell' = true) := by show ∀ _ ∈ _, _; rw [hC]; exact frC_oneO (frV_of hd2 hr2 ht2 w.heap.size HS.out.mod.size)
      clear hC
      have HS2 := Lib.hid (HS.out.step hr hM2)
      have HFO := Lib.hid (frV_of hd2 hr2 ht2 w.heap.size HS.out.mod.size)
      have HT := Lib.hid ht2
      clear hd2 hr2 ht2 hr hM2 HS HN hleft hl0 hl1
      simp only at HS2 HFO HT
      by_cases hk4 : k = 64
      · subst hk4
        have hke : (((64 : Nat) : Int) == 64) = true := by decide
        go_wp2_with (first
          | ((with_reducible refine wpList_store_blk ?_ 27 (.tmp 6) (.tmp 14) ?_ w2.heap.size ?_ frZ C ?_ 27 (Blk.new w2 frZ 27) HSZ.out HS24.out HONE.out ?_); (· exact rfl); (· exact rfl); (· exact rfl); (· exact rfl); intro w9 hB9 hM9; have HB9 := Lib.hid hB9; have HS9 := Lib.hid ((HS2.out.still ((Mod.refl (fun _ => False) w2).alloc _)).put (Blk.new w2 frZ 27) (fun g hg => by have := (HS2.out.own.lt g hg).2; omega) hM9 HS2.out.mod.size); have HF9 := Lib.hid ((HFO.out.nil ((Mod.refl (fun _ => False) w2).alloc _)).kept hM9 (fun b cs T hB hT e => by subst e; exact Blk.ne hB (Blk.new w2 frZ 27) (by rcases hT with rfl | rfl <;> decide) rfl)); clear hB9 hM9 HFO HS2)
          | fail)
        refine (fail_any 3 HS9.out.rd).mono ?_
        rintro e w3 ⟨rfl, hr3, hM3⟩
        have HS3 := Lib.hid (HS9.out.step hr3 hM3)
        have HB3 : Hid (Blk w3 w2.heap.size C 27) := hM3.blk HB9.out (rdr_ne HS9.out.rd HB9.out (by decide))
        have HF3 := Lib.hid (HF9.out.kept hM3 (fun b cs T hB hT e => rdr_ne HS9.out.rd hB (by rcases hT with rfl | rfl <;> decide) e))
        have HNIL : Hid ((s1.fail 3).l = []) := by
          show _ = _
          by_cases h : s1.e = 0
          · simp [RS.fail, h]
          · have := HS9.out.rd.1 h
            simp [RS.fail, h, this]
        clear hr3 hM3 HS9 HB9 HF9
        go_wp2_with (first
          | ((with_reducible refine wpList_load_blk ?_ 27 (.tmp 6) ?_ w2.heap.size ?_ C 27 _ HB3.out Tryd.underlying27 rfl HSZ.out ?_); (· exact rfl); (· exact rfl); (· exact rfl))
          | ((with_reducible refine wpList_build_fr ?_ (.tmp 21) ?_ f vd vr HT.out ?_ ?_); (· exact rfl); (· exact rfl); (· exact congrArg _ HC.out))
          | ((with_reducible refine wpList_append_fr ?_ (.tmp 20) (.tmp 22) ?_ (.slice ap 64 cp) acc w.heap.size ?_ (HS3.out.still ((Mod.refl (fun _ => False) w3).alloc _)).own (.slice (some ⟨w3.heap.size, 0, none⟩) 1 1) f (frL f vd vr) ?_ (fr_lit w3 HT.out) (HF3.out.nil ((Mod.refl (fun _ => False) w3).alloc _)) 64 HA.out (by omega) (HS3.out.still ((Mod.refl (fun _ => False) w3).alloc _)).mod.size ?_); (· exact rfl); (· exact rfl); (· exact rfl); (· exact rfl); intro ap2 cp2 w10 ho hg; have HS10 := Lib.hid ((HS3.out.still ((Mod.refl (fun _ => False) w3).alloc _)).app hg ho); clear ho hg)
          | fail)
        go_roundw
        case rel => exact ⟨65, ap2, cp2, rfl, by omega, acc ++ [f], s1.fail 3, (by show _ = _; simp [HA.out]), (fun _ => HNIL.out), HS10, (by show _ ≤ _; rw [HNIL.out]; decide), (by show _ = _; exact HSTEP.out)⟩
        case measure => simp [lenOfV] <;> omega
      · have hke : (((k : Nat) : Int) == 64) = false := by simp; omega
        go_wp2_with (first
          | ((with_reducible refine wpList_store_blk ?_ 27 (.tmp 6) (.tmp 14) ?_ w2.heap.size ?_ frZ C ?_ 27 (Blk.new w2 frZ 27) HSZ.out HS24.out HONE.out ?_); (· exact rfl); (· exact rfl); (· exact rfl); (· exact rfl); intro w9 hB9 hM9; have HB9 := Lib.hid hB9; have HS9 := Lib.hid ((HS2.out.still ((Mod.refl (fun _ => False) w2).alloc _)).put (Blk.new w2 frZ 27) (fun g hg => by have := (HS2.out.own.lt g hg).2; omega) hM9 HS2.out.mod.size); have HF9 := Lib.hid ((HFO.out.nil ((Mod.refl (fun _ => False) w2).alloc _)).kept hM9 (fun b cs T hB hT e => by subst e; exact Blk.ne hB (Blk.new w2 frZ 27) (by rcases hT with rfl | rfl <;> decide) rfl)); clear hB9 hM9 HFO HS2)
          | ((with_reducible refine wpList_load_blk ?_ 27 (.tmp 6) ?_ w2.heap.size ?_ C 27 _ HB9.out Tryd.underlying27 rfl HSZ.out ?_); (· exact rfl); (· exact rfl); (· exact rfl))
          | ((with_reducible refine wpList_build_fr ?_ (.tmp 21) ?_ f vd vr HT.out ?_ ?_); (· exact rfl); (· exact rfl); (· exact congrArg _ HC.out))
          | ((with_reducible refine wpList_append_fr ?_ (.tmp 20) (.tmp 22) ?_ (.slice ap k cp) acc w.heap.size ?_ (HS9.out.still ((Mod.refl (fun _ => False) w9).alloc _)).own (.slice (some ⟨w9.heap.size, 0, none⟩) 1 1) f (frL f vd vr) ?_ (fr_lit w9 HT.out) (HF9.out.nil ((Mod.refl (fun _ => False) w9).alloc _)) k HA.out (by omega) (HS9.out.still ((Mod.refl (fun _ => False) w9).alloc _)).mod.size ?_); (· exact rfl); (· exact rfl); (· exact rfl); (· exact rfl); intro ap2 cp2 w10 ho hg; have HS10 := Lib.hid ((HS9.out.still ((Mod.refl (fun _ => False) w9).alloc _)).app hg ho); clear ho hg)
          | fail)
        rw [show mostL k s1 = s1 by unfold mostL; rw [if_neg hk4]] at HSTEP
        go_roundw
        case rel => exact ⟨k + 1, ap2, cp2, rfl, by omega, acc ++ [f], s1, (by show _ = _; simp [HA.out]), (fun e => by omega), HS10, HL1, (by show _ = _; rw [show 66 - (k + 1) = 65 - k by omega]; exact HSTEP.out)⟩
        case measure => simp [lenOfV] <;> omega
end Go.Proofs.YteegonadodmeeaaDoor
