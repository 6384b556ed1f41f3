/- Frames in memory: their cells, ranges; a literal of a struct, at the operation. -/
import Derived.Test.YteegonadodmeeaaDoorGaA
import Derived.Test.YteegonadodmeeaaDoorPaS
import Derived.Test.YteegonadodmeeaaDoorAppB
import Derived.Laws.Tables
import Derived.Laws.StructEq
import Derived.ChangeKeysEq
namespace Go.Proofs.YteegonadodmeeaaDoor
open Go.RowKit

def frL (f : Fr) (vd vr : Value) : List Value := [.int .i64 f.k, .int .u64 (f.id : Int), .int .u64 (f.a : Int), .int .u64 (f.b : Int), .int .u64 (f.c : Int), .bool f.fl, vd, vr] ++ f.t.map bv
def frC (f : Fr) (vd vr : Value) : Array Value := (frL f vd vr).toArray
def frV (f : Fr) (vd vr : Value) : Value := .agg (frC f vd vr)
def rgC (x : Nat × Nat) : List Value := [.int .u64 (x.1 : Int), .int .u64 (x.2 : Int)]
/-- Ranges in memory. -/
def RgV (w : World) (v : Value) (l : List (Nat × Nat)) : Prop := Sl w 2 v l.length (l.flatMap rgC)
theorem rgC_one (l : List (Nat × Nat)) : ∀ u ∈ l.flatMap rgC, u.oneCell' = true := by
  intro u hu
  obtain ⟨s, _, h⟩ := List.mem_flatMap.1 hu
  simp only [rgC, List.mem_cons, List.not_mem_nil, or_false] at h
  rcases h with rfl | rfl <;> rfl
theorem rgC_len (l : List (Nat × Nat)) : (l.flatMap rgC).length = l.length * 2 := by
  induction l with
  | nil => rfl
  | cons x m ih => rw [List.flatMap_cons, List.length_append, ih, List.length_cons]; simp [rgC]; omega
theorem rgC_at : ∀ (l : List (Nat × Nat)) (i : Nat) (s : Nat × Nat), l[i]? = some s → (l.flatMap rgC)[i * 2]? = some (.int .u64 (s.1 : Int)) ∧ (l.flatMap rgC)[i * 2 + 1]? = some (.int .u64 (s.2 : Int))
  | [], i, s, h => by simp at h
  | x :: l, 0, s, h => by simp at h; subst h; exact ⟨rfl, rfl⟩
  | x :: l, i + 1, s, h => by
    have := rgC_at l i s (by simpa using h)
    rw [List.flatMap_cons, show (i + 1) * 2 = i * 2 + 2 by omega]
    exact this
theorem rg_val {w : World} {v : Value} {l : List (Nat × Nat)} (h : RgV w v l) : ∃ a cap, v = .slice a l.length cap ∧ l.length ≤ cap ∧ cap ≤ maxLen ∧ (a = none → cap = 0) := Sl.val h
theorem rg_addr {w : World} {v : Value} {l : List (Nat × Nat)} (h : RgV w v l) (hx : l ≠ []) :
    ∃ b off cap, v = .slice (some ⟨b, off, none⟩) l.length cap ∧ l.length ≤ cap ∧ cap ≤ maxLen ∧ ∀ i s, l[i]? = some s → w.cell? ⟨b, off + i * 2, none⟩ = some (.int .u64 (s.1 : Int)) ∧ w.cell? ⟨b, off + i * 2 + 1, none⟩ = some (.int .u64 (s.2 : Int)) := by
  obtain ⟨b, off, cap, h1, h2, h3, h4⟩ := Sl.addr h (by
    cases l with
    | nil => exact absurd rfl hx
    | cons x l => simp [rgC])
  refine ⟨b, off, cap, h1, h2, h3, fun i s hs => ?_⟩
  obtain ⟨e1, e2⟩ := rgC_at l i s hs
  exact ⟨h4 _ _ e1, by rw [Nat.add_assoc]; exact h4 _ _ e2⟩
theorem RgV.kept {w w' : World} {v : Value} {l : List (Nat × Nat)} (h : RgV w v l) (hM : Mod (fun _ => False) w w') : RgV w' v l := Sl.kept h hM (fun _ _ h => h)
theorem RgV.nil (w : World) : RgV w (.slice none 0 0) [] := Sl.nil _ _
/-- A frame in memory: its slices read, its token has sixteen bytes. -/
structure FrV (w : World) (f : Fr) (vd vr : Value) : Prop where
  d : Byts w vd f.d
  r : RgV w vr f.rs
  t : f.t.length = 16
  dl : (f.d.length : Int) ≤ 140737488355328
  rl : (f.rs.length : Int) ≤ 140737488355328
theorem FrV.kept {w w' : World} {f : Fr} {vd vr : Value} (h : FrV w f vd vr) (hM : Mod (fun _ => False) w w') : FrV w' f vd vr := ⟨byts_kept h.d hM, h.r.kept hM, h.t, h.dl, h.rl⟩
theorem frC_size (f : Fr) (vd vr : Value) (h : f.t.length = 16) : (frC f vd vr).size = 24 := by simp [frC, frL, h]
theorem frC_one {w : World} {f : Fr} {vd vr : Value} (h : FrV w f vd vr) : ∀ v ∈ (frC f vd vr).toList, v.oneCell' = true := by
  obtain ⟨da, dc, rfl, _⟩ := byts_val h.d
  obtain ⟨ra, rc, rfl, _⟩ := rg_val h.r
  intro v hv
  simp only [frC, frL, List.mem_append, List.mem_cons, List.not_mem_nil, or_false] at hv
  rcases hv with (rfl | rfl | rfl | rfl | rfl | rfl | rfl | rfl) | hv <;> try rfl
  exact bv_one _ _ hv
theorem frC_tok (f : Fr) (vd vr : Value) (j : Nat) (x : UInt8) (h : f.t[j]? = some x) : (frC f vd vr)[8 + j]? = some (bv x) := by
  simp only [frC, frL, List.getElem?_toArray]
  rw [List.getElem?_append_right (by simp)]
  simp [h]
theorem sizeFr (f : Fr) (vd vr : Value) (h : f.t.length = 16) : (Tryd.prog.info? 27).map (·.size) = some (frC f vd vr).size := by rw [frC_size f vd vr h]; kernel_rfl
theorem sizeTk : (Tryd.prog.info? 25).map (·.size) = some 16 := by kernel_rfl
theorem sizeRg (a b : Value) : (Tryd.prog.info? 44).map (·.size) = some (#[a, b] : Array Value).size := by show _ = some 2; kernel_rfl
/-- A frame's block. -/
structure FrB (w : World) (b : Nat) (f : Fr) (vd vr : Value) : Prop where
  blk : Blk w b (frC f vd vr) 27
  len : f.t.length = 16
theorem FrB.new (w : World) (f : Fr) (vd vr : Value) (h : f.t.length = 16) : FrB (w.alloc (.cells (frC f vd vr) 27)) w.heap.size f vd vr := ⟨Blk.new _ _ _, h⟩
theorem FrB.kept {w w' : World} {b : Nat} {f : Fr} {vd vr : Value} (h : FrB w b f vd vr) (hM : Mod (fun _ => False) w w') : FrB w' b f vd vr := ⟨hM.blk h.blk (fun h => h), h.len⟩
theorem FrB.cells {w : World} {b : Nat} {f : Fr} {vd vr : Value} (h : FrB w b f vd vr) : w.cell? ⟨b, 0, none⟩ = some (.int .i64 f.k) ∧ w.cell? ⟨b, 1, none⟩ = some (.int .u64 (f.id : Int)) ∧ w.cell? ⟨b, 2, none⟩ = some (.int .u64 (f.a : Int)) ∧ w.cell? ⟨b, 3, none⟩ = some (.int .u64 (f.b : Int)) ∧ w.cell? ⟨b, 4, none⟩ = some (.int .u64 (f.c : Int)) ∧ w.cell? ⟨b, 5, none⟩ = some (.bool f.fl) ∧ w.cell? ⟨b, 6, none⟩ = some vd ∧ w.cell? ⟨b, 7, none⟩ = some vr :=
  ⟨h.blk.cellAt 0 rfl, h.blk.cellAt 1 rfl, h.blk.cellAt 2 rfl, h.blk.cellAt 3 rfl, h.blk.cellAt 4 rfl, h.blk.cellAt 5 rfl, h.blk.cellAt 6 rfl, h.blk.cellAt 7 rfl⟩
theorem FrB.tok {w : World} {b : Nat} {f : Fr} {vd vr : Value} (h : FrB w b f vd vr) : w.rangeAt b 8 (f.t.map bv) := h.blk.range 8 _ (fun j v hv => by
  rw [List.getElem?_map] at hv
  obtain ⟨x, hx, rfl⟩ := Option.map_eq_some_iff.1 hv
  exact frC_tok f vd vr j x hx)
theorem FrB.loadTok {w : World} {b : Nat} {f : Fr} {vd vr : Value} (h : FrB w b f vd vr) : (Instr.loadAt 25 (.pointer (some ⟨b, 8, none⟩))).run Tryd.prog w = .ok (.agg (f.t.map bv).toArray) w :=
  run_loadAt_mid w b 8 25 (f.t.map bv) _ h.tok Tryd.underlying25 rfl (by rw [sizeTk, List.length_map, h.len])
theorem FrB.byts {w : World} {b : Nat} {f : Fr} {vd vr : Value} (h : FrB w b f vd vr) : Byts w (.slice (some ⟨b, 8, none⟩) 16 16) f.t :=
  ⟨by simp, some ⟨b, 8, none⟩, 16, by rw [h.len], by rw [h.len]; omega, by decide, fun e => by simp at e, fun j u hu => ⟨b, 8, rfl, h.tok j u hu⟩⟩
theorem wpList_load_v {P : Program} {ops : Array Oper} {rest : List Oper} {op : Oper} {a : Act} {w : World} {Q : Exit → Act → World → Prop} (ty : TypeId) (x : Operand) (ho : op.op = .load ty x) (hw : Region.wanted op (yielded ops a.tmps) = true)
    (p v : Value) (hx : a.eval x = p) (hl : (Instr.loadAt ty p).run P w = .ok v w) (k : wpList P ops Q rest (a.put op.dst v) w) : wpList P ops Q (op :: rest) a w := by
  refine BigFrame.wpList_want hw fun K hK => ?_
  unfold Oper.wp execOp
  simp only [ho, hx, Sem.run_bind, hl, Result.andThen_ok, Sem.run_pure]
  exact hK _ _ k
/-- A literal of a struct. -/
theorem wpList_build_c {P : Program} {ops : Array Oper} {rest : List Oper} {op : Oper} {a : Act} {w : World} {Q : Exit → Act → World → Prop} (hgd : op.guard = none) (t : TypeId) (pl : List (Nat × Operand)) (ho : op.op = .build t pl.toArray)
    (vals : List (Nat × Value)) (hv : pl.map (fun x => (x.1, a.eval x.2)) = vals) (cells : Array Value) (hb : P.built t vals = some cells) (k : wpList P ops Q rest (a.put op.dst (.agg cells)) w) : wpList P ops Q (op :: rest) a w := by
  subst hv
  refine wpList_plain hgd fun K hK => ?_
  have e : (pl.toArray.map fun (i, x) => (i, a.eval x)).toList = pl.map (fun x => (x.1, a.eval x.2)) := by simp
  refine wp_build t pl.toArray ho (by rw [e, hb]; rfl) ?_
  rw [e, hb]
  exact hK _ _ k
theorem list16 {α : Type} (t : List α) (h : t.length = 16) : ∃ a b c d e f g h' i j k l m n o p, t = [a, b, c, d, e, f, g, h', i, j, k, l, m, n, o, p] := by
  match t, h with
  | [a, b, c, d, e, f, g, h', i, j, k, l, m, n, o, p], _ => exact ⟨a, b, c, d, e, f, g, h', i, j, k, l, m, n, o, p, rfl⟩
end Go.Proofs.YteegonadodmeeaaDoor
