/- Timers that came in, as a law's parameters; the queue as a law holds it. -/
import Derived.Test.YtodcadcapmhgfaaTeK
import Derived.Test.YtodcadcapmhgfaaOpR
namespace Go.Proofs.Ytodcadcapmhgfaa
open Go.Joins Go.ChangeShapes Go.WideShapes Go.RowKit Go.Deep

def okTm (t : Tm) : Prop := t.t ≤ neverN ∧ okK (keyT t)
def TmV (w : World) (v : Value) (l : List Tm) : Prop := Sl w 3 v l.length (l.flatMap tmL)
theorem tmL_3 (t : Tm) : (tmL t).length = 3 := rfl
theorem cellsTm : Program.cellsOf Try.prog 27 = 3 := by kernel_rfl
theorem cells_tm {H : Type} {enc : TypeId × Value → H} {W : World} (fuel : Nat) (cs : List Value) (y : DataW H × List MemPlace) (hl : cs.length = 3) (hf : DataW.trod enc Try.prog W 0 (fun _ => true) true fuel 27 cs = some y) : ∃ t : Tm, cs = tmL t ∧ okTm t := by
  match cs, hl with
  | [c0, c1, c2], _ =>
    obtain ⟨xs, n, _, hx, _, hlen, hg⟩ := DataW.trod_struct Try.underlying27 hf
    have zi : Program.cellsOf Try.prog 3 = 1 := by kernel_rfl
    have z8 : Program.cellsOf Try.prog 25 = 1 := by kernel_rfl
    match xs, hlen with
    | [y0, y1, y2], _ =>
      have h0 : DataW.trod enc Try.prog W 0 (fun _ => true) true n 25 [c0] = some y0 := by simpa [Value.cells, z8] using hg 0 _ rfl
      have h1 : DataW.trod enc Try.prog W 0 (fun _ => true) true n 3 [c1] = some y1 := by simpa [Value.cells, zi] using hg 1 _ rfl
      have h2 : DataW.trod enc Try.prog W 0 (fun _ => true) true n 3 [c2] = some y2 := by simpa [Value.cells, zi] using hg 2 _ rfl
      obtain ⟨n0, e0, _, w0⟩ := DataW.trod_int Try.underlying25 h0
      obtain ⟨n1, e1, _, w1⟩ := DataW.trod_int Try.underlying3 h1
      obtain ⟨n2, e2, _, w2⟩ := DataW.trod_int Try.underlying3 h2
      obtain rfl : c0 = .int .u64 n0 := by simpa using e0
      obtain rfl : c1 = .int .i64 n1 := by simpa using e1
      obtain rfl : c2 = .int .i64 n2 := by simpa using e2
      have b := bounds_u64 w0
      obtain ⟨m0, rfl⟩ := Int.eq_ofNat_of_zero_le b.1
      exact ⟨⟨m0, n1, n2⟩, rfl, by show m0 ≤ neverN; unfold neverN; omega, w1, w2⟩
theorem open_tms {H : Type} {enc : TypeId × Value → H} {W : World} {v : Value} {d : DataW H} {p : List MemPlace} {base : Nat} (hval : Value.okWide Try.prog W .any base 34 v) (h : DataW.Trod enc Try.prog W 0 (fun _ => true) true 34 v d p) :
    ∃ l : List Tm, TmV W v l ∧ ∀ t ∈ l, okTm t :=
  open_rows tmL tmL_3 (by decide) okTm Try.underlying34 cellsTm cells_tm hval h
/-- Something done to timers: what, a timer. -/
def actL (a : Int × Tm) : List Value := .int .i64 a.1 :: tmL a.2
theorem actL_4 (a : Int × Tm) : (actL a).length = 4 := rfl
def okAct (a : Int × Tm) : Prop := okTm a.2
theorem cells_act {H : Type} {enc : TypeId × Value → H} {W : World} (fuel : Nat) (cs : List Value) (y : DataW H × List MemPlace) (hl : cs.length = 4) (hf : DataW.trod enc Try.prog W 0 (fun _ => true) true fuel 42 cs = some y) : ∃ a : Int × Tm, cs = actL a ∧ okAct a := by
  match cs, hl with
  | [c0, c1, c2, c3], _ =>
    obtain ⟨xs, n, _, hx, _, hlen, hg⟩ := DataW.trod_struct Try.underlying42 hf
    have zi : Program.cellsOf Try.prog 3 = 1 := by kernel_rfl
    match xs, hlen with
    | [y0, y1], _ =>
      have h0 : DataW.trod enc Try.prog W 0 (fun _ => true) true n 3 [c0] = some y0 := by simpa [Value.cells, zi] using hg 0 _ rfl
      have h1 : DataW.trod enc Try.prog W 0 (fun _ => true) true n 27 [c1, c2, c3] = some y1 := by simpa [Value.cells, cellsTm] using hg 1 _ rfl
      obtain ⟨n0, e0, _, w0⟩ := DataW.trod_int Try.underlying3 h0
      obtain rfl : c0 = .int .i64 n0 := by simpa using e0
      obtain ⟨t, e, ok⟩ := cells_tm _ _ _ rfl h1
      exact ⟨(n0, t), by rw [e]; rfl, ok⟩
theorem open_acts {H : Type} {enc : TypeId × Value → H} {W : World} {v : Value} {d : DataW H} {p : List MemPlace} {base : Nat} (hval : Value.okWide Try.prog W .any base 22 v) (h : DataW.Trod enc Try.prog W 0 (fun _ => true) true 22 v d p) :
    ∃ l : List (Int × Tm), Sl W 4 v l.length (l.flatMap actL) ∧ ∀ a ∈ l, okAct a :=
  open_rows actL actL_4 (by decide) okAct Try.underlying22 (by kernel_rfl) cells_act hval h
theorem TmV.kept {w w' : World} {v : Value} {l : List Tm} (h : TmV w v l) (hM : Mod (fun _ => False) w w') : TmV w' v l := Sl.kept h hM (fun _ _ h => h)
theorem TmV.val {w : World} {v : Value} {l : List Tm} (h : TmV w v l) : ∃ a cap, v = .slice a l.length cap ∧ l.length ≤ cap ∧ cap ≤ maxLen ∧ (a = none → cap = 0) := Sl.val h
/-- Where a timer lies. -/
theorem TmV.at {w : World} {v : Value} {l : List Tm} {i : Nat} {t : Tm} (h : TmV w v l) (hi : l[i]? = some t) : ∃ b off cap, v = .slice (some ⟨b, off, none⟩) l.length cap ∧ w.rangeAt b (off + i * 3) (tmL t) := by
  have hl := (List.getElem?_eq_some_iff.1 hi).1
  have hne : l.flatMap tmL ≠ [] := by
    intro e
    have := tmL_len l
    rw [e] at this
    simp at this
    omega
  obtain ⟨b, off, cap, hv, _, _, hc⟩ := Sl.addr h hne
  refine ⟨b, off, cap, hv, fun j u hu => ?_⟩
  have hj : j < 3 := by have := (List.getElem?_eq_some_iff.1 hu).1; simpa [tmL] using this
  rw [Nat.add_assoc]
  exact hc (i * 3 + j) u ((tmL_at l i t hi j hj).trans hu)
/-- A queue as a law holds it: all of it is of the law's own; 'F': blocks that aren't of it. -/
def LQ (W0 w : World) (qb mb N : Nat) (L : List Tm) (F : Nat → Prop) : Prop :=
  (∃ v, QOk w W0.heap.size qb v mb N L ∧ ∀ k, QB qb v mb k → ¬ F k) ∧ Mod (fun _ => False) W0 w ∧ ∀ k, F k → k < w.heap.size
def noF : Nat → Prop := fun _ => False
/-- Behind a call: what isn't of the queue stays. -/
def LC (W0 w w' : World) (qb mb N : Nat) (L : List Tm) (F : Nat → Prop) : Prop := LQ W0 w' qb mb N L F ∧ Mod (fun k => ¬ F k) w w'
theorem LQ.still {W0 w w' : World} {qb mb N : Nat} {L : List Tm} {F : Nat → Prop} (q : LQ W0 w qb mb N L F) (hM : Mod (fun _ => False) w w') : LQ W0 w' qb mb N L F := by
  obtain ⟨⟨v, h, h1⟩, h2, h3⟩ := q
  exact ⟨⟨v, h.still hM, h1⟩, h2.trans hM, fun k hk => Nat.lt_of_lt_of_le (h3 k hk) hM.size⟩
/-- What is new is foreign. -/
theorem LQ.fresh {W0 w w' : World} {qb mb N : Nat} {L : List Tm} {F F' : Nat → Prop} (q : LQ W0 w qb mb N L F) (hM : Mod (fun _ => False) w w') (hF : ∀ k, F' k → F k ∨ (w.heap.size ≤ k ∧ k < w'.heap.size)) : LQ W0 w' qb mb N L F' := by
  obtain ⟨⟨v, h, h1⟩, h2, h3⟩ := q
  refine ⟨⟨v, h.still hM, fun k hk hf => ?_⟩, h2.trans hM, fun k hk => ?_⟩
  · rcases hF k hf with e | e
    · exact h1 k hk e
    · have := (h.blocks k hk).2
      omega
  · rcases hF k hk with e | e
    · exact Nat.lt_of_lt_of_le (h3 k e) hM.size
    · exact e.2
theorem LQ.more {W0 w : World} {qb mb N N' : Nat} {L : List Tm} {F : Nat → Prop} (q : LQ W0 w qb mb N L F) (h : N ≤ N') : LQ W0 w qb mb N' L F := by
  obtain ⟨⟨v, h1, h2⟩, h3⟩ := q
  exact ⟨⟨v, h1.more h, h2⟩, h3⟩
/-- Something foreign was written. -/
theorem LQ.kept {W0 w w' : World} {S : Nat → Prop} {qb mb N : Nat} {L : List Tm} {F : Nat → Prop} (q : LQ W0 w qb mb N L F) (hM : Mod S w w') (hS : ∀ k, S k → F k) (hW : ∀ k, S k → W0.heap.size ≤ k) : LQ W0 w' qb mb N L F := by
  obtain ⟨⟨v, h, h1⟩, h2, h3⟩ := q
  exact ⟨⟨v, h.kept hM (fun k hk hs => h1 k hk (hS k hs)), h1⟩, h2.trans' hM (fun k hk hs => by have := hW k hs; omega), fun k hk => Nat.lt_of_lt_of_le (h3 k hk) hM.size⟩
theorem LQ.chg {W0 w w' : World} {qb mb N N' : Nat} {v : Value} {L L' : List Tm} {F : Nat → Prop} (hq : QOk w W0.heap.size qb v mb N L) (hF : ∀ k, QB qb v mb k → ¬ F k) (hM : Mod (fun _ => False) W0 w) (hL : ∀ k, F k → k < w.heap.size) (h : ChgR w w' W0.heap.size qb v mb N' L') : LC W0 w w' qb mb N' L' F := by
  obtain ⟨v', h1, h2, h3⟩ := h
  refine ⟨⟨⟨v', h1, ?_⟩, hM.trans' h2 (fun k hk e => by have := (hq.blocks k e).1; omega), fun k hk => Nat.lt_of_lt_of_le (hL k hk) h2.size⟩, h2.mono (fun k hk e => hF k e)⟩
  rintro k (e | e | e)
  · exact hF k (.inl e)
  · rcases h3 k e with e | e
    · exact hF k (.inr (.inl e))
    · intro hf
      have := hL k hf
      omega
  · exact hF k (.inr (.inr e))
theorem LQ.l {W0 w : World} {qb mb N : Nat} {L : List Tm} {F : Nat → Prop} (q : LQ W0 w qb mb N L F) : QL L := by
  obtain ⟨⟨v, h, _⟩, h2⟩ := q
  exact h.l
theorem LQ.k {W0 w : World} {qb mb N : Nat} {L : List Tm} {F : Nat → Prop} (q : LQ W0 w qb mb N L F) : OkAll L := by
  obtain ⟨⟨v, h, _⟩, h2⟩ := q
  exact h.k
theorem LQ.m {W0 w : World} {qb mb N : Nat} {L : List Tm} {F : Nat → Prop} (q : LQ W0 w qb mb N L F) : Mod (fun _ => False) W0 w := q.2.1
theorem lq_new (w : World) : Calls Try.prog 18 #[] w fun e w' => ∃ qb mb, e = .returned (.pointer (some ⟨qb, 0, none⟩)) ∧ LQ w w' qb mb 0 [] noF ∧ w.heap.size ≤ qb :=
  (new_any w).mono fun _ _ ⟨qb, mb, h1, h2, h3⟩ => ⟨qb, mb, h1, ⟨⟨_, h2, fun _ _ h => h⟩, h3, fun _ h => h.elim⟩, (h2.blocks qb (.inl rfl)).1⟩
theorem lq_set {W0 w : World} {qb mb N : Nat} {L : List Tm} {F : Nat → Prop} (t : Tm) (q : LQ W0 w qb mb N L F) (ht : okTm t) (hN : N ≤ 1000000000) (b : Bool) (L' : List Tm) (he : setT t L = (b, L')) :
    Calls Try.prog 11 #[.pointer (some ⟨qb, 0, none⟩), .agg (tmA t)] w fun e w' => e = .returned (.bool b) ∧ LC W0 w w' qb mb (N + 1000) L' F := by
  obtain ⟨⟨v, h, h1⟩, h2, h3⟩ := q
  refine (set_any t h ht.2 ht.1 (by unfold maxLen; omega) h2.size).mono fun e w' hs => ?_
  obtain ⟨h4, h5⟩ := hs
  rw [he] at h4 h5
  exact ⟨h4, LQ.chg h h1 h2 h3 h5⟩
theorem lq_cancel {W0 w : World} {qb mb N : Nat} {L : List Tm} {F : Nat → Prop} (c k : Int) (q : LQ W0 w qb mb N L F) (hk : okK (c, k)) (hN : N ≤ 1000000000) :
    Calls Try.prog 12 #[.pointer (some ⟨qb, 0, none⟩), .int .i64 c, .int .i64 k] w fun e w' => e = .returned (.bool (hasK c k L)) ∧ LC W0 w w' qb mb (N + 1000) (delT c k L) F := by
  obtain ⟨⟨v, h, h1⟩, h2, h3⟩ := q
  exact (cancel_any c k h hk (by unfold maxLen; omega) h2.size).mono fun _ _ ⟨h4, h5⟩ => ⟨h4, LQ.chg h h1 h2 h3 h5⟩
theorem lq_due {W0 w : World} {qb mb N : Nat} {L : List Tm} {F : Nat → Prop} (now : Nat) (q : LQ W0 w qb mb N L F) (hN : N ≤ 1000000000) (o : Option Tm) (L' : List Tm) (he : dueT now L = (o, L')) :
    Calls Try.prog 10 #[.pointer (some ⟨qb, 0, none⟩), .int .u64 (now : Int)] w fun e w' => e = .returned (.tuple #[.agg (tmA (o.getD tm0)), .bool o.isSome]) ∧ LC W0 w w' qb mb (N + 1000) L' F := by
  obtain ⟨⟨v, h, h1⟩, h2, h3⟩ := q
  refine (due_any now h (by unfold maxLen; omega) h2.size).mono fun e w' hs => ?_
  obtain ⟨h4, h5⟩ := hs
  rw [he] at h4 h5
  exact ⟨h4, LQ.chg h h1 h2 h3 h5⟩
theorem lq_next {W0 w : World} {qb mb N : Nat} {L : List Tm} {F : Nat → Prop} (q : LQ W0 w qb mb N L F) : Calls Try.prog 16 #[.pointer (some ⟨qb, 0, none⟩)] w fun e w' => w = w' ∧ e = .returned (.int .u64 (nextN L : Nat)) := by
  obtain ⟨⟨v, h, h1⟩, h2⟩ := q
  exact next_any h
theorem lq_len {W0 w : World} {qb mb N : Nat} {L : List Tm} {F : Nat → Prop} (q : LQ W0 w qb mb N L F) : Calls Try.prog 14 #[.pointer (some ⟨qb, 0, none⟩)] w fun e w' => w = w' ∧ e = .returned (.int .i64 (L.length : Int)) := by
  obtain ⟨⟨v, h, h1⟩, h2⟩ := q
  exact len_any h
theorem lq_at {W0 w : World} {qb mb N : Nat} {L : List Tm} {F : Nat → Prop} (c k : Int) (q : LQ W0 w qb mb N L F) (hk : okK (c, k)) : Calls Try.prog 17 #[.pointer (some ⟨qb, 0, none⟩), .int .i64 c, .int .i64 k] w fun e w' => w = w' ∧ e = .returned (.int .u64 (atN c k L : Nat)) := by
  obtain ⟨⟨v, h, h1⟩, h2⟩ := q
  exact at_any c k h hk
end Go.Proofs.Ytodcadcapmhgfaa
