/- The document's Next: the state behind a kind's reading. (printed by genfbr.py) -/
import Derived.Test.YtcnpiclpdgkngaaDoorFbQ
import Derived.Test.YtcnpiclpdgkngaaDoorFbK
import Derived.Test.YtcnpiclpdgkngaaDoorFaL
namespace Go.Proofs.YtcnpiclpdgkngaaDoor
open Go.RowKit

/-- The store of one cell into a block known whole. -/
theorem wpList_store_cell {P : Program} {ops : Array Oper} {rest : List Oper} {op : Oper} {a : Act} {w : World} {Q : Exit → Act → World → Prop} (hgd : op.guard = none) (ty : TypeId) (x y : Operand) (ho : op.op = .store ty x y)
    (b i : Nat) (hx : a.eval x = .pointer (some ⟨b, i, none⟩)) (C C2 : Array Value) (v : Value) (hy : a.eval y = v) (hc : v.cells = #[v]) (T : TypeId) (h : Blk w b C T) (hi : (P.info? ty).map (·.size) = some 1) (hl : i < C.size) (h1 : v.oneCell' = true) (e2 : C.setIfInBounds i v = C2)
    (k : ∀ w', Blk w' b C2 T → Mod (fun k => k = b) w w' → wpList P ops Q rest (a.put op.dst undef) w') : wpList P ops Q (op :: rest) a w := by
  obtain ⟨w', C', hr, hB, hs, he, hM⟩ := blk_store (P := P) (cells := #[v]) i ty h (by simpa using hi) (by simp; omega) (by intro u hu; simp at hu; subst hu; exact h1)
  have e : C' = C2 := by
    rw [← e2]
    apply Array.toList_inj.1
    rw [he, Array.toList_setIfInBounds, List.set_eq_take_append_cons_drop]
    simp [hl]
  subst e
  have e3 : (storeVar ty ⟨b, i, none⟩ v).run P w = .ok () w' := by
    rw [← hr]
    simp only [storeVar, hc]
    rfl
  refine wpList_plain hgd fun K hK => ?_
  unfold Oper.wp execOp
  simp only [ho, hx, hy, Instr.storeAt, Instr.sureAddr, Sem.run_bind, Sem.run_pure, Result.andThen_ok, e3]
  exact hK _ _ (k w' hB hM)
theorem size1_int : (Tryd.prog.info? 3).map (·.size) = some 1 := by kernel_rfl
theorem size1_u64 : (Tryd.prog.info? 22).map (·.size) = some 1 := by kernel_rfl
theorem size1_bytes : (Tryd.prog.info? 24).map (·.size) = some 1 := by kernel_rfl
theorem size1_sets : (Tryd.prog.info? 23).map (·.size) = some 1 := by kernel_rfl
theorem load_hfC {w : World} {b : Nat} {f : HF} {vs vd : Value} (h : Blk w b (hfC f vs vd) 26) : (Instr.loadAt 26 (.pointer (some ⟨b, 0, none⟩))).run Tryd.prog w = .ok (.agg (hfC f vs vd)) w :=
  run_loadAt_mid w b 0 26 (hfC f vs vd).toList _ h.whole Tryd.underlying26 rfl (size26f f vs vd)
theorem readK_data {k : Nat} (hk : k = 0 ∨ k = 1) (b : List UInt8) : readK k b = (⟨(k : Int), 0, [], b⟩, ⟨[], 0⟩) := by
  unfold readK
  rw [if_pos (by unfold isData; rcases hk with rfl | rfl <;> rfl)]
theorem readK_id {k : Nat} (hk : k = 3 ∨ k = 7 ∨ k = 13) (b : List UInt8) : readK k b = (⟨(k : Int), (RS.int ⟨b, 0⟩).1, [], []⟩, (RS.int ⟨b, 0⟩).2) := by
  unfold readK
  rw [if_neg (by unfold isData; rcases hk with rfl | rfl | rfl <;> decide), if_neg (by omega)]
theorem readK_set (b : List UInt8) : readK 4 b = (⟨4, 0, (readSetL 17 [] ⟨b, 0⟩).1, []⟩, (readSetL 17 [] ⟨b, 0⟩).2) := by
  unfold readK
  rw [if_neg (by decide), if_pos rfl]
theorem HFO.keptB {w w' : World} {B j : Nat} {f : HF} {vs vd : Value} {C : Array Value} {T : TypeId} (h : HFO w B f vs vd) (hb : Blk w j C T) (ht1 : T ≠ 49) (ht2 : T ≠ 5) (hM : Mod (fun k => k = j) w w') : HFO w' B f vs vd :=
  ⟨h.st.kept hM (fun g hg e => h.st.apart hb ht1 (by rw [hg, e])), h.d.kept hM (fun g hg e => h.d.apart hb ht2 (by rw [hg, e])), h.sl, h.dl⟩
theorem ownb_blk {w : World} {B n cap : Nat} {x : Addr} {l : List UInt8} (h : OwnB w B (.slice (some x) n cap) l) : B ≤ x.block ∧ ∃ cur, Blk w x.block cur 5 := by
  rcases h.2 with ⟨e, _⟩ | ⟨g, cp, cur, e, hg, hq, _⟩
  · simp at e
  · simp at e
    obtain ⟨rfl, _⟩ := e
    exact ⟨hg, cur, hq⟩
/-- The state behind a kind's reading. -/
structure RxK (w0 w : World) (tb th nn : Nat) (a : Option Addr) (cap : Nat) (L : List UInt8) (f : HF) (vs vd : Value) (s : RS) : Prop where
  res : Blk w w0.heap.size zC 26
  fr : Blk w (w0.heap.size + 1) (hfC f vs vd) 26
  bt : ∃ C, Blk w tb C 70 ∧ C[1]? = some (.int .i64 (nn : Int))
  rd : RefS w th a cap L s
  val : ∃ B, w0.heap.size + 2 ≤ B ∧ HFO w B f vs vd
  bd : OwnB w (w0.heap.size + 2) (.slice a L.length cap) L
  lo : w0.heap.size + 2 ≤ tb
  lt : tb < th
  mod : Mod (fun _ => False) w0 w
theorem RxK.at1 {w0 w : World} {tb th nn cap : Nat} {a : Option Addr} {L : List UInt8} {f : HF} {vs vd : Value} {s : RS} (h : RxK w0 w tb th nn a cap L f vs vd s) : w.cell? ⟨tb, 1, none⟩ = some (.int .i64 (nn : Int)) := by
  obtain ⟨C, hb, hc⟩ := h.bt
  exact hb.cellAt 1 hc
theorem RxK.thb {w0 w : World} {tb th nn cap : Nat} {a : Option Addr} {L : List UInt8} {f : HF} {vs vd : Value} {s : RS} (h : RxK w0 w tb th nn a cap L f vs vd s) : ∃ C, Blk w th C 70 := by
  obtain ⟨k, e, _, hb, _⟩ := h.rd
  exact ⟨_, hb⟩
theorem RxK.own {w0 w : World} {tb th nn cap : Nat} {a : Option Addr} {L : List UInt8} {f : HF} {vs vd : Value} {s : RS} (h : RxK w0 w tb th nn a cap L f vs vd s) : OwnS w (w0.heap.size + 2) vs f.st := by
  obtain ⟨B, hB, h⟩ := h.val
  exact own_mono h.st hB
theorem RxK.hfv {w0 w : World} {tb th nn cap : Nat} {a : Option Addr} {L : List UInt8} {f : HF} {vs vd : Value} {s : RS} (h : RxK w0 w tb th nn a cap L f vs vd s) : HFV w f vs vd := by
  obtain ⟨_, _, h⟩ := h.val
  exact h.val
theorem RxK.cells {w0 w : World} {tb th nn cap : Nat} {a : Option Addr} {L : List UInt8} {f : HF} {vs vd : Value} {s : RS} (h : RxK w0 w tb th nn a cap L f vs vd s) : w.cell? ⟨w0.heap.size + 1, 0, none⟩ = some (.int .i64 f.k) ∧ w.cell? ⟨w0.heap.size + 1, 1, none⟩ = some (.int .u64 (f.id : Int)) ∧ w.cell? ⟨w0.heap.size + 1, 2, none⟩ = some vs ∧ w.cell? ⟨w0.heap.size + 1, 3, none⟩ = some vd :=
  ⟨h.fr.cellAt 0 rfl, h.fr.cellAt 1 rfl, h.fr.cellAt 2 rfl, h.fr.cellAt 3 rfl⟩
theorem RxK.toF {w0 w w' : World} {tb th nn cap : Nat} {a : Option Addr} {L : List UInt8} {f : HF} {vs vd : Value} {s : RS} (h : RxK w0 w tb th nn a cap L f vs vd s) (hM : Mod (fun _ => False) w w') : RxK w0 w' tb th nn a cap L f vs vd s :=
  ⟨hM.blk h.res (fun h => h), hM.blk h.fr (fun h => h), (by obtain ⟨C, hb, hc⟩ := h.bt; exact ⟨C, hM.blk hb (fun h => h), hc⟩), hM.refs h.rd (fun h => h) (fun _ _ _ h => h), (by obtain ⟨B, hB, hv⟩ := h.val; exact ⟨B, hB, hv.kept hM (fun _ h => h.elim)⟩), h.bd.keptF hM, h.lo, h.lt, h.mod.trans hM⟩
/-- A store into the frame. -/
theorem RxK.toG {w0 w w' : World} {tb th nn cap : Nat} {a : Option Addr} {L : List UInt8} {f g : HF} {vs vd us ud : Value} {s : RS} (h : RxK w0 w tb th nn a cap L f vs vd s) (hb : Blk w' (w0.heap.size + 1) (hfC g us ud) 26) (hM : Mod (fun k => k = w0.heap.size + 1) w w') (hv : ∃ B, w0.heap.size + 2 ≤ B ∧ HFO w' B g us ud) : RxK w0 w' tb th nn a cap L g us ud s :=
  have := h.lo
  have := h.lt
  ⟨hM.blk h.res (by omega), hb, (by obtain ⟨C, hb, hc⟩ := h.bt; exact ⟨C, hM.blk hb (by omega), hc⟩), hM.refs h.rd (by omega) (fun hl x hx e => by have h2 := h.bd; rw [hx] at h2; have := (ownb_blk h2).1; omega), hv, h.bd.kept hM (fun g hg e => h.bd.apart h.fr (by decide) (by rw [hg, e])), h.lo, h.lt, h.mod.trans' hM (fun i hi e => by omega)⟩
/-- The reader of the body goes on. -/
theorem RxK.toR {w0 w w' : World} {tb th nn cap : Nat} {a : Option Addr} {L : List UInt8} {f : HF} {vs vd : Value} {s s' : RS} (h : RxK w0 w tb th nn a cap L f vs vd s) (hM : Mod (fun k => k = th) w w') (hr : RefS w' th a cap L s') : RxK w0 w' tb th nn a cap L f vs vd s' :=
  have := h.lo
  have := h.lt
  ⟨hM.blk h.res (by omega), hM.blk h.fr (by omega), (by obtain ⟨C, hb, hc⟩ := h.bt; exact ⟨C, hM.blk hb (by omega), hc⟩), hr, (by obtain ⟨B, hB, hv⟩ := h.val; obtain ⟨C, hb⟩ := h.thb; exact ⟨B, hB, hv.keptB hb (by decide) (by decide) hM⟩), (by obtain ⟨C, hb⟩ := h.thb; exact h.bd.kept hM (fun g hg e => h.bd.apart hb (by decide) (by rw [hg, e]))), h.lo, h.lt, h.mod.trans' hM (fun i hi e => by omega)⟩
/-- The kind's number is stored. -/
theorem RxK.toK {w0 w w' : World} {tb th nn cap : Nat} {a : Option Addr} {L : List UInt8} {f : HF} {vs vd : Value} {s : RS} (h : RxK w0 w tb th nn a cap L f vs vd s) (k : Int) (hb : Blk w' (w0.heap.size + 1) (hfC ⟨k, f.id, f.st, f.d⟩ vs vd) 26) (hM : Mod (fun k => k = w0.heap.size + 1) w w') : RxK w0 w' tb th nn a cap L ⟨k, f.id, f.st, f.d⟩ vs vd s :=
  h.toG hb hM (by obtain ⟨B, hB, hv⟩ := h.val; have h2 := hv.keptB h.fr (by decide) (by decide) hM; exact ⟨B, hB, ⟨h2.st, h2.d, h2.sl, h2.dl⟩⟩)
/-- A setting is appended: what the frame is behind its store. -/
theorem RxK.app {w0 w wm w' : World} {tb th nn cap : Nat} {a : Option Addr} {L : List UInt8} {f : HF} {vs vd v2 : Value} {l2 : List (Nat × Nat)} {s : RS} (h : RxK w0 w tb th nn a cap L f vs vd s) (hA : Mod (fun _ => False) w wm) (ho : OwnS w' (w0.heap.size + 2) v2 l2) (hl : (l2.length : Int) ≤ 100000) (hg : wm.grownBy w' vs.ownBlock) :
    Blk w' (w0.heap.size + 1) (hfC f vs vd) 26 ∧ ∀ w2, Blk w2 (w0.heap.size + 1) (hfC ⟨f.k, f.id, l2, []⟩ v2 (.slice none 0 0)) 26 → Mod (fun k => k = w0.heap.size + 1) w' w2 → RxK w0 w2 tb th nn a cap L ⟨f.k, f.id, l2, []⟩ v2 (.slice none 0 0) s := by
  have hg' : Mod (fun j => vs.ownBlock = some j) wm w' := (Mod.refl _ _).grown hg (fun k hk _ => hk)
  have hM : Mod (fun j => vs.ownBlock = some j) w w' := (hA.mono (fun _ _ e => e.elim)).trans hg'
  have hfr := hM.blk h.fr (h.own.apart h.fr (by decide))
  refine ⟨hfr, fun w2 hb hM2 => ?_⟩
  have := h.lo
  have := h.lt
  obtain ⟨C, hbt, hc⟩ := h.bt
  obtain ⟨C2, hth⟩ := h.thb
  have hbd : OwnB w' (w0.heap.size + 2) (.slice a L.length cap) L := h.bd.kept hM (fun g hg e => by
    cases a with
    | none => simp [Value.ownBlock] at hg
    | some x =>
      have ⟨_, cur, hx⟩ := ownb_blk h.bd
      simp [Value.ownBlock] at hg
      subst hg
      exact h.own.apart hx (by decide) e)
  have hrd : RefS w' th a cap L s := hM.refs h.rd (h.own.apart hth (by decide)) (fun hl x hx e => by
    have h2 := h.bd
    rw [hx] at h2
    obtain ⟨_, cur, hx⟩ := ownb_blk h2
    exact h.own.apart hx (by decide) e)
  refine ⟨hM2.blk (hM.blk h.res (h.own.apart h.res (by decide))) (by omega), hb, ⟨C, hM2.blk (hM.blk hbt (h.own.apart hbt (by decide))) (by omega), hc⟩, hM2.refs hrd (by omega) (fun hl x hx e => by have h2 := hbd; rw [hx] at h2; have := (ownb_blk h2).1; omega), ⟨w0.heap.size + 2, Nat.le_refl _, ho.kept hM2 (fun g hg e => ho.apart hfr (by decide) (by rw [hg, e])), OwnB.nil _ _, hl, by simp⟩, hbd.kept hM2 (fun g hg e => hbd.apart hfr (by decide) (by rw [hg, e])), h.lo, h.lt, ?_⟩
  exact (h.mod.trans' hM (fun i hi e => by have := (World.ownsRow.lt h.own i e).1; omega)).trans' hM2 (fun i hi e => by omega)
theorem rk_made {w0 w : World} {tb nn n cap ca B : Nat} {a aa : Option Addr} {L body : List UInt8} {s : RS} (h : RxS w0 w tb aa ca L s) (hat : w.cell? ⟨tb, 1, none⟩ = some (.int .i64 (nn : Int))) (ho : OwnB w B (.slice a n cap) body) (hB : w0.heap.size + 2 ≤ B) (hn : n = body.length) (hl : (body.length : Int) ≤ 5000) :
    RxK w0 (w.alloc (.cells #[.slice a n cap, .int .i64 0, .int .i64 0] 70)) tb w.heap.size nn a cap body HF.zero (.slice none 0 0) (.slice none 0 0) ⟨body, 0⟩ := by
  subst hn
  have hM : Mod (fun _ => False) w (w.alloc (.cells #[.slice a body.length cap, .int .i64 0, .int .i64 0] 70)) := (Mod.refl _ w).alloc _
  have hbt : ∃ C, Blk w tb C 70 ∧ C[1]? = some (.int .i64 (nn : Int)) := by obtain ⟨_, _, _, hb, _⟩ := h.rd; exact ⟨_, hb, (hb.cell 1).symm.trans hat⟩
  have hlt : tb < w.heap.size := by obtain ⟨_, hb, _⟩ := hbt; exact hb.lt
  have hab : body ≠ [] → ∀ x, a = some x → x.block ≠ w.heap.size := by
    rintro hL x rfl e
    obtain ⟨_, cur, hx⟩ := ownb_blk ho
    have := hx.lt
    omega
  obtain ⟨C, hb, hc⟩ := hbt
  exact ⟨hM.blk h.res (fun h => h), hM.blk h.f (fun h => h), ⟨C, hM.blk hb (fun h => h), hc⟩, ⟨0, 0, by simp [refS], Blk.new w _ _, byts_kept ho.byts hM, Nat.zero_le _, by omega, hab⟩, ⟨w0.heap.size + 2, Nat.le_refl _, OwnS.nil _ _, OwnB.nil _ _, by simp [HF.zero], by simp [HF.zero]⟩, (ho.mono hB).keptF hM, h.lo, hlt, h.mod.trans hM⟩
/-- All of the body is taken. -/
theorem rk_all {w0 w w' : World} {tb th nn n cap : Nat} {a : Option Addr} {L : List UInt8} {f : HF} {vs vd : Value} {s : RS} (h : RxK w0 w tb th nn a cap L f vs vd s) (hn : n = L.length) (hb : Blk w' th #[.slice a n cap, .int .i64 (n : Int), .int .i64 0] 70) (hM : Mod (fun k => k = th) w w') : RxK w0 w' tb th nn a cap L f vs vd ⟨[], 0⟩ := by
  subst hn
  have hr : RefS w' th a cap L ⟨[], 0⟩ := by
    obtain ⟨k, e, _, hb', hy, hk, h5, h6⟩ := h.rd
    refine ⟨L.length, 0, by simp [refS], hb, hM.sl hy (fun hx g hg => ?_), Nat.le_refl _, h5, h6⟩
    cases a with
    | none => simp [blockOf] at hg
    | some x => simp [blockOf] at hg; subst hg; exact h6 (by simpa using hx) x rfl
  exact h.toR hM hr
theorem wpList_append_set {w : World} {ops : Array Oper} {rest : List Oper} {o : Oper} {a : Act} {Q : Exit → Act → World → Prop} (hgd : o.guard = none) (s x : Operand)
    (ho : o.op = .call { callee := .builtin .append, args := #[s, x], argTypes := #[23, 23] })
    (v : Value) (l : List (Nat × Nat)) (B : Nat) (hs : a.eval s = v) (hown : OwnS w B v l)
    (sv : Value) (new : Nat × Nat) (hx : a.eval x = sv) (hsl : SetV w sv [new]) (n : Nat) (hln : l.length = n) (hn : n ≤ 100000) (hbase : B ≤ w.heap.size)
    (h : ∀ ap cp w', OwnS w' B (.slice ap (n + 1) cp) (l ++ [new]) → w.grownBy w' v.ownBlock → wpList Tryd.prog ops Q rest (a.put o.dst (.slice ap (n + 1) cp)) w') : wpList Tryd.prog ops Q (o :: rest) a w := by
  subst hln
  obtain ⟨i0, hi, hz0, hz1, hz2⟩ := info_parts infoSet
  refine wpList_append_sl hgd s x 23 ho B 49 i0 _ 2 16 Tryd.underlying23 hi hz0 hz1 hz2 rfl (by decide) v l.length (l.flatMap setC) hs hown sv 1 ([new].flatMap setC) hx hsl (setC_one _) (by omega) (by decide) hbase ?_
  intro v' w' ho' hg
  have ho2 : OwnS w' B v' (l ++ [new]) := by unfold OwnS; simpa using ho'
  obtain ⟨ap, cp, rfl, _⟩ := set_val ho2.setv
  have e : (l ++ [new]).length = l.length + 1 := by simp
  rw [e] at ho2 ⊢
  exact h ap cp w' ho2 hg
end Go.Proofs.YtcnpiclpdgkngaaDoor
