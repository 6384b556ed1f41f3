/- Fields of the call's own; the state of Unpack. -/
import Derived.Test.YtcnpiclpdgkngaaDoorFaQ
import Derived.Test.YtcnpiclpdgkngaaDoorFaI
import Derived.Test.YtcnpiclpdgkngaaDoorFaJ
import Derived.Test.YtcnpiclpdgkngaaDoorPaS
import Derived.Test.YtcnpiclpdgkngaaDoorBeq
namespace Go.Proofs.YtcnpiclpdgkngaaDoor
open Go.RowKit

/-- The call's own fields. -/
def OwnF (w : World) (B : Nat) (v : Value) (l : List Fd) : Prop := w.ownsRow B 52 2 v l.length (l.flatMap fdC)
theorem OwnF.fldv {w : World} {B : Nat} {v : Value} {l : List Fd} (h : OwnF w B v l) : FldV w v l := Sl.ofOwn h
theorem OwnF.nil (w : World) (B : Nat) : OwnF w B (.slice none 0 0) [] := World.ownsRow_nil _ _ _ _
theorem OwnF.kept {S : Nat → Prop} {w w' : World} {B : Nat} {v : Value} {l : List Fd} (h : OwnF w B v l) (hM : Mod S w w') (hS : ∀ g, v.ownBlock = some g → ¬ S g) : OwnF w' B v l := hM.own h hS
theorem OwnF.alloc {w : World} {B : Nat} {v : Value} {l : List Fd} (h : OwnF w B v l) (o : Obj) : OwnF (w.alloc o) B v l := h.kept ((Mod.refl (fun _ => False) _).alloc o) (fun _ _ h => h)
theorem OwnF.apart {w : World} {B b : Nat} {v : Value} {l : List Fd} {C : Array Value} {T : TypeId} (h : OwnF w B v l) (hb : Blk w b C T) (ht : T ≠ 52) : ¬ v.ownBlock = some b := by
  intro e
  rcases h.2 with ⟨rfl, _⟩ | ⟨g, cap, cur, rfl, _, hg, _⟩
  · simp [Value.ownBlock] at e
  · simp [Value.ownBlock] at e
    subst e
    exact Blk.ne hb (show Blk w g cur 52 from hg) ht rfl
theorem infoFld : (Tryd.prog.info? 52).map (fun i => (i.zero, i.size, i.bytes)) = some (some (.agg #[.string ⟨#[]⟩, .string ⟨#[]⟩]), 2, 32) := by kernel_rfl
theorem fdC_len (l : List Fd) : (l.flatMap fdC).length = l.length * 2 := by
  induction l with
  | nil => rfl
  | cons x m ih => rw [List.flatMap_cons, List.length_append, ih, List.length_cons]; simp [fdC]; omega
theorem wpList_append_f {w : World} {ops : Array Oper} {rest : List Oper} {o : Oper} {a : Act} {Q : Exit → Act → World → Prop} (hgd : o.guard = none) (s x : Operand)
    (ho : o.op = .call { callee := .builtin .append, args := #[s, x], argTypes := #[38, 38] })
    (v : Value) (l : List Fd) (B : Nat) (hs : a.eval s = v) (hown : OwnF w B v l)
    (sv : Value) (news : List Fd) (hx : a.eval x = sv) (hsl : FldV w sv news) (n : Nat) (hn : l.length + news.length = n) (hn2 : (n : Int) ≤ 100000) (hbase : B ≤ w.heap.size) (L : List Fd) (hL : L = l ++ news)
    (h : ∀ ap cp w', OwnF w' B (.slice ap n cp) L → w.grownBy w' v.ownBlock → wpList Tryd.prog ops Q rest (a.put o.dst (.slice ap n cp)) w') : wpList Tryd.prog ops Q (o :: rest) a w := by
  subst hL
  obtain ⟨i0, hi, hz0, hz1, hz2⟩ := info_parts infoFld
  refine wpList_append_sl hgd s x 38 ho B 52 i0 _ 2 32 Tryd.underlying38 hi hz0 hz1 hz2 rfl (by decide) v l.length (l.flatMap fdC) hs hown sv news.length (news.flatMap fdC) hx hsl (fdC_one _) (by omega) (by decide) hbase ?_
  intro v' w' ho' hg
  have e : (l ++ news).length = n := by simpa using hn
  have ho2 : OwnF w' B v' (l ++ news) := by unfold OwnF; simpa using ho'
  obtain ⟨ap, cp, rfl, _⟩ := fld_val ho2.fldv
  rw [e] at ho2 ⊢
  exact h ap cp w' ho2 hg
theorem fld_one (w : World) (s : Fd) : FldV (w.alloc (.cells #[strV s.n, strV s.v] 52)) (.slice (some ⟨w.heap.size, 0, none⟩) 1 1) [s] := by
  have hb := Blk.new w #[strV s.n, strV s.v] 52
  refine ⟨by simp [fdC], some ⟨w.heap.size, 0, none⟩, 1, rfl, Nat.le_refl _, by decide, fun e => by simp at e, fun j u hu => ⟨w.heap.size, 0, rfl, ?_⟩⟩
  simp only [List.flatMap_cons, List.flatMap_nil, List.append_nil, fdC] at hu
  rw [Nat.zero_add]
  match j, hu with
  | 0, hu => simp at hu; subst hu; exact hb.cellAt 0 rfl
  | 1, hu => simp at hu; subst hu; exact hb.cellAt 1 rfl
  | (_ + 2), hu => simp at hu
/-- The state of Unpack. -/
structure URd (w0 w : World) (rb : Nat) (v : Value) (l : List Fd) (s : RS) : Prop where
  rd : Rdr w rb s
  own : OwnF w w0.heap.size v l
  mod : Mod (fun _ => False) w0 w
  base : w0.heap.size ≤ rb
theorem OwnF.rdr_apart {w : World} {B rb : Nat} {v : Value} {l : List Fd} {s : RS} (h : OwnF w B v l) (hr : Rdr w rb s) : ¬ v.ownBlock = some rb := by
  obtain ⟨_, a, cap, hb, _⟩ := hr
  exact h.apart hb (by decide)
theorem OwnB.rdr {w w' : World} {B rb : Nat} {v : Value} {l : List UInt8} {s : RS} (h : OwnB w B v l) (hr : Rdr w rb s) (hM : Mod (fun j => j = rb) w w') : OwnB w' B v l := by
  obtain ⟨_, a, cap, hb, _⟩ := hr
  exact h.kept hM (fun g hg e => h.apart hb (by decide) (by rw [hg, e]))
theorem OwnB.fput {w w' : World} {B fb : Nat} {v : Value} {l : List UInt8} {C : Array Value} (h : OwnB w B v l) (hb : Blk w fb C 52) (hM : Mod (fun j => j = fb) w w') : OwnB w' B v l :=
  h.kept hM (fun g hg e => h.apart hb (by decide) (by rw [hg, e]))
theorem URd.step {w0 w w' : World} {rb : Nat} {v : Value} {l : List Fd} {s s' : RS} (h : URd w0 w rb v l s) (hr : Rdr w' rb s') (hM : Mod (fun j => j = rb) w w') : URd w0 w' rb v l s' :=
  ⟨hr, h.own.kept hM (fun g hg e => h.own.rdr_apart h.rd (by rw [hg, e])), h.mod.trans' hM (fun i hi e => by have := h.base; omega), h.base⟩
theorem URd.still {w0 w w' : World} {rb : Nat} {v : Value} {l : List Fd} {s : RS} (h : URd w0 w rb v l s) (hM : Mod (fun _ => False) w w') : URd w0 w' rb v l s :=
  ⟨h.rd.kept hM (fun _ _ h => h), h.own.kept hM (fun _ _ h => h), h.mod.trans hM, h.base⟩
theorem URd.put {w0 w w' : World} {rb fb : Nat} {v : Value} {l : List Fd} {s : RS} {C : Array Value} (h : URd w0 w rb v l s) (hb : Blk w fb C 52) (hne : ∀ g, v.ownBlock = some g → g < fb) (hM : Mod (fun j => j = fb) w w') (h0 : w0.heap.size ≤ fb) : URd w0 w' rb v l s :=
  ⟨hM.rdr h.rd (fun e => rdr_ne h.rd hb (by decide) e.symm) (fun b cs hb' e => hb.ne hb' (by decide) e.symm), h.own.kept hM (fun g hg e => by have := hne g hg; omega), h.mod.trans' hM (fun i hi e => by omega), h.base⟩
theorem URd.app {w0 w w' : World} {rb : Nat} {v v2 : Value} {l l2 : List Fd} {s : RS} (h : URd w0 w rb v l s) (hg : w.grownBy w' v.ownBlock) (ho : OwnF w' w0.heap.size v2 l2) : URd w0 w' rb v2 l2 s := by
  have hM : Mod (fun j => v.ownBlock = some j) w w' := (Mod.refl _ _).grown hg (fun k hk _ => hk)
  exact ⟨hM.rdr h.rd (h.own.rdr_apart h.rd) (fun b cs hb => h.own.apart hb (by decide)), ho, h.mod.trans' hM (fun i hi e => by have := (World.ownsRow.lt h.own i e).1; omega), h.base⟩
theorem URd.lt {w0 w : World} {rb : Nat} {v : Value} {l : List Fd} {s : RS} (h : URd w0 w rb v l s) : ∀ g, v.ownBlock = some g → g < w.heap.size := fun g hg => (World.ownsRow.lt h.own g hg).2
/-- The plain law, a step, in letters. -/
theorem unpack_step {n : Nat} {acc : List Fd} {s s1 s2 s3 s4 s5 : RS} {c : UInt8} {ia ib : Nat} {nm vl : List UInt8} (hs : s.l ≠ []) (h1 : s.byte = (c, s1)) (h2 : s1.int = (ia, s2)) (h3 : s2.bytes ia = (nm, s3)) (h4 : s3.int = (ib, s4)) (h5 : s4.bytes ib = (vl, s5)) :
    unpackL (n + 1) acc s = if c ≠ 32 then ([], 3) else if s5.e ≠ 0 then ([], s5.e) else if fieldsB (acc ++ [⟨nm, vl⟩]) = false then ([], 3) else unpackL n (acc ++ [⟨nm, vl⟩]) s5 := by
  show (if s.l = [] then _ else _) = _
  rw [if_neg hs, h1]
  simp only [h2, h3, h4, h5]
theorem unpack_nil {n : Nat} {acc : List Fd} {s : RS} (hs : s.l = []) : unpackL (n + 1) acc s = (acc, 0) := by
  show (if s.l = [] then _ else _) = _
  rw [if_pos hs]
end Go.Proofs.YtcnpiclpdgkngaaDoor
