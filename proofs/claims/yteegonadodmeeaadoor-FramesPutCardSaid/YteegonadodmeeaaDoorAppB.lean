/- 'append' of bytes to a row of bytes of the call's own: in a plain region and at a step of one that draws its order; literals of bytes. -/
import Derived.Test.YteegonadodmeeaaDoorAppS
namespace Go.Proofs.YteegonadodmeeaaDoor
open Go.RowKit

theorem OwnB.kept {S : Nat → Prop} {w w' : World} {B : Nat} {v : Value} {l : List UInt8} (h : OwnB w B v l) (hM : Mod S w w') (hS : ∀ g, v.ownBlock = some g → ¬ S g) : OwnB w' B v l := hM.own h hS
theorem OwnB.keptF {w w' : World} {B : Nat} {v : Value} {l : List UInt8} (h : OwnB w B v l) (hM : Mod (fun _ => False) w w') : OwnB w' B v l := hM.own h (fun _ _ h => h)
theorem OwnB.drew {w : World} {B : Nat} {v : Value} {l : List UInt8} (h : OwnB w B v l) : OwnB w.drew B v l := h.keptF (Mod.refl _ _).drew
theorem OwnB.alloc {w : World} {B : Nat} {v : Value} {l : List UInt8} (h : OwnB w B v l) (o : Obj) : OwnB (w.alloc o) B v l := h.keptF ((Mod.refl _ _).alloc o)
theorem OwnB.mono {w : World} {B B' : Nat} {v : Value} {l : List UInt8} (h : OwnB w B v l) (hB : B' ≤ B) : OwnB w B' v l := own_mono h hB
theorem own_lit (w : World) (l : List UInt8) (cs : Array Value) (n B : Nat) (hc : cs = (l.map bv).toArray) (hn : l.length = n) (hm : n ≤ maxLen) (hB : B ≤ w.heap.size) :
    OwnB (w.alloc (.cells cs 5)) B (.slice (some ⟨w.heap.size, 0, none⟩) n n) l := by
  subst hc; subst hn
  exact own_of_blk (Blk.new _ _ _) hB (by simp) hm
theorem byts_kept {w w' : World} {v : Value} {l : List UInt8} (h : Byts w v l) (hM : Mod (fun _ => False) w w') : Byts w' v l := h.kept hM (fun _ _ h => h)
theorem byts_drew {w : World} {v : Value} {l : List UInt8} (h : Byts w v l) : Byts w.drew v l := byts_kept h (Mod.refl _ _).drew
theorem byts_lit (w : World) (l : List UInt8) (cs : Array Value) (n : Nat) (hc : cs = (l.map bv).toArray) (hn : l.length = n) (hm : n ≤ maxLen) :
    Byts (w.alloc (.cells cs 5)) (.slice (some ⟨w.heap.size, 0, none⟩) n n) l := (own_lit w l cs n 0 hc hn hm (Nat.zero_le _)).byts
theorem grown_mod {w0 w w' : World} {B : Nat} {v : Value} {l : List UInt8} (hM : Mod (fun _ => False) w0 w) (hg : w.grownBy w' v.ownBlock) (ho : OwnB w B v l) (hB : w0.heap.size ≤ B) : Mod (fun _ => False) w0 w' :=
  hM.grown hg (fun k hk hlt => by have := (World.ownsRow.lt ho k hk).1; omega)
/-- What 'append' leaves, whatever world it was done in. -/
structure App (w w' : World) (B n : Nat) (v v' : Value) (l : List UInt8) : Prop where
  own : OwnB w' B v' l
  byts : Byts w' v' l
  val : ∃ a c, v' = .slice a n c
  mod : ∀ {w0 : World} {S : Nat → Prop}, Mod S w0 w → (∀ g, v.ownBlock = some g → g < w0.heap.size → S g) → Mod S w0 w'
  lt : ∀ g, v.ownBlock = some g → B ≤ g

theorem step_append_b {w : World} {ops : Array Oper} {o : Oper} {a : Act} {K : Act → World → Prop} {Q : Exit → Act → World → Prop} {E : Prop} (hgd : o.guard = none) (s x : Operand)
    (ho : o.op = .call { callee := .builtin .append, args := #[s, x], argTypes := #[23, 23] })
    (v : Value) (l : List UInt8) (B n : Nat) (hs : a.eval s = v) (hown : OwnB w B v l)
    (sv : Value) (news : List UInt8) (hx : a.eval x = sv) (hsl : Byts w sv news) (L : List UInt8) (hL : L = l ++ news) (hn : l.length + news.length = n) (hbytes : (n : Int) ≤ 140737488355328) (hbase : B ≤ w.heap.size)
    (h : ∀ ap cp w', App w w' B n v (.slice ap n cp) L → K (a.put o.dst (.slice ap n cp)) w') :
    if Region.wanted o (yielded ops a.tmps) = true then Oper.wp Tryd.prog o a w K Q else E := by
  subst hL
  obtain ⟨i0, hi, hz0, hz1, hz2⟩ := info_parts Tryd.info5
  refine step_append_sl hgd s x 23 ho B 5 i0 (.int .u8 0) 1 1 Tryd.underlying23 hi hz0 hz1 hz2 rfl (by decide) v l.length (l.map bv) hs hown sv news.length (news.map bv) hx hsl (bv_one _) (by omega) (by decide) hbase ?_
  intro v' w' ho' hg
  have ho2 : OwnB w' B v' (l ++ news) := by unfold OwnB; simpa using ho'
  obtain ⟨ap, cp, rfl, _⟩ := byts_val ho2.byts
  have e : (l ++ news).length = n := by simpa using hn
  rw [e] at ho2 ⊢
  exact h ap cp w' ⟨ho2, ho2.byts, ⟨_, _, rfl⟩, fun hM hS => hM.grown hg (fun k hk hlt => hS k hk hlt), fun g hg' => (World.ownsRow.lt hown g hg').1⟩
theorem wpList_append_b {w : World} {ops : Array Oper} {rest : List Oper} {o : Oper} {a : Act} {Q : Exit → Act → World → Prop} (hgd : o.guard = none) (s x : Operand)
    (ho : o.op = .call { callee := .builtin .append, args := #[s, x], argTypes := #[23, 23] })
    (v : Value) (l : List UInt8) (B n : Nat) (hs : a.eval s = v) (hown : OwnB w B v l)
    (sv : Value) (news : List UInt8) (hx : a.eval x = sv) (hsl : Byts w sv news) (L : List UInt8) (hL : L = l ++ news) (hn : l.length + news.length = n) (hbytes : (n : Int) ≤ 140737488355328) (hbase : B ≤ w.heap.size)
    (h : ∀ ap cp w', App w w' B n v (.slice ap n cp) L → wpList Tryd.prog ops Q rest (a.put o.dst (.slice ap n cp)) w') : wpList Tryd.prog ops Q (o :: rest) a w := by
  subst hL
  obtain ⟨i0, hi, hz0, hz1, hz2⟩ := info_parts Tryd.info5
  refine wpList_append_sl hgd s x 23 ho B 5 i0 (.int .u8 0) 1 1 Tryd.underlying23 hi hz0 hz1 hz2 rfl (by decide) v l.length (l.map bv) hs hown sv news.length (news.map bv) hx hsl (bv_one _) (by omega) (by decide) hbase ?_
  intro v' w' ho' hg
  have ho2 : OwnB w' B v' (l ++ news) := by unfold OwnB; simpa using ho'
  obtain ⟨ap, cp, rfl, _⟩ := byts_val ho2.byts
  have e : (l ++ news).length = n := by simpa using hn
  rw [e] at ho2 ⊢
  exact h ap cp w' ⟨ho2, ho2.byts, ⟨_, _, rfl⟩, fun hM hS => hM.grown hg (fun k hk hlt => hS k hk hlt), fun g hg' => (World.ownsRow.lt hown g hg').1⟩
theorem App.modF {w w' w0 : World} {B n : Nat} {v v' : Value} {l : List UInt8} (h : App w w' B n v v' l) (hM : Mod (fun _ => False) w0 w) (hB : w0.heap.size ≤ B) : Mod (fun _ => False) w0 w' :=
  h.mod hM (fun g hg hlt => by have := h.lt g hg; omega)
end Go.Proofs.YteegonadodmeeaaDoor
