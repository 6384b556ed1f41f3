/- Parts of the proof: SrG SrH PaB PaD PcM StA IEn. -/
import Derived.Test.YtahgidkpjmecdaaGreatDoorB01
import Derived.Test.YtahgidkpjmecdaaGreatDoorB02
import Derived.Test.YtahgidkpjmecdaaGreatDoorB06
import Derived.Test.YtahgidkpjmecdaaGreatDoorB07
import Derived.Test.YtahgidkpjmecdaaGreatDoorB08
import Derived.ChangeKeysEq
import Derived.Laws.StructEq
import Derived.WideKeyEntry
set_option maxRecDepth 100000
namespace Go.Proofs.YtahgidkpjmecdaaGreatDoor
open Go.RowKit Go.Maps Go.Shelf
attribute [local go_sem] Oper.semAt_some
theorem wpListIn_app {F : Fence} {n : Nat} {P : Program} {w w' : World} {ops : Array Oper} {rest : List Oper} {o : Oper} {a : Act} {Q : Exit → Act → World → Prop} {s x : Operand} {t u : TypeId} {sv xv v : Value} (hg : o.guard = none)
  (hop : o.op = Op.call { callee := Callee.builtin Builtin.append, args := #[s, x], argTypes := #[t, u] }) (hs : a.eval s = sv) (hx : a.eval x = xv) (hr : (Builtin.append_ #[t, u] o.type #[sv, xv]).run P w = .ok v w') (hK : wpListIn F n P ops Q rest (a.put o.dst v) w') : wpListIn F n P ops Q (o :: rest) a w := by
 refine wpListIn_plain hg fun K hK' => ?_
 unfold Oper.wpIn
 refine ⟨?_, ?_⟩
 ·simp [Oper.about, hop, resolve, Target.leads, Sem.run_pure]
 ·rw [Oper.semAt_plain F _ _ (by rw [hop]; intro c hc'; cases hc')]
  simp [execOp, hop, resolve, invoke, builtin, hs, hx, hr, Result.andThen]
  exact hK' _ _ hK
theorem wpListIn_del {F : Fence} {n : Nat} {P : Program} {w w' : World} {ops : Array Oper} {rest : List Oper} {o : Oper} {a : Act} {Q : Exit → Act → World → Prop} {s x : Operand} {t u : TypeId} {sv xv v : Value} (hg : o.guard = none)
  (hop : o.op = Op.call { callee := Callee.builtin Builtin.delete, args := #[s, x], argTypes := #[t, u] }) (hs : a.eval s = sv) (hx : a.eval x = xv) (hr : (Builtin.delete_ #[t, u] o.type #[sv, xv]).run P w = .ok v w') (hK : wpListIn F n P ops Q rest (a.put o.dst v) w') : wpListIn F n P ops Q (o :: rest) a w := by
 refine wpListIn_plain hg fun K hK' => ?_
 unfold Oper.wpIn
 refine ⟨?_, ?_⟩
 ·simp [Oper.about, hop, resolve, Target.leads, Sem.run_pure]
 ·rw [Oper.semAt_plain F _ _ (by rw [hop]; intro c hc'; cases hc')]
  simp [execOp, hop, resolve, invoke, builtin, hs, hx, hr, Result.andThen]
  exact hK' _ _ hK
theorem Mod.keepsFrom {S : Nat → Prop} {B : Nat} {W W' : World} (hM : Mod S W W') (hS : ∀ (k : Nat) (o : Obj), B ≤ k → W.heap[k]? = some o → o.isCells = false → ¬ S k) : KeepsFrom B W W' :=
 ⟨hM.size, fun k o hB hk ho => (hM.block k (Array.getElem?_eq_some_iff.1 hk).1 (hS k o hB hk ho)).trans hk⟩
theorem Blk.isCells {W : World} {b : Nat} {C : Array Value} {T : TypeId} {o : Obj} (h : Blk W b C T) (ho : W.heap[b]? = some o) : o.isCells = true := by
 unfold Blk at h
 rw [h] at ho
 cases ho
 rfl
def delK (dom : List Int) (read : Nat) : Nat → List Int
 | 0 => dom
 | k + 1 => (delK dom read k).filter (fun y => !decide (y = ((read + k : Nat) : Int)))
theorem delK_mem {dom : List Int} {read : Nat} {z : Int} : ∀ k, z ∈ delK dom read k ↔ z ∈ dom ∧ ¬ ((read : Int) ≤ z ∧ z < (read : Int) + (k : Int))
 | 0 => by
  unfold delK
  constructor
  ·exact fun h => ⟨h, by omega⟩
  ·exact fun h => h.1
 | k + 1 => by
  have ih := delK_mem (dom := dom) (read := read) (z := z) k
  unfold delK
  simp only [List.mem_filter, ih, Bool.not_eq_true', decide_eq_false_iff_not]
  constructor
  ·rintro ⟨⟨h1, h2⟩, h3⟩
   exact ⟨h1, by omega⟩
  ·rintro ⟨h1, h2⟩
   exact ⟨⟨h1, by omega⟩, by omega⟩
def cntI (dom : List Int) (read : Nat) : Nat → Nat
 | 0 => 0
 | m + 1 => if (read : Int) ∈ dom then cntI dom (read + 1) m + 1 else 0
theorem cntI_eq {dom : List Int} : ∀ (N read k : Nat), k ≤ N → (∀ j, j < k → ((read + j : Nat) : Int) ∈ dom) → (k = N ∨ ¬ ((read + k : Nat) : Int) ∈ dom) → cntI dom read N = k
 | 0, read, k, hk, _, _ => by
  have : k = 0 := by omega
  subst this
  rfl
 | N + 1, read, k, hk, h1, h2 => by
  unfold cntI
  cases k with
  | zero =>
   rcases h2 with h2 | h2
   ·omega
   ·rw [if_neg (by simpa using h2)]
  | succ k =>
   rw [if_pos (by simpa using h1 0 (by omega)), cntI_eq N (read + 1) k (by omega) (fun j hj => by have := h1 (j + 1) (by omega); rwa [show read + 1 + j = read + (j + 1) by omega]) (by
    rcases h2 with h2 | h2
    ·exact .inl (by omega)
    ·exact .inr (by rwa [show read + 1 + k = read + (k + 1) by omega]))]
def advI (k : Nat) (o : IB) : IB := { o with read := o.read + k, dom := delK o.dom o.read k }
def readCnt (o : IB) (n : Int) : Nat := cntI o.dom o.read n.toNat
def rowB (o : IB) (k : Nat) : List UInt8 := (List.range k).map fun j => o.f ((o.read + j : Nat) : Int)
def readB (o : IB) (n : Int) : List UInt8 := rowB o (readCnt o n)
def readI (o : IB) (n : Int) : IB := advI (readCnt o n) o
theorem rowB_len (o : IB) (k : Nat) : (rowB o k).length = k := by simp [rowB]
theorem rowB_succ (o : IB) (k : Nat) : rowB o (k + 1) = rowB o k ++ [o.f ((o.read + k : Nat) : Int)] := by simp [rowB, List.range_succ]
def ReadR (B : Nat) (w w' : World) (ib mb : Nat) (o : IB) (n : Int) (e : Ending) : Prop :=
 ∃ v, e = .returned v ∧ OwnB w' w.heap.size v (readB o n) ∧ IC B w w' ib mb (readI o n)
theorem row_any (w : World) (ib : Nat) : Calls Tryz.prog 198 #[.pointer (some ⟨ib, 0, none⟩)] w fun e w' => e = .returned (.func (.func 222) #[] #[.pointer (some ⟨w.heap.size, 0, none⟩)]) ∧ w' = w.alloc (.cells #[.pointer (some ⟨ib, 0, none⟩)] 106) := by
 go_enter Tryz.func198, Tryz.ntmps198
 go_wp2_with fail
 go_ret
 exact ⟨rfl, rfl⟩
structure RdI (B h0 : Nat) (w0 : World) (ib mb : Nat) (o : IB) (n : Int) (k : Nat) (W : World) : Prop where
 b0 : Blk W h0 #[.pointer (some ⟨ib, 0, none⟩)] 106
 b1 : Blk W (h0 + 1) #[.int .i64 n] 3
 b3 : Blk W (h0 + 1 + 1 + 1) #[.pointer (some ⟨ib, 0, none⟩)] 106
 out : ∃ v, Blk W (h0 + 1 + 1) #[v] 31 ∧ OwnB W h0 v (rowB o k)
 buf : IBuf B W ib mb (advI k o)
 all : ∀ j, j < k → rowM o j
 le : k ≤ n.toNat
 mod : Mod (IS ib mb) w0 W
theorem RdI.kept {B h0 : Nat} {w0 : World} {ib mb : Nat} {o : IB} {n : Int} {k : Nat} {W W' : World} {S : Nat → Prop} (h : RdI B h0 w0 ib mb o n k W) (hM : Mod S W W') (hS : ∀ (j : Nat) (o : Obj), S j → W.heap[j]? = some o → o.isCells = false) (hm : ¬ S mb) (hw : ∀ j, j < w0.heap.size → ¬ S j) : RdI B h0 w0 ib mb o n k W' := by
 have nS : ∀ {b : Nat} {C : Array Value} {T : TypeId}, Blk W b C T → ¬ S b := fun hb hs => by
  have := hS _ _ hs hb
  simp [Obj.isCells] at this
 obtain ⟨v, hv, ho⟩ := h.out
 refine ⟨hM.blk h.b0 (nS h.b0), hM.blk h.b1 (nS h.b1), hM.blk h.b3 (nS h.b3), ⟨v, hM.blk hv (nS hv), ho.keptM hM (fun g hg hs => ?_)⟩, h.buf.kept hM (fun j hj => ?_), h.all, h.le, h.mod.trans' hM (fun i hi hs => absurd hs (hw i hi))⟩
 ·rcases ho.2 with ⟨rfl, _⟩ | ⟨g', cap, cur, rfl, _, hgg, _⟩
  ·simp [Value.ownBlock] at hg
  ·simp [Value.ownBlock] at hg
   subst hg
   exact nS (show Blk W g' cur 5 from hgg) hs
 ·rcases hj with rfl | rfl
  ·exact nS h.buf.blk
  ·exact hm
attribute [local go_sem] Oper.semAt_some
def frR (h0 : Nat) (ib : Nat) (n : Int) (at' c : Value) : Act := { tmps := #[.pointer (some ⟨ib, 0, none⟩), .int .i64 n, .pointer (some ⟨h0, 0, none⟩), .pointer (some ⟨h0 + 1, 0, none⟩), .slice none 0 0, .pointer (some ⟨h0 + 1 + 1, 0, none⟩), at', c, .pointer (some ⟨ib, 0, none⟩), .func (.func 222) #[] #[.pointer (some ⟨h0 + 1 + 1 + 1, 0, none⟩)], at', c, undef, undef, undef, undef, undef, undef, undef, undef, undef, undef, undef, undef, undef, undef, undef, undef, undef, undef, undef], defers := [] }
theorem RdI.rowR {B h0 : Nat} {w0 : World} {ib mb : Nat} {o : IB} {n : Int} {k : Nat} {W : World} (h : RdI B h0 w0 ib mb o n k W) : RowR (h0 + 1 + 1 + 1) ib mb o k W :=
 ⟨h.b3.cellAt 0 rfl, fun e => by subst e; exact h.buf.blk.cellAt 1 rfl, h.buf.blk.cellAt 5 rfl, _, h.buf.map, fun z hz => by
  show z ∈ delK o.dom o.read k ↔ z ∈ o.dom
  rw [delK_mem]
  exact ⟨fun h => h.1, fun h => ⟨h, by omega⟩⟩⟩
theorem RdI.grown {B : Nat} {w0 : World} {ib mb : Nat} {o : IB} {n : Int} {k : Nat} {W W' : World} {row : Option Nat} (h : RdI B w0.heap.size w0 ib mb o n k W) (hg : W.grownBy W' row) (hm : mb < w0.heap.size) {E : Nat} (hE : w0.heap.size ≤ E) (hr : ∀ r, row = some r → E ≤ r ∧ ∃ o : Obj, W.heap[r]? = some o ∧ o.isCells = false) : RdI B w0.heap.size w0 ib mb o n k W' := by
 refine h.kept (S := fun j => row = some j) ((Mod.refl _ _).grown hg (fun k hk _ => hk)) (fun j o' hj ho => ?_) (fun e => ?_) (fun j hj e => ?_)
 ·obtain ⟨_, o2, h2, h3⟩ := hr j hj
  rw [ho] at h2
  cases h2
  exact h3
 ·have := (hr mb e).1; omega
 ·have := (hr j e).1; omega
theorem RdI.step {B : Nat} {w0 : World} {ib mb : Nat} {o : IB} {n : Int} {k : Nat} {W w1 w4 : World} {v v' : Value} {x : UInt8} (h : RdI B w0.heap.size w0 ib mb o n k W) (hib : ib < w0.heap.size) (hmb : mb < w0.heap.size) (hmore : rowM o k) (hk : k < n.toNat) (hd : ∀ z ∈ o.dom, (o.read : Int) ≤ z ∧ z < (o.top : Int))
  (hv : Blk W (w0.heap.size + 1 + 1) #[v] 31) (ho : OwnB W w0.heap.size v (rowB o k)) (hx : x = o.f ((o.read + k : Nat) : Int))
  (ho1 : OwnB w1 w0.heap.size v' (rowB o k ++ [x])) (hg1 : (W.alloc (.cells #[.int .u8 (x.toNat : Int)] 5)).grownBy w1 v.ownBlock)
  (hI : IMap 34 .u64 w4 mb ((delK o.dom o.read k).filter (fun y => !decide (y = ((o.read + k : Nat) : Int)))) (iF o)) (hM4 : Mod (fun k => k = mb) ((w1.setCell ⟨w0.heap.size + 1 + 1, 0, none⟩ v').setCell ⟨ib, 1, none⟩ (.int .u64 ((o.read + (k + 1) : Nat) : Int))) w4) :
  RdI B w0.heap.size w0 ib mb o n (k + 1) w4 ∧ KeepsFrom (w0.heap.size + 1 + 1 + 1 + 1) W w4 := by
 have nv : ∀ {b : Nat} {C : Array Value} {T : TypeId}, Blk W b C T → T ≠ 5 → ¬ v.ownBlock = some b := fun hb hT e => ho.ne hb hT _ e rfl
 have hM1 : Mod (fun j => v.ownBlock = some j) W w1 := ((Mod.refl _ _).alloc _).grown hg1 (fun k hk _ => hk)
 have hM3 : Mod (fun j => j = w0.heap.size + 1 + 1 ∨ v.ownBlock = some j ∨ j = ib) W ((w1.setCell ⟨w0.heap.size + 1 + 1, 0, none⟩ v').setCell ⟨ib, 1, none⟩ (.int .u64 ((o.read + (k + 1) : Nat) : Int))) :=
  ((hM1.mono (fun _ _ e => .inr (.inl e))).setCell (p := ⟨w0.heap.size + 1 + 1, 0, none⟩) (fun _ => .inl rfl) _).setCell (p := ⟨ib, 1, none⟩) (fun _ => .inr (.inr rfl)) _
 have hM : Mod (fun j => j = w0.heap.size + 1 + 1 ∨ v.ownBlock = some j ∨ j = ib ∨ j = mb) W w4 := (hM3.mono (fun _ _ e => by rcases e with e | e | e; exact .inl e; exact .inr (.inl e); exact .inr (.inr (.inl e)))).trans' hM4 (fun _ _ e => .inr (.inr (.inr e)))
 have hvl := fun g hg => (ho.lt g hg).1
 have hbk := h.buf.blk
 have hb1 : Blk w1 ib (iCells mb (advI k o)) 188 := hM1.blk hbk (nv hbk (by decide))
 have hb2 : Blk (w1.setCell ⟨w0.heap.size + 1 + 1, 0, none⟩ v') ib (iCells mb (advI k o)) 188 := hb1.setOther (by show ib ≠ w0.heap.size + 1 + 1; omega) _
 have hb3 := hb2.set 1 (.int .u64 ((o.read + (k + 1) : Nat) : Int))
 have hlt : o.read + k < o.top := by have := hd _ hmore; omega
 have hok := h.buf.ok
 have nb : ∀ {b : Nat} {C : Array Value} {T : TypeId}, Blk W b C T → T ≠ 5 → w0.heap.size ≤ b → b ≠ w0.heap.size + 1 + 1 → Blk w4 b C T := fun {b C T} hb hT h1 h2 => hM.blk hb (by
  rintro (e | e | e | e)
  ·exact h2 e
  ·exact nv hb hT e
  ·omega
  ·omega)
 have hv1 : Blk w1 (w0.heap.size + 1 + 1) #[v] 31 := hM1.blk hv (nv hv (by decide))
 have hv2 : Blk (w1.setCell ⟨w0.heap.size + 1 + 1, 0, none⟩ v') (w0.heap.size + 1 + 1) #[v'] 31 := hv1.set 0 v'
 have n1 : ∀ g, v'.ownBlock = some g → ¬ g = w0.heap.size + 1 + 1 := fun g hg => ho1.ne hv1 (by decide) g hg
 have n2 : ∀ g, v'.ownBlock = some g → ¬ g = ib := fun g hg => ho1.ne hb1 (by decide) g hg
 have s1 : Mod (fun j => j = w0.heap.size + 1 + 1) w1 (w1.setCell ⟨w0.heap.size + 1 + 1, 0, none⟩ v') := (Mod.refl (fun j => j = w0.heap.size + 1 + 1) _).setCell (p := ⟨w0.heap.size + 1 + 1, 0, none⟩) (fun _ => rfl) _
 have s2 : Mod (fun j => j = ib) (w1.setCell ⟨w0.heap.size + 1 + 1, 0, none⟩ v') ((w1.setCell ⟨w0.heap.size + 1 + 1, 0, none⟩ v').setCell ⟨ib, 1, none⟩ (.int .u64 ((o.read + (k + 1) : Nat) : Int))) := (Mod.refl (fun j => j = ib) _).setCell (p := ⟨ib, 1, none⟩) (fun _ => rfl) _
 have s3 : OwnB w4 w0.heap.size v' (rowB o (k + 1)) := by
  rw [rowB_succ, ← hx]
  exact ((ho1.keptM s1 n1).keptM s2 n2).keptM hM4 (fun g hg e => by have := (ho1.lt g hg).1; omega)
 refine ⟨⟨nb h.b0 (by decide) (Nat.le_refl _) (by omega), nb h.b1 (by decide) (by omega) (by omega), nb h.b3 (by decide) (by omega) (by omega), ⟨v', ?_, s3⟩, ⟨h.buf.at0, h.buf.at1, ?_, hI, ?_, ?_⟩, ?_, hk, ?_⟩, ?_⟩
 ·exact hM4.blk (s2.blk hv2 (by show ¬ w0.heap.size + 1 + 1 = ib; omega)) (by show ¬ w0.heap.size + 1 + 1 = mb; omega)
 ·exact hM4.blk hb3 (fun e => (h.buf.map.ne hbk) e.symm)
 ·intro z hz
  have hz2 := (delK_mem (k + 1)).1 hz
  have := hd z hz2.1
  show ((o.read + (k + 1) : Nat) : Int) ≤ z ∧ z < (o.top : Int)
  omega
 ·have e1 : (advI (k + 1) o).read = o.read + (k + 1) := rfl
  have e2 : (advI k o).read = o.read + k := rfl
  have e3 : (advI (k + 1) o).win = (advI k o).win := rfl
  have e4 : (advI (k + 1) o).top = o.top := rfl
  have e5 : (advI k o).top = o.top := rfl
  have e6 : (advI (k + 1) o).size = (advI k o).size := rfl
  rw [e1, e3, e4, e6]
  rw [e2, e5] at hok
  omega
 ·intro j hj
  by_cases e : j = k
  ·rw [e]; exact hmore
  ·exact h.all j (by omega)
 ·refine h.mod.trans' hM (fun i hi e => ?_)
  rcases e with e | e | e | e
  ·omega
  ·have := hvl i e; omega
  ·exact .inl e
  ·exact .inr e
 ·refine hM.keepsFrom (fun j o' hj ho' hc e => ?_)
  rcases e with e | e | e | e
  ·omega
  ·rcases ho.2 with ⟨rfl, _⟩ | ⟨g', cap, cur, rfl, _, hgg, _⟩
   ·simp [Value.ownBlock] at e
   ·simp [Value.ownBlock] at e
    subst e
    rw [hgg] at ho'
    cases ho'
    simp [Obj.isCells] at hc
  ·omega
  ·omega
set_option maxHeartbeats 2000000 in
theorem iread_in {B : Nat} {w : World} {ib mb : Nat} {o : IB} (q : IBuf B w ib mb o) (n : Int) (hn : n ≤ 1000000000) :
  CallsIn Fence.wide 6 Tryz.prog 116 #[.pointer (some ⟨ib, 0, none⟩), .int .i64 n] w fun e w' => ReadR B w w' ib mb o n e := by
 have h1 : 1 ≤ 6 := by omega
 have HQ := Lib.hid q
 have HN := Lib.hid hn
 clear q hn
 refine callsIn_of_wp_marks Tryz.func116 rfl trivial ?_ rfl
 simp only [Tryz.ntmps116, List.size_toArray, List.length_cons, List.length_nil, Nat.reduceAdd, Nat.reduceSub, Array.replicate_succ, Array.replicate_zero, List.push_toArray, List.append_toArray, List.nil_append, List.cons_append]
 have hx0 : Fence.wide.fn 198 := trivial
 gi_wp2_with (first
  | (gi_at_call 198; refine (callsIn_wide.2 (row_any _ _)).mono ?_; rintro e w' ⟨rfl, rfl⟩)
  | fail)
 have HI0 : RdI B w.heap.size w ib mb o n 0 ((((w.alloc (.cells #[.pointer (some ⟨ib, 0, none⟩)] 106)).alloc (.cells #[.int .i64 n] 3)).alloc (.cells #[.slice none 0 0] 31)).alloc (.cells #[.pointer (some ⟨ib, 0, none⟩)] 106)) := by
  have e0 := Blk.new w #[.pointer (some ⟨ib, 0, none⟩)] 106
  have e1 := Blk.new (w.alloc (.cells #[.pointer (some ⟨ib, 0, none⟩)] 106)) #[.int .i64 n] 3
  have e2 := Blk.new ((w.alloc (.cells #[.pointer (some ⟨ib, 0, none⟩)] 106)).alloc (.cells #[.int .i64 n] 3)) #[.slice none 0 0] 31
  have e3 := Blk.new (((w.alloc (.cells #[.pointer (some ⟨ib, 0, none⟩)] 106)).alloc (.cells #[.int .i64 n] 3)).alloc (.cells #[.slice none 0 0] 31)) #[.pointer (some ⟨ib, 0, none⟩)] 106
  simp only [World.size_alloc] at e1 e2 e3
  have hM : Mod (fun _ => False) w ((((w.alloc (.cells #[.pointer (some ⟨ib, 0, none⟩)] 106)).alloc (.cells #[.int .i64 n] 3)).alloc (.cells #[.slice none 0 0] 31)).alloc (.cells #[.pointer (some ⟨ib, 0, none⟩)] 106)) := ((((Mod.refl _ _).alloc _).alloc _).alloc _).alloc _
  exact ⟨((e0.alloc _).alloc _).alloc _, (e1.alloc _).alloc _, e3, ⟨_, e2.alloc _, OwnB.nilI _ _⟩, HQ.out.still hM, fun j hj => absurd hj (Nat.not_lt_zero _), Nat.zero_le _, hM.mono (fun _ _ h => h.elim)⟩
 have HS : Hid (((((w.alloc (.cells #[.pointer (some ⟨ib, 0, none⟩)] 106)).alloc (.cells #[.int .i64 n] 3)).alloc (.cells #[.slice none 0 0] 31)).alloc (.cells #[.pointer (some ⟨ib, 0, none⟩)] 106)).heap.size = w.heap.size + 1 + 1 + 1 + 1) := Lib.hid (by simp)
 generalize ((((w.alloc (.cells #[.pointer (some ⟨ib, 0, none⟩)] 106)).alloc (.cells #[.int .i64 n] 3)).alloc (.cells #[.slice none 0 0] 31)).alloc (.cells #[.pointer (some ⟨ib, 0, none⟩)] 106)) = W0 at *
 have HLT : Hid (ib < w.heap.size ∧ mb < w.heap.size) := Lib.hid ⟨HQ.out.blk.lt, HQ.out.map.lt⟩
 have HD := Lib.hid HQ.out.doms
 have HT := Lib.hid HQ.out.ok
 refine wpIn_rangeFunc_row rfl h1 (gf := 222) (lb := #[.pointer (some ⟨w.heap.size + 1 + 1 + 1, 0, none⟩)]) rfl trivial (enters_of Tryz.func222 (by kernel_rfl) rfl)
  (row1_stops Fence.wide (6 - 1) trivial rfl (by omega) (w.heap.size + 1 + 1 + 1) ib mb o (fun z hz => (HD.out z hz).2) (by have := HT.out; omega) W0) (Below.refl _ _) (fun _ => rfl)
  (fun k W => RdI B w.heap.size w ib mb o n k W) (fun c k W => (c = .exit 0 ∧ k = n.toNat) ∧ RdI B w.heap.size w ib mb o n k W) (fun k W h => h.rowR)
  (fun s A A' row hs hg hr => hs.grown hg HLT.out.2 (E := W0.heap.size) (by have := HS.out; omega) hr) (fun c s A A' row hs hg hr => ⟨hs.1, hs.2.grown hg HLT.out.2 (E := W0.heap.size) (by have := HS.out; omega) hr⟩) HI0
  (fun k => frR w.heap.size ib n (.int .u64 ((o.read + k : Nat) : Int)) (.int .u8 ((o.f ((o.read + k : Nat) : Int)).toNat : Int))) ?assign ?body ?done ?stop
 case assign =>
  intro l x W K hK
  unfold frR at hK
  unfold rowE
  gi_wp2
  exact hK
 case body =>
  rintro l k W hI hmore
  obtain ⟨v, hv, ho⟩ := hI.out
  obtain ⟨va, vc, rfl, -⟩ := Sl.val ho.byts
  have HI := Lib.hid hI
  have HV := Lib.hid (And.intro hv ho)
  have c0 : W.cell? ⟨w.heap.size, 0, none⟩ = some (.pointer (some ⟨ib, 0, none⟩)) := hI.b0.cellAt 0 rfl
  have c1 : W.cell? ⟨w.heap.size + 1, 0, none⟩ = some (.int .i64 n) := hI.b1.cellAt 0 rfl
  have c2 : W.cell? ⟨w.heap.size + 1 + 1, 0, none⟩ = some (.slice va (rowB o k).length vc) := hv.cellAt 0 rfl
  rw [rowB_len] at c2
  unfold frR
  by_cases hk : k < n.toNat
  ·have t1 : decide (n ≤ (k : Int)) = false := decide_eq_false (by omega)
   obtain ⟨x, hx⟩ : ∃ x, x = o.f ((o.read + k : Nat) : Int) := ⟨_, rfl⟩
   rw [← hx]
   obtain ⟨v', w1, hr1, ho1, hg1, -⟩ := OwnB.append (ho.alloc (.cells #[.int .u8 (x.toNat : Int)] 5)) (byts_lit W [x] #[.int .u8 (x.toNat : Int)] 1 rfl rfl (by decide)) (by have := HS.out; have := hI.b0.lt; simp; omega) (by have := HN.out; rw [rowB_len]; simp; omega) 31
   obtain ⟨va', vc', rfl, -⟩ := Sl.val ho1.byts
   have hgM := (Mod.refl (fun j => (Value.slice va (rowB o k).length vc).ownBlock = some j) (W.alloc (.cells #[.int .u8 (x.toNat : Int)] 5))).grown hg1 (fun k hk _ => hk)
   have nv : ∀ {b : Nat} {C : Array Value} {T : TypeId}, Blk W b C T → T ≠ 5 → Blk w1 b C T := fun hb hT => hgM.blk (hb.alloc _) (fun e => ho.ne hb hT _ e rfl)
   have b0 := nv hI.b0 (by decide)
   have b2 := nv hv (by decide)
   have bi := nv hI.buf.blk (by decide)
   have hlt : o.read + k < o.top := by have := HD.out _ hmore; omega
   have hw : IntKind.u64.wrap (((o.read + k : Nat) : Int) + 1) = ((o.read + (k + 1) : Nat) : Int) := by rw [IntWalk.u64_in _ (by have := HT.out; omega)]; omega
   have d2 : w1.cell? ⟨w.heap.size + 1 + 1, 0, none⟩ = some (.slice va (rowB o k).length vc) := b2.cellAt 0 rfl
   have f2 : w1.frozen? ⟨w.heap.size + 1 + 1, 0, none⟩ = false := b2.free 0
   have e0 : w1.cell? ⟨w.heap.size, 0, none⟩ = some (.pointer (some ⟨ib, 0, none⟩)) := b0.cellAt 0 rfl
   have e1 : w1.cell? ⟨ib, 1, none⟩ = some (.int .u64 ((o.read + k : Nat) : Int)) := bi.cellAt 1 rfl
   have g1 : w1.frozen? ⟨ib, 1, none⟩ = false := bi.free 1
   have e5 : w1.cell? ⟨ib, 5, none⟩ = some (.map (some mb)) := bi.cellAt 5 rfl
   have hmap1 : IMap 34 .u64 w1 mb (delK o.dom o.read k) (iF o) := (hI.buf.map.kept ((Mod.refl (fun _ => False) W).alloc _) (fun e => e)).kept hgM (fun e => by have := (ho.lt mb e).1; have := HLT.out; omega)
   have n1 : ¬ w.heap.size = w.heap.size + 1 + 1 := by omega
   have n2 : ¬ ib = w.heap.size + 1 + 1 := by have := HLT.out; omega
   have n3 : ¬ w.heap.size = ib := by have := HLT.out; omega
   have n4 : ¬ w.heap.size + 1 + 1 = ib := by have := HLT.out; omega
   have hmap3 : IMap 34 .u64 ((w1.setCell ⟨w.heap.size + 1 + 1, 0, none⟩ (.slice va' ((rowB o k) ++ [x]).length vc')).setCell ⟨ib, 1, none⟩ (.int .u64 ((o.read + (k + 1) : Nat) : Int))) mb (delK o.dom o.read k) (iF o) :=
    hmap1.kept (S := fun j => j = w.heap.size + 1 + 1 ∨ j = ib) (((Mod.refl _ _).setCell (p := ⟨w.heap.size + 1 + 1, 0, none⟩) (fun _ => .inl rfl) _).setCell (p := ⟨ib, 1, none⟩) (fun _ => .inr rfl) _) (by rintro (e | e); (have := HLT.out; omega); exact hmap1.ne bi e)
   obtain ⟨w4, hr4, hmap4, hM4⟩ := hmap3.del (z := ((o.read + k : Nat) : Int)) (t := 186) (e := 5) Tryz.underlying34 (u64_wf (by have := HT.out; omega)) Tryz.underlying186 0
   have HFIN := Lib.hid (HI.out.step HLT.out.1 HLT.out.2 hmore hk HD.out hv ho hx ho1 hg1 hmap4 hM4)
   have HR1 := Lib.hid hr1
   have HR4 := Lib.hid hr4
   clear hI hv ho hx ho1 hg1 hgM nv b0 b2 bi hlt hmap1 hmap3 hr1 hr4 hmap4 hM4 hk hmore
   rw [rowB_len] at HR1
   generalize (rowB o k ++ [x]).length = m at *
   generalize (rowB o k).length = m' at *
   generalize hzx : (x.toNat : Int) = zx at *
   generalize ((o.read + (k + 1) : Nat) : Int) = z1 at *
   generalize ((o.read + k : Nat) : Int) = z0 at *
   gi_wp2_with (first
    | ((with_reducible refine wpListIn_app (s := .tmp 16) (x := .tmp 18) ?_ ?_ ?_ ?_ HR1.out ?_); (iterate 4 exact rfl))
    | ((with_reducible refine wpListIn_del (s := .tmp 28) (x := .tmp 29) ?_ ?_ ?_ ?_ HR4.out ?_); (iterate 4 exact rfl))
    | fail)
   exact ⟨by rw [HS.out]; exact HFIN.out.2, HFIN.out.1⟩
  ·have t1 : decide (n ≤ (k : Int)) = true := decide_eq_true (by omega)
   have hkn : k = n.toNat := by have := hI.le; omega
   have HK := Lib.hid hkn
   clear hI hv ho hk hmore hkn
   gi_wp2
   exact ⟨KeepsFrom.refl _ _, ⟨rfl, HK.out⟩, HI.out⟩
 case done =>
  rintro D k W hD hmore hI hK
  obtain ⟨v, hv, ho⟩ := hI.out
  obtain ⟨va, vc, rfl, -⟩ := Sl.val ho.byts
  have c2 : W.cell? ⟨w.heap.size + 1 + 1, 0, none⟩ = some (.slice va (rowB o k).length vc) := hv.cellAt 0 rfl
  have HI := Lib.hid hI
  have HO := Lib.hid ho
  have HX : Hid (readCnt o n = k) := Lib.hid (cntI_eq n.toNat o.read k hI.le hI.all (.inr hmore))
  clear hI hv ho
  have hDL : w.heap.size + 1 + 1 + 1 + 1 ≤ D := by have := HS.out; omega
  have HDL := Lib.hid hDL
  clear hDL hD
  gi_wp2
  refine ⟨by simp, .inl ⟨_, _, rfl, run_takeDeferred hK, ?_⟩⟩
  have hI2 := HI.out.grown (E := W0.heap.size) (grownBy_putObj' W D (.deferred none)) HLT.out.2 (by have := HS.out; omega) (fun r e => by cases e; exact ⟨by have := HS.out; have := HDL.out; omega, _, hK, rfl⟩)
  have ho2 : OwnB (W.putObj D (.deferred none)) w.heap.size (.slice va (rowB o k).length vc) (rowB o k) := HO.out.keptM (S := fun j => j = D) ((Mod.refl (fun j => j = D) _).grown (grownBy_putObj' W D (.deferred none)) (fun k hk _ => (Option.some.inj hk).symm)) (fun g hg e => by
   subst e
   rcases HO.out.2 with ⟨h1, _⟩ | ⟨g', cap, cur, he, _, hgg, _⟩
   ·simp at h1
    rw [h1.1] at hg
    simp [Value.ownBlock] at hg
   ·rw [he] at hg
    simp [Value.ownBlock] at hg
    subst hg
    rw [hK] at hgg
    cases hgg)
  refine ⟨_, results_tmp rfl _ _ _, .slice va (rowB o k).length vc, rfl, ?_, ?_, ?_⟩
  ·unfold readB
   rw [HX.out]
   exact ho2
  ·unfold readI
   rw [HX.out]
   exact hI2.buf
  ·exact hI2.mod
 case stop =>
  rintro D c k W hD ⟨⟨rfl, hk⟩, hI⟩ hK
  have HKN := Lib.hid hk
  clear hk
  obtain ⟨v, hv, ho⟩ := hI.out
  obtain ⟨va, vc, rfl, -⟩ := Sl.val ho.byts
  have c2 : W.cell? ⟨w.heap.size + 1 + 1, 0, none⟩ = some (.slice va (rowB o k).length vc) := hv.cellAt 0 rfl
  have HI := Lib.hid hI
  have HO := Lib.hid ho
  have HX : Hid (readCnt o n = k) := Lib.hid (cntI_eq n.toNat o.read k hI.le hI.all (.inl HKN.out))
  clear hI hv ho
  have hDL : w.heap.size + 1 + 1 + 1 + 1 ≤ D := by have := HS.out; omega
  have HDL := Lib.hid hDL
  clear hDL hD
  gi_wp2
  refine ⟨by simp, .inl ⟨_, _, rfl, run_takeDeferred hK, ?_⟩⟩
  have hI2 := HI.out.grown (E := W0.heap.size) (grownBy_putObj' W D (.deferred none)) HLT.out.2 (by have := HS.out; omega) (fun r e => by cases e; exact ⟨by have := HS.out; have := HDL.out; omega, _, hK, rfl⟩)
  have ho2 : OwnB (W.putObj D (.deferred none)) w.heap.size (.slice va (rowB o k).length vc) (rowB o k) := HO.out.keptM (S := fun j => j = D) ((Mod.refl (fun j => j = D) _).grown (grownBy_putObj' W D (.deferred none)) (fun k hk _ => (Option.some.inj hk).symm)) (fun g hg e => by
   subst e
   rcases HO.out.2 with ⟨h1, _⟩ | ⟨g', cap, cur, he, _, hgg, _⟩
   ·simp at h1
    rw [h1.1] at hg
    simp [Value.ownBlock] at hg
   ·rw [he] at hg
    simp [Value.ownBlock] at hg
    subst hg
    rw [hK] at hgg
    cases hgg)
  refine ⟨_, results_tmp rfl _ _ _, .slice va (rowB o k).length vc, rfl, ?_, ?_, ?_⟩
  ·unfold readB
   rw [HX.out]
   exact ho2
  ·unfold readI
   rw [HX.out]
   exact hI2.buf
  ·exact hI2.mod
theorem iread_any {B : Nat} {w : World} {ib mb : Nat} {o : IB} (q : IBuf B w ib mb o) (n : Int) (hn : n ≤ 1000000000) :
  Calls Tryz.prog 116 #[.pointer (some ⟨ib, 0, none⟩), .int .i64 n] w fun e w' => ReadR B w w' ib mb o n e := callsIn_wide.1 (iread_in q n hn)
end Go.Proofs.YtahgidkpjmecdaaGreatDoor
set_option maxRecDepth 100000
namespace Go.Proofs.YtahgidkpjmecdaaGreatDoor
structure Pm where
 i : Nat
 d : Nat
 s : Nat
 n : Nat
 h : Bool
 t : List UInt8
def zerosP : List UInt8 := [0, 0, 0, 0, 0, 0, 0, 0, 0, 0, 0, 0, 0, 0, 0, 0]
def Pm.zero : Pm := ⟨0, 0, 0, 0, false, zerosP⟩
def pmL (p : Pm) : List Value := [.int .u64 (p.i : Int), .int .u64 (p.d : Int), .int .u64 (p.s : Int), .int .u64 (p.n : Int), .bool p.h] ++ p.t.map bv
def pmC (p : Pm) : Array Value := (pmL p).toArray
def pmV (p : Pm) : Value := .agg (pmC p)
def mayB (p : Pm) : Bool := decide ((p.i : Int) ≤ 4611686018427387903) && decide ((p.d : Int) ≤ 4611686018427387903) && decide ((p.s : Int) ≤ 4611686018427387903) && decide ((p.n : Int) ≤ 1152921504606846976) && (p.h || decide (p.t = zerosP))
theorem pmC_size (p : Pm) (h : p.t.length = 16) : (pmC p).size = 21 := by simp [pmC, pmL, h]
theorem pmC_one (p : Pm) : ∀ v ∈ pmL p, v.oneCell' = true := by
 intro v hv
 simp only [pmL, List.mem_append, List.mem_cons, List.not_mem_nil, or_false] at hv
 rcases hv with (rfl | rfl | rfl | rfl | rfl) | hv <;> try rfl
 exact bv_one _ _ hv
theorem pmC_tok (p : Pm) (j : Nat) (x : UInt8) (h : p.t[j]? = some x) : (pmC p)[5 + j]? = some (bv x) := by
 simp only [pmC, pmL, List.getElem?_toArray]
 rw [List.getElem?_append_right (by simp)]
 simp [h]
end Go.Proofs.YtahgidkpjmecdaaGreatDoor
set_option maxRecDepth 100000
namespace Go.Proofs.YtahgidkpjmecdaaGreatDoor
open Go.RowKit
set_option maxRecDepth 100000 in
theorem wpList_eq_g {P : Program} {ops : Array Oper} {rest : List Oper} {op : Oper} {a : Act} {w : World} {Q : Exit → Act → World → Prop} (b : BinOp) (ty t' : TypeId) (x y : Operand) (ho : op.op = .binOp b ty x y t') (hw : Region.wanted op (yielded ops a.tmps) = true)
  (X Y : Array Value) (hx : a.eval x = .agg X) (hy : a.eval y = .agg Y) (hg : P.eqGuardType P.depth ty = false) (r : Bool) (hrun : (binOp b ty (.agg X) (.agg Y)).run P w = .ok (.bool r) w)
  (k : wpList P ops Q rest (a.put op.dst (.bool r)) w) : wpList P ops Q (op :: rest) a w := by
 refine BigFrame.wpList_want hw fun K hK => ?_
 unfold Oper.wp execOp
 simp only [ho, hx, hy, Sem.run_bind, run_eqGuard_agg (P := P) w b ty x y X Y hg, Result.andThen_ok, hrun, Sem.run_pure]
 exact hK _ _ k
set_option maxRecDepth 100000 in
theorem wpList_load_g {P : Program} {ops : Array Oper} {rest : List Oper} {op : Oper} {a : Act} {w : World} {Q : Exit → Act → World → Prop} (ty : TypeId) (x : Operand) (ho : op.op = .load ty x) (hw : Region.wanted op (yielded ops a.tmps) = true)
  (p v : Value) (hx : a.eval x = p) (hl : (Instr.loadAt ty p).run P w = .ok v w) (k : wpList P ops Q rest (a.put op.dst v) w) : wpList P ops Q (op :: rest) a w := by
 refine BigFrame.wpList_want hw fun K hK => ?_
 unfold Oper.wp execOp
 simp only [ho, hx, Sem.run_bind, hl, Result.andThen_ok, Sem.run_pure]
 exact hK _ _ k
set_option maxRecDepth 100000 in
theorem part8P (w : World) (t : List UInt8) (i : Nat) (x : UInt8) (h : t[i]? = some x) : (part 5 (t.map bv).toArray i).run Tryz.prog w = .ok (bv x) w := by
 simp [part, isAgg, run_underlying Tryz.underlying5, h]
set_option maxRecDepth 100000 in
theorem items8P (w : World) (d : Nat) (t t' : List UInt8) : ∀ is : List Nat, (∀ i ∈ is, i < t.length ∧ i < t'.length) →
  (Op.eqItems (d + 1) 5 1 (t.map bv).toArray (t'.map bv).toArray is).run Tryz.prog w = .ok (is.all fun i => t[i]? == t'[i]?) w
 | [], _ => by simp [Op.eqItems]
 | i :: is, h => by
  obtain ⟨h1, h2⟩ := h i (by simp)
  have ih := items8P w d t t' is (fun j hj => h j (by simp [hj]))
  have e1 : t[i]? = some t[i] := List.getElem?_eq_getElem h1
  have e2 : t'[i]? = some t'[i] := List.getElem?_eq_getElem h2
  have p1 := part8P w t i _ e1
  have p2 := part8P w t' i _ e2
  have q : (Op.equalIn (d + 1) 5 (bv t[i]) (bv t'[i])).run Tryz.prog w = .ok (t[i] == t'[i]) w := by
   unfold bv
   rw [run_equalIn_int w d 5 .u8 .u8 _ _ Tryz.underlying5]
   congr 1
   rw [Bool.eq_iff_iff]; simp only [beq_iff_eq]; rw [← UInt8.toNat_inj]; omega
  simp only [Op.eqItems, Sem.run_bind, Nat.mul_one, p1, p2, q, Result.andThen_ok, List.all_cons, e1, e2]
  cases hb : (t[i] == t'[i])
  ·simp [hb]
  ·simp [hb, ih]
set_option maxRecDepth 100000 in
theorem eqTokP (w : World) (d : Nat) (t t' : List UInt8) (h : t.length = 16) (h' : t'.length = 16) :
  (Op.equalIn (d + 2) 61 (.agg (t.map bv).toArray) (.agg (t'.map bv).toArray)).run Tryz.prog w = .ok (decide (t = t')) w := by
 obtain ⟨i0, hi, _⟩ := info_parts Tryz.info5
 rw [Go.run_equalIn_array w (d + 1) _ _ Tryz.underlying61 hi, show Program.cellsOf Tryz.prog 5 = 1 by kernel_rfl, items8P w d t t' _ (fun i hi => by simp at hi; omega)]
 congr 1
 rw [Bool.eq_iff_iff]
 simp only [List.all_eq_true, List.mem_range, beq_iff_eq, decide_eq_true_eq]
 constructor
 ·intro hh
  apply List.ext_getElem?
  intro i
  by_cases hi : i < 16
  ·exact hh i hi
  ·rw [List.getElem?_eq_none (by omega), List.getElem?_eq_none (by omega)]
 ·rintro rfl _ _; rfl
set_option maxRecDepth 100000 in
theorem tok_bin (w : World) (t t' : List UInt8) (h : t.length = 16) (h' : t'.length = 16) :
  (binOp .eql 61 (.agg (t.map bv).toArray) (.agg (t'.map bv).toArray)).run Tryz.prog w = .ok (.bool (decide (t = t'))) w := by
 rw [run_eql_struct, show (10000 : Nat) = 9998 + 2 from rfl, eqTokP w 9998 t t' h h']
 rfl
set_option maxRecDepth 100000 in
theorem tok_guard : Program.eqGuardType Tryz.prog (Program.depth Tryz.prog) 61 = false := by kernel_rfl
structure PmB (w : World) (b : Nat) (p : Pm) : Prop where
 blk : Blk w b (pmC p) 63
 len : p.t.length = 16
theorem size25 (p : Pm) (h : p.t.length = 16) : (Tryz.prog.info? 63).map (·.size) = some (pmC p).size := by rw [pmC_size p h]; kernel_rfl
theorem size23 : (Tryz.prog.info? 61).map (·.size) = some 16 := by kernel_rfl
theorem PmB.cells {w : World} {b : Nat} {p : Pm} (h : PmB w b p) : w.cell? ⟨b, 0, none⟩ = some (.int .u64 (p.i : Int)) ∧ w.cell? ⟨b, 1, none⟩ = some (.int .u64 (p.d : Int)) ∧ w.cell? ⟨b, 2, none⟩ = some (.int .u64 (p.s : Int)) ∧ w.cell? ⟨b, 3, none⟩ = some (.int .u64 (p.n : Int)) ∧ w.cell? ⟨b, 4, none⟩ = some (.bool p.h) :=
 ⟨h.blk.cellAt 0 rfl, h.blk.cellAt 1 rfl, h.blk.cellAt 2 rfl, h.blk.cellAt 3 rfl, h.blk.cellAt 4 rfl⟩
theorem PmB.tok {w : World} {b : Nat} {p : Pm} (h : PmB w b p) : w.rangeAt b 5 (p.t.map bv) := h.blk.range 5 _ (fun j v hv => by
 rw [List.getElem?_map] at hv
 obtain ⟨x, hx, rfl⟩ := Option.map_eq_some_iff.1 hv
 exact pmC_tok p j x hx)
theorem PmB.loadTok {w : World} {b : Nat} {p : Pm} (h : PmB w b p) : (Instr.loadAt 61 (.pointer (some ⟨b, 5, none⟩))).run Tryz.prog w = .ok (.agg (p.t.map bv).toArray) w :=
 run_loadAt_mid w b 5 61 (p.t.map bv) _ h.tok Tryz.underlying61 rfl (by rw [size23, List.length_map, h.len])
theorem PmB.new (w : World) (p : Pm) (h : p.t.length = 16) : PmB (w.alloc (.cells (pmC p) 63)) w.heap.size p := ⟨Blk.new _ _ _, h⟩
theorem zeros_cells : #[Value.int .u8 0, .int .u8 0, .int .u8 0, .int .u8 0, .int .u8 0, .int .u8 0, .int .u8 0, .int .u8 0, .int .u8 0, .int .u8 0, .int .u8 0, .int .u8 0, .int .u8 0, .int .u8 0, .int .u8 0, .int .u8 0] = (zerosP.map bv).toArray := rfl
set_option maxHeartbeats 400000 in
set_option maxRecDepth 10000 in
theorem may_any {p : Pm} (h : p.t.length = 16) (w : World) : Calls Tryz.prog 40 #[pmV p] w fun e w' => e = .returned (.bool (mayB p)) ∧ Mod (fun _ => False) w w' := by
 have HB := PmB.new w p h
 obtain ⟨c0, c1, c2, c3, c4⟩ := HB.cells
 have lt := Lib.hid HB.loadTok
 have te := Lib.hid (fun w => tok_bin w p.t zerosP h rfl)
 obtain ⟨D, hD⟩ : ∃ D, D = decide (p.t = zerosP) := ⟨_, rfl⟩
 rw [← hD, ← zeros_cells] at te
 unfold pmV
 have HD := Lib.hid hD
 clear HB hD
 generalize pmC p = C at *
 go_enter Tryz.func40, Tryz.ntmps40
 go_wp2_with (first | ((with_reducible refine wpList_load_g 61 (.tmp 20) ?_ ?_ (.pointer (some ⟨w.heap.size, 5, none⟩)) (.agg (p.t.map bv).toArray) ?_ lt.out ?_); (iterate 3 exact rfl)) | ((with_reducible refine wpList_eq_g .eql 61 61 (.tmp 21) (.tmp 22) ?_ ?_ (p.t.map bv).toArray _ ?_ ?_ tok_guard D (te.out _) ?_); (iterate 4 exact rfl)))
 all_goals go_ret
 all_goals refine ⟨ret_bool ?_, (Mod.refl _ _).alloc _⟩
 all_goals (unfold mayB; rw [← HD.out]; simp_all <;> omega)
end Go.Proofs.YtahgidkpjmecdaaGreatDoor
set_option maxRecDepth 100000
namespace Go.Proofs.YtahgidkpjmecdaaGreatDoor
open Go.RowKit Go.Maps
structure St where
 out : Option OB
 inn : Option IB
 max : Nat
 given : Nat
 reset : Bool
 over : Bool
 code : Nat
 in2 : Nat
 stop : Nat
 finished : Bool
 done : Bool
 tR : Bool
 tS : Bool
 tM : Bool
 stopped : Bool
 taken : Nat
structure SM where
 sb : Nat
 ob : Nat
 bv : Value
 sv : Value
 ib : Nat
 mb : Nat
 tb : Nat
def ptrO (b : Nat) : Option OB → Value
 | none => .pointer none
 | some _ => .pointer (some ⟨b, 0, none⟩)
def ptrI (b : Nat) : Option IB → Value
 | none => .pointer none
 | some _ => .pointer (some ⟨b, 0, none⟩)
def stC (g : SM) (s : St) : Array Value := #[ptrO g.ob s.out, ptrI g.ib s.inn, .int .u64 (s.max : Int), .int .u64 (s.given : Int), .bool s.reset, .bool s.over, .int .u64 (s.code : Int), .int .u64 (s.in2 : Int), .int .u64 (s.stop : Int), .bool s.finished, .bool s.done, .map (some g.tb), .bool s.stopped, .int .u64 (s.taken : Int)]
def SO (g : SM) (s : St) : Nat → Prop := fun k => s.out.isSome = true ∧ OS g.ob g.bv g.sv k
def SI (g : SM) (s : St) : Nat → Prop := fun k => s.inn.isSome = true ∧ IS g.ib g.mb k
def SS (g : SM) (s : St) : Nat → Prop := fun k => k = g.sb ∨ k = g.tb ∨ SO g s k ∨ SI g s k
def tellF (s : St) (z : Int) : Bool := if z = 4 then s.tR else if z = 5 then s.tS else if z = 17 then s.tM else false
def nat64 (n : Nat) : Prop := (n : Int) ≤ 4611686018427387904
def TellM (w : World) (tb : Nat) (s : St) : Prop := ∃ (dom : List Int) (b : Int → Bool), IMap 3 .i64 w tb dom (fun z => .bool (b z)) ∧ (∀ z ∈ dom, (4 : Int) ≤ z ∧ z < 18) ∧ ∀ z, (decide (z ∈ dom) && b z) = tellF s z
structure SBuf (B : Nat) (w : World) (g : SM) (s : St) : Prop where
 at0 : B ≤ g.sb
 att : B ≤ g.tb
 blk : Blk w g.sb (stC g s) 109
 out : ∀ o, s.out = some o → OBuf B w g.ob g.bv g.sv o
 inn : ∀ o, s.inn = some o → IBuf B w g.ib g.mb o
 tell : TellM w g.tb s
 oi : ∀ k, SO g s k → ¬ SI g s k
 ot : ∀ k, SO g s k → k ≠ g.tb ∧ k ≠ g.sb
 it : ∀ k, SI g s k → k ≠ g.tb ∧ k ≠ g.sb
 ts : g.tb ≠ g.sb
 num : nat64 s.max ∧ nat64 s.given ∧ nat64 s.code ∧ nat64 s.in2 ∧ nat64 s.stop ∧ nat64 s.taken
theorem TellM.kept {S : Nat → Prop} {w w' : World} {tb : Nat} {s : St} (h : TellM w tb s) (hM : Mod S w w') (hS : ¬ S tb) : TellM w' tb s := by
 obtain ⟨dom, b, h1, h2, h3⟩ := h
 exact ⟨dom, b, h1.kept hM hS, h2, h3⟩
theorem TellM.lt {w : World} {tb : Nat} {s : St} (h : TellM w tb s) : tb < w.heap.size := by
 obtain ⟨dom, b, h1, _⟩ := h
 exact h1.lt
theorem SBuf.kept {S : Nat → Prop} {B : Nat} {w w' : World} {g : SM} {s : St} (q : SBuf B w g s) (hM : Mod S w w') (hS : ∀ k, SS g s k → ¬ S k) : SBuf B w' g s :=
 ⟨q.at0, q.att, hM.blk q.blk (hS _ (.inl rfl)), fun o ho => (q.out o ho).kept hM (fun k hk => hS k (.inr (.inr (.inl ⟨by rw [ho]; rfl, hk⟩)))), fun o ho => (q.inn o ho).kept hM (fun k hk => hS k (.inr (.inr (.inr ⟨by rw [ho]; rfl, hk⟩)))), q.tell.kept hM (hS _ (.inr (.inl rfl))), q.oi, q.ot, q.it, q.ts, q.num⟩
theorem SBuf.still {B : Nat} {w w' : World} {g : SM} {s : St} (q : SBuf B w g s) (hM : Mod (fun _ => False) w w') : SBuf B w' g s := q.kept hM (fun _ _ h => h)
theorem SBuf.lt {B : Nat} {w : World} {g : SM} {s : St} (q : SBuf B w g s) : ∀ k, SS g s k → B ≤ k ∧ k < w.heap.size := by
 rintro k (rfl | rfl | ⟨h, hk⟩ | ⟨h, hk⟩)
 ·exact ⟨q.at0, q.blk.lt⟩
 ·exact ⟨q.att, q.tell.lt⟩
 ·obtain ⟨o, ho⟩ := Option.isSome_iff_exists.1 h
  exact (q.out o ho).lt k hk
 ·obtain ⟨o, ho⟩ := Option.isSome_iff_exists.1 h
  exact (q.inn o ho).lt k hk
structure Tb where
 client : Bool
 own : Pm
 dom : List Int
 m : Int → St
 op0 : Nat
 op1 : Nat
 op2 : Nat
 op3 : Nat
 lim0 : Nat
 lim1 : Nat
 stream : Nat
 data : Nat
 read : Nat
 tell : Bool
def tbL (mb : Nat) (T : Tb) : List Value := .bool T.client :: (pmL T.own ++ [.map (some mb), .int .u64 (T.op0 : Int), .int .u64 (T.op1 : Int), .int .u64 (T.op2 : Int), .int .u64 (T.op3 : Int), .int .u64 (T.lim0 : Int), .int .u64 (T.lim1 : Int), .int .u64 (T.stream : Int), .int .u64 (T.data : Int), .int .u64 (T.read : Int), .bool T.tell])
def tbC (mb : Nat) (T : Tb) : Array Value := (tbL mb T).toArray
structure TBuf (B : Nat) (w : World) (tb mb : Nat) (G : Int → SM) (T : Tb) : Prop where
 at0 : B ≤ tb
 atm : B ≤ mb
 blk : Blk w tb (tbC mb T) 103
 map : IMap 34 .u64 w mb T.dom (fun z => .pointer (some ⟨(G z).sb, 0, none⟩))
 strs : ∀ z ∈ T.dom, SBuf B w (G z) (T.m z)
 apart : ∀ z ∈ T.dom, ∀ z' ∈ T.dom, z ≠ z' → ∀ k, SS (G z) (T.m z) k → ¬ SS (G z') (T.m z') k
 tops : ∀ z ∈ T.dom, ∀ k, SS (G z) (T.m z) k → k ≠ tb ∧ k ≠ mb
 mt : mb ≠ tb
 tok : T.own.t.length = 16
 ids : ∀ z ∈ T.dom, 0 ≤ z ∧ z < 4611686018427387912
 num : T.own.i ≤ 4611686018427387904 ∧ T.own.d ≤ 100000 ∧ T.own.s ≤ 100000 ∧ T.own.n ≤ 1152921504606846976 ∧ T.op0 ≤ 40 ∧ T.op1 ≤ 40 ∧ T.op2 ≤ 40 ∧ T.op3 ≤ 40 ∧ T.lim0 ≤ 40 ∧ T.lim1 ≤ 40 ∧ nat64 T.stream ∧ nat64 T.data ∧ nat64 T.read
def TS (tb mb : Nat) (G : Int → SM) (T : Tb) : Nat → Prop := fun k => k = tb ∨ k = mb ∨ ∃ z ∈ T.dom, SS (G z) (T.m z) k
theorem TBuf.kept {S : Nat → Prop} {B : Nat} {w w' : World} {tb mb : Nat} {G : Int → SM} {T : Tb} (q : TBuf B w tb mb G T) (hM : Mod S w w') (hS : ∀ k, TS tb mb G T k → ¬ S k) : TBuf B w' tb mb G T :=
 ⟨q.at0, q.atm, hM.blk q.blk (hS _ (.inl rfl)), q.map.kept hM (hS _ (.inr (.inl rfl))), fun z hz => (q.strs z hz).kept hM (fun k hk => hS k (.inr (.inr ⟨z, hz, hk⟩))), q.apart, q.tops, q.mt, q.tok, q.ids, q.num⟩
theorem TBuf.still {B : Nat} {w w' : World} {tb mb : Nat} {G : Int → SM} {T : Tb} (q : TBuf B w tb mb G T) (hM : Mod (fun _ => False) w w') : TBuf B w' tb mb G T := q.kept hM (fun _ _ h => h)
theorem TBuf.lt {B : Nat} {w : World} {tb mb : Nat} {G : Int → SM} {T : Tb} (q : TBuf B w tb mb G T) : ∀ k, TS tb mb G T k → B ≤ k ∧ k < w.heap.size := by
 rintro k (rfl | rfl | ⟨z, hz, hk⟩)
 ·exact ⟨q.at0, q.blk.lt⟩
 ·exact ⟨q.atm, q.map.lt⟩
 ·exact (q.strs z hz).lt k hk
def TC (B : Nat) (w w' : World) (tb mb : Nat) (G : Int → SM) (T T' : Tb) : Prop :=
 ∃ G', TBuf B w' tb mb G' T' ∧ (∀ k, TS tb mb G' T' k → TS tb mb G T k ∨ (w.heap.size ≤ k ∧ k < w'.heap.size)) ∧ Mod (TS tb mb G T) w w'
theorem TBuf.tc {B : Nat} {w w' : World} {tb mb : Nat} {G : Int → SM} {T : Tb} (q : TBuf B w tb mb G T) (hM : Mod (fun _ => False) w w') : TC B w w' tb mb G T T :=
 ⟨G, q.still hM, fun _ h => .inl h, hM.mono (fun _ _ h => h.elim)⟩
theorem TC.trans {B : Nat} {w w1 w2 : World} {tb mb : Nat} {G G1 : Int → SM} {T T1 T2 : Tb} (h1 : TBuf B w1 tb mb G1 T1 ∧ (∀ k, TS tb mb G1 T1 k → TS tb mb G T k ∨ (w.heap.size ≤ k ∧ k < w1.heap.size)) ∧ Mod (TS tb mb G T) w w1) (h2 : TC B w1 w2 tb mb G1 T1 T2) : TC B w w2 tb mb G T T2 := by
 obtain ⟨-, ha, hm⟩ := h1
 obtain ⟨G2, q2, hb, hm2⟩ := h2
 refine ⟨G2, q2, fun k hk => ?_, hm.trans' hm2 (fun i hi h => ?_)⟩
 ·rcases hb k hk with h | h
  ·rcases ha k h with h | h
   ·exact .inl h
   ·exact .inr ⟨h.1, Nat.lt_of_lt_of_le h.2 hm2.size⟩
  ·exact .inr ⟨Nat.le_trans hm.size h.1, h.2⟩
 ·rcases ha i h with h | h
  ·exact h
  ·exact absurd hi (Nat.not_lt.2 h.1)
def updM (f : Int → St) (z : Int) (s : St) : Int → St := fun y => if y = z then s else f y
def updG (f : Int → SM) (z : Int) (s : SM) : Int → SM := fun y => if y = z then s else f y
theorem updM_same (f : Int → St) (z : Int) (s : St) : updM f z s z = s := by simp [updM]
theorem updM_other {f : Int → St} {z y : Int} {s : St} (h : y ≠ z) : updM f z s y = f y := by simp [updM, h]
theorem updG_same (f : Int → SM) (z : Int) (s : SM) : updG f z s z = s := by simp [updG]
theorem updG_other {f : Int → SM} {z y : Int} {s : SM} (h : y ≠ z) : updG f z s y = f y := by simp [updG, h]
theorem TBuf.upd {B : Nat} {w w' : World} {tb mb : Nat} {G : Int → SM} {T : Tb} (q : TBuf B w tb mb G T) {z : Int} (hz : z ∈ T.dom) {g' : SM} {s' : St} (hq : SBuf B w' g' s') (hsb : g'.sb = (G z).sb) (hsub : ∀ k, SS g' s' k → SS (G z) (T.m z) k ∨ (w.heap.size ≤ k ∧ k < w'.heap.size)) (hM : Mod (SS (G z) (T.m z)) w w') :
  TBuf B w' tb mb (updG G z g') { T with m := updM T.m z s' } ∧ (∀ k, TS tb mb (updG G z g') { T with m := updM T.m z s' } k → TS tb mb G T k ∨ (w.heap.size ≤ k ∧ k < w'.heap.size)) ∧ Mod (TS tb mb G T) w w' := by
 have hlt := q.lt
 refine ⟨⟨q.at0, q.atm, hM.blk q.blk (fun h => (q.tops z hz tb h).1 rfl), ?_, ?_, ?_, ?_, q.mt, q.tok, q.ids, q.num⟩, ?_, hM.mono (fun k _ h => .inr (.inr ⟨z, hz, h⟩))⟩
 ·have e : (fun y => Value.pointer (some ⟨(updG G z g' y).sb, 0, none⟩)) = (fun y => Value.pointer (some ⟨(G y).sb, 0, none⟩)) := by
   funext y
   by_cases h : y = z
   ·rw [h, updG_same, hsb]
   ·rw [updG_other h]
  rw [e]
  exact q.map.kept hM (fun h => (q.tops z hz mb h).2 rfl)
 ·intro y hy
  by_cases h : y = z
  ·rw [h, updG_same]
   show SBuf B w' g' (updM T.m z s' z)
   rw [updM_same]
   exact hq
  ·rw [updG_other h]
   show SBuf B w' (G y) (updM T.m z s' y)
   rw [updM_other h]
   exact (q.strs y hy).kept hM (fun k hk hk2 => q.apart y hy z hz h k hk hk2)
 ·intro y hy y' hy' hne k hk hk'
  by_cases h : y = z
  ·have h' : y' ≠ z := fun e => hne (h.trans e.symm)
   rw [h, updG_same] at hk
   rw [updG_other h'] at hk'
   have hk1 : SS g' s' k := by simpa [updM_same] using hk
   have hk2 : SS (G y') (T.m y') k := by simpa [updM_other h'] using hk'
   rcases hsub k hk1 with e | e
   ·exact q.apart z hz y' hy' (fun e2 => h' e2.symm) k e hk2
   ·have := (hlt k (.inr (.inr ⟨y', hy', hk2⟩))).2; omega
  ·rw [updG_other h] at hk
   have hk1 : SS (G y) (T.m y) k := by simpa [updM_other h] using hk
   by_cases h' : y' = z
   ·rw [h', updG_same] at hk'
    have hk2 : SS g' s' k := by simpa [updM_same] using hk'
    rcases hsub k hk2 with e | e
    ·exact q.apart y hy z hz h k hk1 e
    ·have := (hlt k (.inr (.inr ⟨y, hy, hk1⟩))).2; omega
   ·rw [updG_other h'] at hk'
    have hk2 : SS (G y') (T.m y') k := by simpa [updM_other h'] using hk'
    exact q.apart y hy y' hy' hne k hk1 hk2
 ·intro y hy k hk
  by_cases h : y = z
  ·rw [h, updG_same] at hk
   have hk1 : SS g' s' k := by simpa [updM_same] using hk
   rcases hsub k hk1 with e | e
   ·exact q.tops z hz k e
   ·have h1 := (hlt tb (.inl rfl)).2
    have h2 := (hlt mb (.inr (.inl rfl))).2
    exact ⟨by omega, by omega⟩
  ·rw [updG_other h] at hk
   exact q.tops y hy k (by simpa [updM_other h] using hk)
 ·rintro k (h | h | ⟨y, hy, hk⟩)
  ·exact .inl (.inl h)
  ·exact .inl (.inr (.inl h))
  ·by_cases h : y = z
   ·rw [h, updG_same] at hk
    have hk1 : SS g' s' k := by simpa [updM_same] using hk
    rcases hsub k hk1 with e | e
    ·exact .inl (.inr (.inr ⟨z, hz, e⟩))
    ·exact .inr e
   ·rw [updG_other h] at hk
    exact .inl (.inr (.inr ⟨y, hy, by simpa [updM_other h] using hk⟩))
theorem TBuf.setT {B : Nat} {w : World} {tb mb : Nat} {G : Int → SM} {T T' : Tb} (q : TBuf B w tb mb G T) (i : Nat) (v : Value) (hd : T'.dom = T.dom) (hm : T'.m = T.m) (ho : T'.own.t.length = 16) (hc : (tbC mb T).setIfInBounds i v = tbC mb T') (hn : T'.own.i ≤ 4611686018427387904 ∧ T'.own.d ≤ 100000 ∧ T'.own.s ≤ 100000 ∧ T'.own.n ≤ 1152921504606846976 ∧ T'.op0 ≤ 40 ∧ T'.op1 ≤ 40 ∧ T'.op2 ≤ 40 ∧ T'.op3 ≤ 40 ∧ T'.lim0 ≤ 40 ∧ T'.lim1 ≤ 40 ∧ nat64 T'.stream ∧ nat64 T'.data ∧ nat64 T'.read) :
  TBuf B (w.setCell ⟨tb, i, none⟩ v) tb mb G T' ∧ Mod (fun k => k = tb) w (w.setCell ⟨tb, i, none⟩ v) ∧ TS tb mb G T' = TS tb mb G T := by
 have hM : Mod (fun k => k = tb) w (w.setCell ⟨tb, i, none⟩ v) := (Mod.refl (fun k => k = tb) _).setCell (p := ⟨tb, i, none⟩) (fun _ => rfl) _
 have hb := q.blk.set i v
 rw [hc] at hb
 refine ⟨⟨q.at0, q.atm, hb, ?_, ?_, ?_, ?_, q.mt, ho, ?_, hn⟩, hM, ?_⟩
 ·rw [hd]; exact q.map.kept hM q.mt
 ·rw [hd, hm]; exact fun z hz => (q.strs z hz).kept hM (fun k hk e => (q.tops z hz k hk).1 e)
 ·rw [hd, hm]; exact q.apart
 ·rw [hd, hm]; exact q.tops
 ·rw [hd]; exact q.ids
 ·unfold TS
  rw [hd, hm]
end Go.Proofs.YtahgidkpjmecdaaGreatDoor
set_option maxRecDepth 100000
namespace Go.Proofs.YtahgidkpjmecdaaGreatDoor
open Go.RowKit Go.Maps Go.WideElems Go.ChangeMaps Go.MapKept
section
variable {H : Type} {P : Program} {w : World} {t k e : TypeId} {R : Value → Option (DataW H × List MemPlace)} {b : Nat} {es : Array MapEntry} {clock : Nat}
theorem entry_store (K : Keyed P k) (ht : P.underlying t = some (.map k e)) {z : Value} (hz : ∀ u : World, (zeroValue e).run P u = .ok z u) (hb : w.heap[b]? = some (.map es clock)) (F : Fit P k R es clock)
  {key : Value} {kl : Lit} (hkey : keyOf P k key = some kl) :
  ∃ (v0 : Value) (st : Nat) (es1 : Array MapEntry) (clock1 : Nat), (Instr.mapEntry t (.map (some b)) key).run P w = .ok (.tuple #[v0, goInt st]) (setBlock w b (.map es1 clock1)) ∧
   ((∃ e0 ∈ es.toList, e0.key = key ∧ v0 = e0.val) ∨ ((∀ x ∈ es.toList, x.key ≠ key) ∧ v0 = z)) ∧
   ∀ (w2 : World) (val : Value), w2.heap[b]? = some (.map es1 clock1) → ∃ es' clock', (Instr.entryStore t (.map (some b)) (goInt st) val).run P w2 = .ok () (setBlock w2 b (.map es' clock')) ∧
    (Instr.mapUpdate t (.map (some b)) key val).run P w = .ok () (setBlock w b (.map es' clock')) := by
 obtain ⟨s1, s2, _⟩ := F.stamped
 rcases K.find w hkey es.toList F.keys with ⟨h1, h2⟩ | ⟨j, e0, h1, h2, h3⟩
 ·refine ⟨z, clock, es.push ⟨key, z, clock⟩, clock + 1, ?_, Or.inr ⟨h2, rfl⟩, fun w2 val hw2 => ⟨es.push ⟨key, val, clock⟩, clock + 1, ?_, ?_⟩⟩
  ·simp [Instr.mapEntry, run_underlying ht, Go.MapKept.run_getObj_map hb, K.check w false hkey, h1, hz, Go.MapKept.run_setObj_map _ hb, Result.andThen, setBlock]
  ·have hidx : (es.push ⟨key, z, clock⟩).findIdx? (fun e => ((e.born : Nat) : Int) == ((clock : Nat) : Int)) = some es.size := by
    rw [findIdx_arr]
    have := findIdx_born (l := (es.push ⟨key, z, clock⟩).toList) (j := es.size) (e0 := ⟨key, z, clock⟩) (by
     simp only [Array.toList_push, List.map_append, List.map_cons, List.map_nil]
     refine List.nodup_append.2 ⟨s2, by simp, fun a ha c hc e1 => ?_⟩
     simp only [List.mem_singleton] at hc
     obtain ⟨x, hx, rfl⟩ := List.mem_map.1 ha
     have := s1 x hx
     omega) (by simp)
    exact this
   have hmod : (es.push ⟨key, z, clock⟩).modify es.size (fun e => { e with val := val }) = es.push ⟨key, val, clock⟩ := by
    apply Array.ext'
    rw [Array.toList_modify, Array.toList_push, Array.toList_push, ← Array.length_toList, modify_last]
   simp [Instr.entryStore, Go.MapKept.run_getObj_map hw2, asInt, asIntOf, goInt, hidx, hmod, Go.MapKept.run_setObj_map _ hw2, Result.andThen, setBlock]
  ·simp [Instr.mapUpdate, run_underlying ht, Go.MapKept.run_getObj_map hb, K.check w false hkey, h1, Go.MapKept.run_setObj_map _ hb, Result.andThen, setBlock]
 ·have hj : es[j]? = some e0 := by simpa using h2
  have hsame : es.modify j (fun e => { e with key := key }) = es := by
   apply Array.ext'
   rw [Array.toList_modify, modify_eq_set _ _ _ _ h2]
   have : ({ e0 with key := key } : MapEntry) = e0 := by rw [← h3]
   rw [this]
   exact set_self _ _ _ h2
  refine ⟨e0.val, e0.born, es, clock, ?_, Or.inl ⟨e0, List.mem_of_getElem? h2, h3, rfl⟩, fun w2 val hw2 => ⟨es.modify j (fun e' => { e' with key := key, val := val }), clock, ?_, ?_⟩⟩
  ·simp [Instr.mapEntry, run_underlying ht, Go.MapKept.run_getObj_map hb, K.check w false hkey, h1, hj, h3, K.stays w hkey, hsame, Go.MapKept.run_setObj_map _ hb, Result.andThen, setBlock]
  ·have hidx : es.findIdx? (fun e => ((e.born : Nat) : Int) == ((e0.born : Nat) : Int)) = some j := by
    rw [findIdx_arr]
    exact findIdx_born s2 h2
   have hmod : es.modify j (fun e => { e with val := val }) = es.modify j (fun e' => { e' with key := key, val := val }) := by
    apply Array.ext'
    rw [Array.toList_modify, Array.toList_modify, modify_eq_set _ _ _ _ h2, modify_eq_set _ _ _ _ h2, ← h3]
   simp [Instr.entryStore, Go.MapKept.run_getObj_map hw2, asInt, asIntOf, goInt, hidx, hmod, Go.MapKept.run_setObj_map _ hw2, Result.andThen, setBlock]
  ·simp [Instr.mapUpdate, run_underlying ht, Go.MapKept.run_getObj_map hb, K.check w false hkey, h1, hj, h3, K.stays w hkey, Go.MapKept.run_setObj_map _ hb, Result.andThen, setBlock]
end
theorem IMap.at {K : TypeId} {q : IntKind} {w w' : World} {mb : Nat} {dom : List Int} {f : Int → Value} (h : IMap K q w mb dom f) (he : w'.heap[mb]? = w.heap[mb]?) : IMap K q w' mb dom f := by
 obtain ⟨D, ⟨es, clock, hb, F, hn, hD⟩, h2⟩ := h
 exact ⟨D, ⟨es, clock, he.trans hb, F, hn, hD⟩, h2⟩
theorem mod_setBlock {w : World} {b : Nat} (o : Obj) : Mod (fun k => k = b) w (setBlock w b o) :=
 ⟨rfl, rfl, rfl, by simp [setBlock], fun k _ hk => by unfold setBlock; exact Array.getElem?_setIfInBounds_ne (fun e => hk e.symm)⟩
theorem IMap.entry {K : TypeId} {q : IntKind} (hK : Tryz.prog.underlying K = some (.int q)) {t e : TypeId} {w : World} {mb : Nat} {dom : List Int} {f : Int → Value} {z : Int} (v : Value) {zv : Value} (h : IMap K q w mb dom f) (hz : (Lit.int q z).wf = true) (hn : dom.length < maxLen) (ht : Tryz.prog.underlying t = some (.map K e)) (h0 : ∀ u : World, (zeroValue e).run Tryz.prog u = .ok zv u) :
  ∃ (v0 : Value) (st : Int) (w1 w3 : World), (Instr.mapEntry t (.map (some mb)) (.int q z)).run Tryz.prog w = .ok (.tuple #[v0, .int .i64 st]) w1 ∧ (Instr.entryStore t (.map (some mb)) (.int .i64 st) v).run Tryz.prog w1 = .ok () w3 ∧ IMap K q w3 mb (putD z dom) (putF z v f) ∧ Mod (fun k => k = mb) w w1 ∧ Mod (fun k => k = mb) w w3 := by
 obtain ⟨w', hr, hI, hM⟩ := h.put hK v hz hn ht
 obtain ⟨D, ⟨es, clock, hb, F, hs, hD⟩, h2, h3⟩ := h
 obtain ⟨v0, st, es1, clock1, hr1, -, hst⟩ := entry_store (int_keyed hK) ht h0 hb F (keyOf_int_mk hK hz)
 obtain ⟨es', clock', hr2, hr3⟩ := hst (setBlock w mb (.map es1 clock1)) v (heap_setBlock_same hb _)
 rw [hr] at hr3
 simp only [Result.ok.injEq, true_and] at hr3
 subst hr3
 have hM1 : Mod (fun k => k = mb) w (setBlock w mb (.map es1 clock1)) := mod_setBlock _
 have hb1 : (setBlock w mb (.map es1 clock1)).heap[mb]? = some (.map es1 clock1) := heap_setBlock_same hb _
 refine ⟨v0, st, _, _, hr1, hr2, hI.at ((heap_setBlock_same hb1 _).trans (heap_setBlock_same hb _).symm), hM1, hM1.trans (mod_setBlock _)⟩
end Go.Proofs.YtahgidkpjmecdaaGreatDoor
