/- Parts of the proof: Kit Plain VarA Law TabU PlainB GaA PaS VarB. -/
import Derived.WalkKit
import Derived.WalkSmall
import Derived.Test.YtahgidkpjmecdaaGreatDoorChecked
import Derived.BigQuiet
import Derived.Deep.QuietTactic
import Derived.WalkLawsBesides
import Derived.WalkSpells
import Derived.Lib.Hide
import Derived.ProofKit
import Derived.OpenShut
import Derived.Deep.DeepHandedRow
import Derived.Carry
import Derived.SizedLaws
import Derived.Test.YtahgidkpjmecdaaGreatDoorCards
import Derived.Test.YtahgidkpjmecdaaGreatDoorTie
import Derived.Lib.LaidTab
import Derived.LaidSub
import Derived.Lib.LaidU8T
import Derived.Deep.MidRow
import Derived.Deep.WholeRow
import Derived.Deep.RegionWith
set_option maxRecDepth 100000
namespace Go.Proofs.YtahgidkpjmecdaaGreatDoor
open Go.RowKit
def Blk (w : World) (b : Nat) (cs : Array Value) (t : TypeId) : Prop := w.heap[b]? = some (.cells cs t (0, 0))
theorem Blk.lt {w : World} {b : Nat} {cs : Array Value} {t : TypeId} (h : Blk w b cs t) : b < w.heap.size := lt_of_block h
theorem Blk.cell {w : World} {b : Nat} {cs : Array Value} {t : TypeId} (h : Blk w b cs t) (i : Nat) : w.cell? ⟨b, i, none⟩ = cs[i]? := cell_of_row w b i cs t _ h
theorem Blk.cellAt {w : World} {b : Nat} {cs : Array Value} {t : TypeId} (h : Blk w b cs t) (i : Nat) {v : Value} (hv : cs[i]? = some v) : w.cell? ⟨b, i, none⟩ = some v := (h.cell i).trans hv
theorem Blk.free {w : World} {b : Nat} {cs : Array Value} {t : TypeId} (h : Blk w b cs t) (i : Nat) : w.frozen? ⟨b, i, none⟩ = false := frozen_of_row w b i cs t h
theorem Blk.ne {w : World} {b b' : Nat} {cs cs' : Array Value} {t t' : TypeId} (h : Blk w b cs t) (h' : Blk w b' cs' t') (ht : t ≠ t') : b ≠ b' := by
 intro e; subst e; unfold Blk at h h'; rw [h] at h'; simp at h'; exact ht h'.2
theorem Blk.set {w : World} {b : Nat} {cs : Array Value} {t : TypeId} (h : Blk w b cs t) (i : Nat) (v : Value) : Blk (w.setCell ⟨b, i, none⟩ v) b (cs.setIfInBounds i v) t :=
 heap_setCell_same w b i cs t v h
theorem Blk.setOther {w : World} {b : Nat} {cs : Array Value} {t : TypeId} (h : Blk w b cs t) {a : Addr} (ha : b ≠ a.block) (v : Value) : Blk (w.setCell a v) b cs t :=
 (heap_setCell_other w a b v ha).trans h
theorem Blk.alloc {w : World} {b : Nat} {cs : Array Value} {t : TypeId} (h : Blk w b cs t) (o : Obj) : Blk (w.alloc o) b cs t :=
 (Go.RowKit.Below.heap_alloc w o b h.lt).trans h
theorem Blk.new (w : World) (cs : Array Value) (t : TypeId) : Blk (w.alloc (.cells cs t)) w.heap.size cs t := heap_alloc_new w _
theorem Blk.heap {w w' : World} {b : Nat} {cs : Array Value} {t : TypeId} (h : Blk w b cs t) (hw : w'.heap = w.heap) : Blk w' b cs t := by unfold Blk; rw [hw]; exact h
structure Mod (S : Nat → Prop) (w w' : World) : Prop where
 os : w'.os = w.os
 tape : w'.tape = w.tape
 output : w'.output = w.output
 size : w.heap.size ≤ w'.heap.size
 block : ∀ k, k < w.heap.size → ¬ S k → w'.heap[k]? = w.heap[k]?
theorem Mod.refl (S : Nat → Prop) (w : World) : Mod S w w := ⟨rfl, rfl, rfl, Nat.le_refl _, fun _ _ _ => rfl⟩
theorem Mod.trans {S : Nat → Prop} {a b c : World} (h : Mod S a b) (k : Mod S b c) : Mod S a c :=
 ⟨k.os.trans h.os, k.tape.trans h.tape, k.output.trans h.output, Nat.le_trans h.size k.size, fun i hi hs => (k.block i (Nat.lt_of_lt_of_le hi h.size) hs).trans (h.block i hi hs)⟩
theorem Mod.trans' {S T : Nat → Prop} {a b c : World} (h : Mod S a b) (k : Mod T b c) (hT : ∀ i, i < a.heap.size → T i → S i) : Mod S a c :=
 ⟨k.os.trans h.os, k.tape.trans h.tape, k.output.trans h.output, Nat.le_trans h.size k.size, fun i hi hs => (k.block i (Nat.lt_of_lt_of_le hi h.size) (fun t => hs (hT i hi t))).trans (h.block i hi hs)⟩
theorem Mod.mono {S T : Nat → Prop} {w w' : World} (h : Mod S w w') (hT : ∀ i, i < w.heap.size → S i → T i) : Mod T w w' :=
 ⟨h.os, h.tape, h.output, h.size, fun i hi hs => h.block i hi (fun t => hs (hT i hi t))⟩
theorem Mod.drew {S : Nat → Prop} {a w : World} (h : Mod S a w) : Mod S a w.drew := ⟨h.os, h.tape, h.output, h.size, h.block⟩
theorem Mod.drewN {S : Nat → Prop} {a w : World} (h : Mod S a w) (n : Nat) : Mod S a (w.drewN n) := ⟨h.os, h.tape, h.output, h.size, h.block⟩
theorem Mod.alloc {S : Nat → Prop} {a w : World} (h : Mod S a w) (o : Obj) : Mod S a (w.alloc o) :=
 ⟨h.os, h.tape, h.output, Nat.le_trans h.size (by simp), fun i hi hs => (Go.RowKit.Below.heap_alloc w o i (Nat.lt_of_lt_of_le hi h.size)).trans (h.block i hi hs)⟩
theorem Mod.setCell {S : Nat → Prop} {a w : World} (h : Mod S a w) {p : Addr} (hp : p.block < a.heap.size → S p.block) (u : Value) : Mod S a (w.setCell p u) :=
 ⟨h.os, h.tape, h.output, Nat.le_trans h.size (by simp [World.setCell]), fun i hi hs => (heap_setCell_other w p i u (fun e => hs (e ▸ hp (e ▸ hi)))).trans (h.block i hi hs)⟩
theorem Mod.grown {S : Nat → Prop} {a w w' : World} {row : Option Nat} (h : Mod S a w) (hg : w.grownBy w' row) (hr : ∀ k, row = some k → k < a.heap.size → S k) : Mod S a w' :=
 ⟨hg.os.trans h.os, hg.tape.trans h.tape, hg.output.trans h.output, Nat.le_trans h.size hg.size,
  fun i hi hs => (hg.block i (Nat.lt_of_lt_of_le hi h.size) (fun e => hs (hr i e.symm hi))).trans (h.block i hi hs)⟩
theorem Mod.below {S : Nat → Prop} {w w' : World} {B : Nat} (h : Mod S w w') (hB : B ≤ w.heap.size) (hS : ∀ k, k < w.heap.size → S k → B ≤ k) : Below B w w' :=
 ⟨h.os, h.tape, h.output, h.size, fun k hk => h.block k (by omega) (fun s => by have := hS k (by omega) s; omega)⟩
theorem Mod.ofBelow {B : Nat} {w w' : World} (h : Below B w w') : Mod (fun k => B ≤ k) w w' := ⟨h.os, h.tape, h.output, h.size, fun k _ hs => h.block k (by omega)⟩
theorem Mod.blk {S : Nat → Prop} {w w' : World} {b : Nat} {cs : Array Value} {t : TypeId} (h : Mod S w w') (hb : Blk w b cs t) (hS : ¬ S b) : Blk w' b cs t := (h.block b hb.lt hS).trans hb
theorem Mod.cell {S : Nat → Prop} {w w' : World} (h : Mod S w w') {p : Addr} (hp : p.block < w.heap.size) (hS : ¬ S p.block) : w'.cell? p = w.cell? p := World.cell?_of_block (h.block p.block hp hS)
theorem Mod.cellAt {S : Nat → Prop} {w w' : World} (h : Mod S w w') {p : Addr} {v : Value} (hv : w.cell? p = some v) (hS : ¬ S p.block) : w'.cell? p = some v := (h.cell (block_lt_of_cell hv) hS).trans hv
theorem Mod.grownBy {w w' : World} (h : Mod (fun _ => False) w w') (row : Option Nat) : w.grownBy w' row := ⟨h.os, h.tape, h.output, h.size, fun k hk _ => h.block k hk (fun x => x)⟩
theorem Mod.own {S : Nat → Prop} {w w' : World} {base e size n : Nat} {v : Value} {xs : List Value} (h : Mod S w w') (ho : w.ownsRow base e size v n xs) (hS : ∀ g, v.ownBlock = some g → ¬ S g) : w'.ownsRow base e size v n xs := by
 refine ⟨ho.1, ?_⟩
 have hlt := ho.lt
 rcases ho.2 with hn | ⟨g, cap, cur, rfl, hb, hgg, rest⟩
 ·exact .inl hn
 ·refine .inr ⟨g, cap, cur, rfl, hb, ?_, rest⟩
  rw [h.block g (hlt g rfl).2 (hS g rfl)]; exact hgg
def Sl (w : World) (sz : Nat) (v : Value) (n : Nat) (xs : List Value) : Prop :=
 xs.length = n * sz ∧ ∃ a cap, v = .slice a n cap ∧ n ≤ cap ∧ cap ≤ maxLen ∧ (a = none → cap = 0) ∧
  ∀ j u, xs[j]? = some u → ∃ b off, a = some ⟨b, off, none⟩ ∧ w.cell? ⟨b, off + j, none⟩ = some u
theorem Sl.nil (w : World) (sz : Nat) : Sl w sz (.slice none 0 0) 0 [] := ⟨by simp, none, 0, rfl, Nat.le_refl _, by simp [maxLen], fun _ => rfl, fun _ _ h => by simp at h⟩
theorem Sl.heap {w w' : World} {sz n : Nat} {v : Value} {xs : List Value} (h : Sl w sz v n xs) (hw : w'.heap = w.heap) : Sl w' sz v n xs := by
 obtain ⟨h1, a, cap, rfl, h2, h3, h4, h5⟩ := h
 refine ⟨h1, a, cap, rfl, h2, h3, h4, fun j u hu => ?_⟩
 obtain ⟨b, off, rfl, hc⟩ := h5 j u hu
 exact ⟨b, off, rfl, by simpa [World.cell?, hw] using hc⟩
def blockOf : Value → Option Nat
 | .slice (some a) _ _ => some a.block
 | _ => none
theorem Mod.sl {S : Nat → Prop} {w w' : World} {sz n : Nat} {v : Value} {xs : List Value} (h : Mod S w w') (hs : Sl w sz v n xs) (hS : xs ≠ [] → ∀ g, blockOf v = some g → ¬ S g) : Sl w' sz v n xs := by
 obtain ⟨h1, a, cap, rfl, h2, h3, h4, h5⟩ := hs
 refine ⟨h1, a, cap, rfl, h2, h3, h4, fun j u hu => ?_⟩
 obtain ⟨b, off, rfl, hc⟩ := h5 j u hu
 exact ⟨b, off, rfl, h.cellAt hc (hS (by rintro rfl; simp at hu) b rfl)⟩
theorem Sl.below {B : Nat} {w w' : World} {sz n : Nat} {v : Value} {xs : List Value} (hs : Sl w sz v n xs) (h : Below B w w') (hB : xs ≠ [] → ∀ g, blockOf v = some g → g < B) : Sl w' sz v n xs :=
 (Mod.ofBelow h).sl hs (fun hx g hg hk => by have := hB hx g hg; omega)
theorem Sl.lt {w : World} {sz n : Nat} {v : Value} {xs : List Value} (hs : Sl w sz v n xs) (hx : xs ≠ []) (g : Nat) (hg : blockOf v = some g) : g < w.heap.size := by
 obtain ⟨_, a, cap, rfl, _, _, _, h5⟩ := hs
 cases xs with
 | nil => exact absurd rfl hx
 | cons x r =>
  obtain ⟨b, off, rfl, hc⟩ := h5 0 x rfl
  simp [blockOf] at hg; subst hg
  exact block_lt_of_cell hc
theorem Sl.kept {S : Nat → Prop} {w w' : World} {sz n : Nat} {v : Value} {xs : List Value} (hs : Sl w sz v n xs) (h : Mod S w w') (hS : ∀ k, k < w.heap.size → ¬ S k) : Sl w' sz v n xs :=
 h.sl hs (fun hx g hg => hS g (hs.lt hx g hg))
theorem Sl.ofOwn {w : World} {base e sz n : Nat} {v : Value} {xs : List Value} (h : w.ownsRow base e sz v n xs) : Sl w sz v n xs := by
 refine ⟨h.1, ?_⟩
 rcases h.2 with ⟨rfl, rfl⟩ | ⟨g, cap, cur, rfl, _, hg, h2, h3, _, ht⟩
 ·have : xs = [] := List.eq_nil_of_length_eq_zero (by simpa using h.1)
  subst this
  exact ⟨none, 0, rfl, Nat.le_refl _, by simp [maxLen], fun _ => rfl, fun _ _ h => by simp at h⟩
 ·refine ⟨_, cap, rfl, h2, h3, fun h => by simp at h, fun j u hu => ⟨g, 0, rfl, ?_⟩⟩
  have := h.cells (g := g) rfl j u hu
  rw [Addr.add_lit] at this
  exact this
theorem Sl.val {w : World} {sz n : Nat} {v : Value} {xs : List Value} (h : Sl w sz v n xs) : ∃ a cap, v = .slice a n cap ∧ n ≤ cap ∧ cap ≤ maxLen ∧ (a = none → cap = 0) := by
 obtain ⟨_, a, cap, h1, h2, h3, h4, _⟩ := h; exact ⟨a, cap, h1, h2, h3, h4⟩
theorem Sl.addr {w : World} {sz n : Nat} {v : Value} {xs : List Value} (h : Sl w sz v n xs) (hx : xs ≠ []) :
  ∃ b off cap, v = .slice (some ⟨b, off, none⟩) n cap ∧ n ≤ cap ∧ cap ≤ maxLen ∧ ∀ j u, xs[j]? = some u → w.cell? ⟨b, off + j, none⟩ = some u := by
 obtain ⟨_, a, cap, rfl, h2, h3, _, h5⟩ := h
 cases xs with
 | nil => exact absurd rfl hx
 | cons x r =>
  obtain ⟨b, off, rfl, _⟩ := h5 0 x rfl
  refine ⟨b, off, cap, rfl, h2, h3, fun j u hu => ?_⟩
  obtain ⟨b', off', he, hc⟩ := h5 j u hu
  simp at he; obtain ⟨rfl, rfl⟩ := he; exact hc
theorem own_full {w : World} {base e g n : Nat} {xs : List Value} (h : w.ownsRow base e 1 (.slice (some ⟨g, 0, none⟩) n n) n xs) : Blk w g xs.toArray e := by
 rcases h.2 with ⟨h1, _⟩ | ⟨g', cap, cur, he, _, hg, _, _, hs, ht⟩
 ·simp at h1
 ·simp at he
  obtain ⟨rfl, rfl⟩ := he
  unfold Blk
  rw [hg]
  congr 2
  apply Array.toList_inj.1
  rw [← ht, List.take_of_length_le (by simp; omega)]
theorem own_of_blk {w : World} {base e g n : Nat} {xs : List Value} (h : Blk w g xs.toArray e) (hb : base ≤ g) (hn : xs.length = n) (hm : n ≤ maxLen) : w.ownsRow base e 1 (.slice (some ⟨g, 0, none⟩) n n) n xs :=
 ⟨by omega, .inr ⟨g, n, _, rfl, hb, h, Nat.le_refl _, hm, by simp [hn], by simp [← hn]⟩⟩
def bv (x : UInt8) : Value := .int .u8 (x.toNat : Int)
theorem bv_one (l : List UInt8) : ∀ u ∈ l.map bv, u.oneCell' = true := by
 intro u hu; obtain ⟨_, _, rfl⟩ := List.mem_map.1 hu; rfl
def Byts (w : World) (v : Value) (l : List UInt8) : Prop := Sl w 1 v l.length (l.map bv)
def OwnB (w : World) (B : Nat) (v : Value) (l : List UInt8) : Prop := w.ownsRow B 5 1 v l.length (l.map bv)
theorem OwnB.byts {w : World} {B : Nat} {v : Value} {l : List UInt8} (h : OwnB w B v l) : Byts w v l := Sl.ofOwn h
theorem wpList_append_sl {P : Program} {w : World} {ops : Array Oper} {rest : List Oper} {o : Oper} {a : Act} {Q : Exit → Act → World → Prop} (hgd : o.guard = none) (s x : Operand) (t : TypeId)
  (ho : o.op = .call { callee := .builtin .append, args := #[s, x], argTypes := #[t, t] })
  (base : Nat) (e : TypeId) (i : TypeInfo) (z : Value) (size bytes : Nat) (ht : P.underlying t = some (.slice e)) (hi : P.info? e = some i) (hz : i.zero = some z)
  (hsize : i.size = size) (hby : i.bytes = bytes) (hzs : z.cells.size = size) (hsz : 0 < size)
  (v : Value) (n : Nat) (xs : List Value) (hs : a.eval s = v) (hown : w.ownsRow base e size v n xs)
  (sv : Value) (m : Nat) (news : List Value) (hx : a.eval x = sv) (hsl : Sl w size sv m news) (h1 : ∀ u ∈ news, u.oneCell' = true)
  (hbytes : (n + m) * bytes ≤ 140737488355328) (hb0 : 0 < bytes) (hbase : base ≤ w.heap.size)
  (h : ∀ v' w', w'.ownsRow base e size v' (n + m) (xs ++ news) → w.grownBy w' v.ownBlock → wpList P ops Q rest (a.put o.dst v') w') : wpList P ops Q (o :: rest) a w := by
 have h63 : n + m ≤ maxLen := by
  have := Nat.le_trans (Nat.le_mul_of_pos_right (n + m) hb0) hbytes
  unfold maxLen; omega
 obtain ⟨hl, ao, c, rfl, hc1, hc2, hc3, hc4⟩ := hsl
 cases ao with
 | none =>
  obtain rfl := hc3 rfl
  obtain rfl : m = 0 := by omega
  obtain rfl : news = [] := List.eq_nil_of_length_eq_zero (by simpa using hl)
  refine wpList_plain hgd fun K hK => ?_
  have hrun := run_append_owned_none (P := P) (w := w) base t o.type e i size ht hi v n xs hown
  unfold Oper.wp
  simp [execOp, ho, resolve, invoke, builtin, hs, hx, hrun, Result.andThen]
  exact hK _ _ (by simpa using h v w (by simpa using hown) (World.grownBy.refl _ _))
 | some ad =>
  refine wpList_append_own w hgd s x t ho base e i z size bytes ht hi hz hsize hby hzs hsz v n xs hs hown ad m c news hx hl ?_ h1 h63 hbytes hbase (fun v' w' h2 h3 _ => h v' w' h2 h3)
  intro j u hu
  obtain ⟨b, off, he, hcell⟩ := hc4 j u hu
  simp at he; subst he
  rw [Addr.add_lit]; exact hcell
end Go.Proofs.YtahgidkpjmecdaaGreatDoor
set_option maxRecDepth 100000
namespace Go.Proofs.YtahgidkpjmecdaaGreatDoor
def be : Nat → Nat → List UInt8
 | 0, _ => []
 | s + 1, n => be s (n / 256) ++ [UInt8.ofNat n]
@[simp] theorem be_length (s n : Nat) : (be s n).length = s := by
 induction s generalizing n with
 | zero => rfl
 | succ s ih => simp [be, ih]
theorem be_front (s n : Nat) : be (s + 1) n = UInt8.ofNat (n / 256 ^ s) :: be s n := by
 induction s generalizing n with
 | zero => simp [be]
 | succ s ih =>
  have h : be (s + 1 + 1) n = be (s + 1) (n / 256) ++ [UInt8.ofNat n] := rfl
  rw [h, ih (n / 256), Nat.div_div_eq_div_mul, Nat.pow_succ, Nat.mul_comm]
  rfl
def szN (n : Nat) : Nat := if n < 64 then 1 else if n < 16384 then 2 else if n < 1073741824 then 4 else if n < 4611686018427387904 then 8 else 0
def fits (n : Nat) (size : Int) : Bool :=
 if size = 1 then decide (n < 64) else if size = 2 then decide (n < 16384) else if size = 4 then decide (n < 1073741824) else if size = 8 then decide (n < 4611686018427387904) else false
def tg (s : Nat) : Nat := if s = 1 then 0 else if s = 2 then 1 else if s = 4 then 2 else 3
def wd (n s : Nat) : List UInt8 := be s (n + tg s * 2 ^ (8 * s - 2))
def wideL (n : Nat) (size : Int) : List UInt8 := if fits n size then wd n size.toNat else []
def putL (n : Nat) : List UInt8 := wideL n (szN n)
theorem szN_cases (n : Nat) : (n < 64 ∧ szN n = 1) ∨ (64 ≤ n ∧ n < 16384 ∧ szN n = 2) ∨ (16384 ≤ n ∧ n < 1073741824 ∧ szN n = 4) ∨ (1073741824 ≤ n ∧ n < 4611686018427387904 ∧ szN n = 8) ∨ (4611686018427387904 ≤ n ∧ szN n = 0) := by
 unfold szN
 by_cases h1 : n < 64
 ·left; simp [h1]
 by_cases h2 : n < 16384
 ·right; left; simp [h1, h2]; omega
 by_cases h3 : n < 1073741824
 ·right; right; left; simp [h1, h2, h3]; omega
 by_cases h4 : n < 4611686018427387904
 ·right; right; right; left; simp [h1, h2, h3, h4]; omega
 ·right; right; right; right; simp [h1, h2, h3, h4]; omega
theorem fits_iff (n : Nat) (size : Int) : fits n size = true ↔ (size = 1 ∧ n < 64) ∨ (size = 2 ∧ n < 16384) ∨ (size = 4 ∧ n < 1073741824) ∨ (size = 8 ∧ n < 4611686018427387904) := by
 unfold fits
 by_cases h1 : size = 1
 ·subst h1; simp
 by_cases h2 : size = 2
 ·subst h2; simp
 by_cases h3 : size = 4
 ·subst h3; simp
 by_cases h4 : size = 8
 ·subst h4; simp
 simp [h1, h2, h3, h4]
theorem fits_sz (n : Nat) (size : Int) : fits n size = true ↔ szN n ≠ 0 ∧ (szN n : Int) ≤ size ∧ (size = 1 ∨ size = 2 ∨ size = 4 ∨ size = 8) := by
 rw [fits_iff]
 rcases szN_cases n with h | h | h | h | h <;> (try omega)
theorem wideL_length (n : Nat) (size : Int) (h : fits n size = true) : (wideL n size).length = size.toNat := by simp [wideL, h, wd]
theorem putL_length (n : Nat) : (putL n).length = szN n := by
 unfold putL
 by_cases h : fits n (szN n) = true
 ·rw [wideL_length _ _ h]; simp
 ·rw [wideL, if_neg h]
  rw [fits_iff] at h
  rcases szN_cases n with h' | h' | h' | h' | h' <;> (simp; omega)
theorem be_mod (s n m : Nat) (h : n % 256 ^ s = m % 256 ^ s) : be s n = be s m := by
 induction s generalizing n m with
 | zero => rfl
 | succ s ih =>
  have hn : n % 256 = m % 256 := by
   have h1 : n % 256 = n % 256 ^ (s + 1) % 256 := (Nat.mod_mod_of_dvd _ (by rw [Nat.pow_succ]; exact Nat.dvd_mul_left _ _)).symm
   have h2 : m % 256 = m % 256 ^ (s + 1) % 256 := (Nat.mod_mod_of_dvd _ (by rw [Nat.pow_succ]; exact Nat.dvd_mul_left _ _)).symm
   rw [h1, h2, h]
  have hd : n / 256 % 256 ^ s = m / 256 % 256 ^ s := by
   rw [Nat.pow_succ, Nat.mul_comm, Nat.mod_mul, Nat.mod_mul] at h
   omega
  rw [be, be, ih _ _ hd]
  congr 2
  exact UInt8.toNat_inj.1 (by simpa using hn)
theorem wd_first (n s : Nat) (h1 : 1 ≤ s) (hn : n < 64 * 256 ^ (s - 1)) (ht : tg s < 4) : wd n s = UInt8.ofNat (n / 256 ^ (s - 1) + 64 * tg s) :: be (s - 1) n ∧ n / 256 ^ (s - 1) < 64 := by
 obtain ⟨k, rfl⟩ : ∃ k, s = k + 1 := ⟨s - 1, by omega⟩
 have e : 2 ^ (8 * (k + 1) - 2) = 64 * 256 ^ k := by
  rw [show 8 * (k + 1) - 2 = 6 + 8 * k by omega, Nat.pow_add, Nat.pow_mul]
 simp only [Nat.add_sub_cancel] at hn ⊢
 have hp : 0 < 256 ^ k := Nat.pow_pos (by omega)
 refine ⟨?_, (Nat.div_lt_iff_lt_mul hp).2 hn⟩
 rw [wd, be_front, e]
 congr 1
 ·congr 1
  rw [show n + tg (k + 1) * (64 * 256 ^ k) = n + 256 ^ k * (64 * tg (k + 1)) by rw [Nat.mul_left_comm, Nat.mul_comm (256 ^ k), ← Nat.mul_assoc], Nat.add_mul_div_left _ _ hp]
 ·refine be_mod _ _ _ ?_
  rw [show n + tg (k + 1) * (64 * 256 ^ k) = n + 256 ^ k * (64 * tg (k + 1)) by rw [Nat.mul_left_comm, Nat.mul_comm (256 ^ k), ← Nat.mul_assoc], Nat.add_mul_mod_self_left]
theorem tg_lt (s : Nat) : tg s < 4 := by unfold tg; split <;> (try split) <;> (try split) <;> omega
theorem fits_bound (n s : Nat) (h : fits n (s : Int) = true) : 1 ≤ s ∧ s ≤ 8 ∧ n < 64 * 256 ^ (s - 1) ∧ (s = 1 ∨ s = 2 ∨ s = 4 ∨ s = 8) := by
 rw [fits_iff] at h
 rcases h with ⟨h, h'⟩ | ⟨h, h'⟩ | ⟨h, h'⟩ | ⟨h, h'⟩
 ·obtain rfl : s = 1 := by omega
  simp; omega
 ·obtain rfl : s = 2 := by omega
  simp; omega
 ·obtain rfl : s = 4 := by omega
  simp; omega
 ·obtain rfl : s = 8 := by omega
  simp; omega
theorem set_rep {α : Type} (z v : α) (l : List α) (s j : Nat) (h : j < s) : (List.replicate (s - j) z ++ l).toArray.setIfInBounds (s - 1 - j) v = (List.replicate (s - (j + 1)) z ++ v :: l).toArray := by
 apply Array.toList_inj.1
 have e : s - j = (s - (j + 1)) + 1 := by omega
 rw [Array.toList_setIfInBounds]
 simp only
 rw [e, show s - 1 - j = s - (j + 1) by omega, List.replicate_succ', List.append_assoc, List.set_append, if_neg (by simp)]
 simp
theorem get_rep {α : Type} (z : α) (l : List α) (s j : Nat) (h : j < s) : (List.replicate (s - j) z ++ l).toArray[s - 1 - j]? = some z := by
 rw [List.getElem?_toArray, List.getElem?_append_left (by simp; omega), List.getElem?_replicate, if_pos (by omega)]
theorem byte_shr (n j : Nat) : (n : Int) / 2 ^ (8 * j) % 256 = ((UInt8.ofNat (n / 256 ^ j)).toNat : Int) := by
 rw [Int.pow_mul]
 simp
theorem or_byte (n m t : Nat) (hx : n / 256 ^ m < 64) (ht : t < 4) : bits BinOp.or IntKind.u8 ((n : Int) / 256 ^ m % 256) ((t : Int) * 64) = ((UInt8.ofNat (n / 256 ^ m + 64 * t)).toNat : Int) := by
 have h : ∀ x : Fin 64, ∀ t : Fin 4, bits BinOp.or IntKind.u8 (((x.val : Nat) : Int) % 256) (((t.val : Nat) : Int) * 64) = ((UInt8.ofNat (x.val + 64 * t.val)).toNat : Int) := by decide +kernel
 have e : (n : Int) / 256 ^ m = ((n / 256 ^ m : Nat) : Int) := by simp
 rw [e]
 exact h ⟨_, hx⟩ ⟨t, ht⟩
structure RS where
 l : List UInt8
 e : Int
def RS.fail (s : RS) (e : Int) : RS := if s.e = 0 ∧ e ≠ 0 then ⟨[], e⟩ else s
def RS.bytes (s : RS) (n : Nat) : List UInt8 × RS := if s.e ≠ 0 then ([], s) else if s.l.length < n then ([], ⟨[], 2⟩) else (s.l.take n, ⟨s.l.drop n, 0⟩)
def RS.byte (s : RS) : UInt8 × RS := ((s.bytes 1).1.headD 0, (s.bytes 1).2)
def lenOf (c : UInt8) : Nat := 2 ^ (c.toNat / 64)
def valOf : List UInt8 → Nat
 | [] => 0
 | c :: r => r.foldl (fun n x => n * 256 + x.toNat) (c.toNat % 64)
def RS.int (s : RS) : Nat × RS := match s.l with
 | [] => (0, s.fail 2)
 | c :: _ => if s.l.length < lenOf c then (0, s.fail 2) else (valOf (s.bytes (lenOf c)).1, (s.bytes (lenOf c)).2)
theorem valOf_snoc (p : List UInt8) (x : UInt8) (h : p ≠ []) : valOf (p ++ [x]) = valOf p * 256 + x.toNat := by
 cases p with
 | nil => exact absurd rfl h
 | cons c r => simp [valOf]
theorem valOf_lt (p : List UInt8) (h : p ≠ []) : valOf p < 64 * 256 ^ (p.length - 1) := by
 cases p with
 | nil => exact absurd rfl h
 | cons c r =>
  simp only [valOf, List.length_cons, Nat.add_sub_cancel]
  have key : ∀ (r : List UInt8) (a b : Nat), a < b → r.foldl (fun n x => n * 256 + x.toNat) a < b * 256 ^ r.length := by
   intro r
   induction r with
   | nil => intro a b h; simpa using h
   | cons y r ih =>
    intro a b h
    have hy := y.toNat_lt
    have := ih (a * 256 + y.toNat) (b * 256) (by omega)
    simp only [List.foldl_cons, List.length_cons, Nat.pow_succ]
    rw [Nat.mul_comm (256 ^ r.length) 256, ← Nat.mul_assoc]
    exact this
  exact key r _ _ (Nat.mod_lt _ (by omega))
theorem and63 (x : UInt8) : bits BinOp.and IntKind.u8 (x.toNat : Int) 63 = ((x.toNat % 64 : Nat) : Int) := by
 have h : ∀ x : Fin 256, bits BinOp.and IntKind.u8 ((x.val : Nat) : Int) 63 = ((x.val % 64 : Nat) : Int) := by decide +kernel
 exact h ⟨x.toNat, x.toNat_lt⟩
theorem or_low (v x : Nat) (hv : v < 18014398509481984) (hx : x < 256) : bits BinOp.or IntKind.u64 ((v : Int) * 256) (x : Int) = ((v * 256 + x : Nat) : Int) := by
 have e : (v * 256) ||| x = v * 256 + x := by
  have := Nat.two_pow_add_eq_or_of_lt (i := 8) (b := x) (by omega) v
  rw [Nat.mul_comm v 256]
  exact this.symm
 have h1 : ((v : Int) * 256) = ((v * 256 : Nat) : Int) := (Int.natCast_mul v 256).symm
 unfold bits
 simp only [h1]
 have w1 : (BitVec.ofInt 64 ((v * 256 : Nat) : Int)) = BitVec.ofNat 64 (v * 256) := by rw [BitVec.ofInt_natCast]
 have w2 : (BitVec.ofInt 64 (x : Int)) = BitVec.ofNat 64 x := by rw [BitVec.ofInt_natCast]
 show IntKind.u64.wrap (((BitVec.ofInt 64 _ ||| BitVec.ofInt 64 _).toNat : Nat) : Int) = _
 rw [w1, w2, BitVec.toNat_or, BitVec.toNat_ofNat, BitVec.toNat_ofNat, Nat.mod_eq_of_lt (by omega), Nat.mod_eq_of_lt (by omega), e]
 exact IntWalk.u64_in _ (by omega)
end Go.Proofs.YtahgidkpjmecdaaGreatDoor
set_option maxRecDepth 100000
namespace Go.Proofs.YtahgidkpjmecdaaGreatDoor
open Go.RowKit
theorem ret_bool {a b : Bool} (h : a = b) : Ending.returned (.bool a) = .returned (.bool b) := by rw [h]
theorem ret_int {k : IntKind} {a b : Int} (h : a = b) : Ending.returned (.int k a) = .returned (.int k b) := by rw [h]
def Tabs (w : World) : Prop := w.cell? ⟨1, 0, none⟩ = some (.int .u8 0) ∧ w.cell? ⟨1, 1, none⟩ = some (.int .u8 1) ∧ w.cell? ⟨1, 3, none⟩ = some (.int .u8 2) ∧ w.cell? ⟨1, 7, none⟩ = some (.int .u8 3)
theorem Mod.tabs {S : Nat → Prop} {w w' : World} (h : Mod S w w') (hT : Tabs w) (hS : ¬ S 1) : Tabs w' :=
 ⟨h.cellAt hT.1 hS, h.cellAt hT.2.1 hS, h.cellAt hT.2.2.1 hS, h.cellAt hT.2.2.2 hS⟩
set_option maxRecDepth 10000 in
theorem tz1 (w : World) (h : Tabs w) : Calls Tryz.prog 126 #[.int .u64 1] w fun e w' => w = w' ∧ e = .returned (.int .i64 0) := by
 obtain ⟨h0, h1, h2, h3⟩ := h
 have hx : IntKind.u64.wrap (bits BinOp.and IntKind.u64 1 (IntKind.u64.wrap (-1)) * 285870213051353865) / 288230376151711744 = 0 := by decide +kernel
 go_enter Tryz.func126, Tryz.ntmps126
 go_wp2
 go_ret
 exact ⟨rfl, rfl⟩
set_option maxRecDepth 10000 in
theorem tz2 (w : World) (h : Tabs w) : Calls Tryz.prog 126 #[.int .u64 2] w fun e w' => w = w' ∧ e = .returned (.int .i64 1) := by
 obtain ⟨h0, h1, h2, h3⟩ := h
 have hx : IntKind.u64.wrap (bits BinOp.and IntKind.u64 2 (IntKind.u64.wrap (-2)) * 285870213051353865) / 288230376151711744 = 1 := by decide +kernel
 go_enter Tryz.func126, Tryz.ntmps126
 go_wp2
 go_ret
 exact ⟨rfl, rfl⟩
set_option maxRecDepth 10000 in
theorem tz4 (w : World) (h : Tabs w) : Calls Tryz.prog 126 #[.int .u64 4] w fun e w' => w = w' ∧ e = .returned (.int .i64 2) := by
 obtain ⟨h0, h1, h2, h3⟩ := h
 have hx : IntKind.u64.wrap (bits BinOp.and IntKind.u64 4 (IntKind.u64.wrap (-4)) * 285870213051353865) / 288230376151711744 = 3 := by decide +kernel
 go_enter Tryz.func126, Tryz.ntmps126
 go_wp2
 go_ret
 exact ⟨rfl, rfl⟩
set_option maxRecDepth 10000 in
theorem tz8 (w : World) (h : Tabs w) : Calls Tryz.prog 126 #[.int .u64 8] w fun e w' => w = w' ∧ e = .returned (.int .i64 3) := by
 obtain ⟨h0, h1, h2, h3⟩ := h
 have hx : IntKind.u64.wrap (bits BinOp.and IntKind.u64 8 (IntKind.u64.wrap (-8)) * 285870213051353865) / 288230376151711744 = 7 := by decide +kernel
 go_enter Tryz.func126, Tryz.ntmps126
 go_wp2
 go_ret
 exact ⟨rfl, rfl⟩
def onesOf (k : Int) : Int := if k = 3 ∨ k = 5 ∨ k = 6 then 2 else if k = 7 then 3 else 1
set_option maxRecDepth 10000 in
theorem oc1 (w : World) : Calls Tryz.prog 125 #[.int .u64 1] w fun e w' => w = w' ∧ e = .returned (.int .i64 1) := by
 go_enter Tryz.func125, Tryz.ntmps125
 go_wp2
 go_ret
 exact ⟨rfl, ret_int (by decide +kernel)⟩
set_option maxRecDepth 10000 in
theorem oc2 (w : World) : Calls Tryz.prog 125 #[.int .u64 2] w fun e w' => w = w' ∧ e = .returned (.int .i64 1) := by
 go_enter Tryz.func125, Tryz.ntmps125
 go_wp2
 go_ret
 exact ⟨rfl, ret_int (by decide +kernel)⟩
set_option maxRecDepth 10000 in
theorem oc3 (w : World) : Calls Tryz.prog 125 #[.int .u64 3] w fun e w' => w = w' ∧ e = .returned (.int .i64 2) := by
 go_enter Tryz.func125, Tryz.ntmps125
 go_wp2
 go_ret
 exact ⟨rfl, ret_int (by decide +kernel)⟩
set_option maxRecDepth 10000 in
theorem oc4 (w : World) : Calls Tryz.prog 125 #[.int .u64 4] w fun e w' => w = w' ∧ e = .returned (.int .i64 1) := by
 go_enter Tryz.func125, Tryz.ntmps125
 go_wp2
 go_ret
 exact ⟨rfl, ret_int (by decide +kernel)⟩
set_option maxRecDepth 10000 in
theorem oc5 (w : World) : Calls Tryz.prog 125 #[.int .u64 5] w fun e w' => w = w' ∧ e = .returned (.int .i64 2) := by
 go_enter Tryz.func125, Tryz.ntmps125
 go_wp2
 go_ret
 exact ⟨rfl, ret_int (by decide +kernel)⟩
set_option maxRecDepth 10000 in
theorem oc6 (w : World) : Calls Tryz.prog 125 #[.int .u64 6] w fun e w' => w = w' ∧ e = .returned (.int .i64 2) := by
 go_enter Tryz.func125, Tryz.ntmps125
 go_wp2
 go_ret
 exact ⟨rfl, ret_int (by decide +kernel)⟩
set_option maxRecDepth 10000 in
theorem oc7 (w : World) : Calls Tryz.prog 125 #[.int .u64 7] w fun e w' => w = w' ∧ e = .returned (.int .i64 3) := by
 go_enter Tryz.func125, Tryz.ntmps125
 go_wp2
 go_ret
 exact ⟨rfl, ret_int (by decide +kernel)⟩
set_option maxRecDepth 10000 in
theorem oc8 (w : World) : Calls Tryz.prog 125 #[.int .u64 8] w fun e w' => w = w' ∧ e = .returned (.int .i64 1) := by
 go_enter Tryz.func125, Tryz.ntmps125
 go_wp2
 go_ret
 exact ⟨rfl, ret_int (by decide +kernel)⟩
theorem oc_any (k : Int) (w : World) (h1 : 1 ≤ k) (h8 : k ≤ 8) : Calls Tryz.prog 125 #[.int .u64 k] w fun e w' => w = w' ∧ e = .returned (.int .i64 (onesOf k)) := by
 rcases (show k = 1 ∨ k = 2 ∨ k = 3 ∨ k = 4 ∨ k = 5 ∨ k = 6 ∨ k = 7 ∨ k = 8 by omega) with rfl | rfl | rfl | rfl | rfl | rfl | rfl | rfl
 ·exact oc1 w
 ·exact oc2 w
 ·exact oc3 w
 ·exact oc4 w
 ·exact oc5 w
 ·exact oc6 w
 ·exact oc7 w
 ·exact oc8 w
theorem tz_any (s : Nat) (w : World) (h : Tabs w) (hs : s = 1 ∨ s = 2 ∨ s = 4 ∨ s = 8) : Calls Tryz.prog 126 #[.int .u64 (s : Int)] w fun e w' => w = w' ∧ e = .returned (.int .i64 (tg s : Int)) := by
 rcases hs with rfl | rfl | rfl | rfl
 ·exact tz1 w h
 ·exact tz2 w h
 ·exact tz4 w h
 ·exact tz8 w h
set_option maxRecDepth 10000 in
theorem size_any (n : Nat) (w : World) : Calls Tryz.prog 87 #[.int .u64 (n : Int)] w fun e w' => w = w' ∧ e = .returned (.int .i64 (szN n : Int)) := by
 go_enter Tryz.func87, Tryz.ntmps87
 go_wp2
 go_loop [3] (fun i => ∃ k : Int, i = .int .i64 k ∧ (k = 1 ∨ (k = 2 ∧ (64 : Int) ≤ n) ∨ (k = 4 ∧ (16384 : Int) ≤ n) ∨ (k = 8 ∧ (1073741824 : Int) ≤ n) ∨ (k = 16 ∧ (4611686018427387904 : Int) ≤ n))) (fun i => 16 - (intOf i).toNat)
 case atStart => exact ⟨1, rfl, by omega⟩
 case round =>
  obtain ⟨k, rfl, hk⟩ := hrel
  rcases hk with rfl | ⟨rfl, hn⟩ | ⟨rfl, hn⟩ | ⟨rfl, hn⟩ | ⟨rfl, hn⟩
  ·by_cases hlt : (n : Int) < 64
   ·go_wp2
    go_ret
    exact ⟨rfl, ret_int (by rcases szN_cases n with h' | h' | h' | h' | h' <;> omega)⟩
   ·go_wp2
    go_round
    case rel => exact ⟨2, rfl, by omega⟩
    case measure => simp [intOf]
  ·by_cases hlt : (n : Int) < 16384
   ·go_wp2
    go_ret
    exact ⟨rfl, ret_int (by rcases szN_cases n with h' | h' | h' | h' | h' <;> omega)⟩
   ·go_wp2
    go_round
    case rel => exact ⟨4, rfl, by omega⟩
    case measure => simp [intOf]
  ·by_cases hlt : (n : Int) < 1073741824
   ·go_wp2
    go_ret
    exact ⟨rfl, ret_int (by rcases szN_cases n with h' | h' | h' | h' | h' <;> omega)⟩
   ·go_wp2
    go_round
    case rel => exact ⟨8, rfl, by omega⟩
    case measure => simp [intOf]
  ·by_cases hlt : (n : Int) < 4611686018427387904
   ·go_wp2
    go_ret
    exact ⟨rfl, ret_int (by rcases szN_cases n with h' | h' | h' | h' | h' <;> omega)⟩
   ·go_wp2
    go_round
    case rel => exact ⟨16, rfl, by omega⟩
    case measure => simp [intOf]
  ·go_wp2
   go_ret
   exact ⟨rfl, ret_int (by rcases szN_cases n with h' | h' | h' | h' | h' <;> omega)⟩
end Go.Proofs.YtahgidkpjmecdaaGreatDoor
set_option maxRecDepth 100000
namespace Go.Proofs.YtahgidkpjmecdaaGreatDoor
open Go.ChangeShapes Go.WideShapes Go.ChangeAt Go.RowKit
theorem Tryz.laidOut : laidOutB Tryz.prog = true := by kernel_rfl
theorem args_stay {H : Type} {enc : TypeId × Value → H} {W W' : World} (hb : Below W.heap.size W W') :
  ∀ (ts : List TypeId) (vs : List Value) (ds : List (DataW H)) (ps : List MemPlace), (ts.all fun t => Tryz.prog.readableRec t && decide (t < Tryz.prog.types.size)) = true →
   DataW.TrodAll enc Tryz.prog W 0 (fun _ => true) true ts vs ds ps → (∀ x ∈ ps, x.block < W.heap.size) → DataW.TrodAll enc Tryz.prog W' 0 (fun b => decide (b < W.heap.size)) true ts vs ds ps := by
 intro ts
 induction ts with
 | nil => intro vs ds ps _ h _; obtain ⟨rfl, rfl, rfl⟩ := trodAll_nil h; exact trodAll_mk0
 | cons t ts ih =>
  intro vs ds ps hr h hlt
  obtain ⟨v, vs', d, ds', p, q, rfl, rfl, rfl, h0, r0⟩ := trodAll_cons h
  simp only [List.all_cons, Bool.and_eq_true, decide_eq_true_eq] at hr
  refine trodAll_cons_mk (Below.trod Tryz.laidOut hr.1.1 hr.1.2 h0 hb (fun x hx => hlt x (List.mem_append.2 (.inl hx)))) (ih vs' ds' q ?_ r0 (fun x hx => hlt x (List.mem_append.2 (.inr hx))))
  simpa using hr.2
theorem law_post {H : Type} {enc : TypeId × Value → H} {W W' : World} {args : Array Value} {ds gs : List (DataW H)} {before : List MemPlace} {fn : Func} {s : ChangeSpec}
  (hW : DataW.Whole enc Tryz.prog fn.params.toList s.vars false W args.toList ds gs before) (hv : s.vars = []) (hres : fn.resultTypes = #[4])
  (hr : (fn.params.toList.all fun t => Tryz.prog.readableRec t && decide (t < Tryz.prog.types.size)) = true) (hb : Below W.heap.size W W')
  (h1 : (s.fn H (ds ++ gs)).results = [.lit (.bool true)]) (h2 : (s.fn H (ds ++ gs)).args = ds) (h3 : (s.fn H (ds ++ gs)).vars = []) :
  s.post enc Tryz.prog fn false true false false W args (.bool true) W' := by
 have hlt := hW.lt
 obtain ⟨p, q, hA, hV, rfl, hfz, hnd⟩ := hW
 have hV' := hV
 rw [hv] at hV'
 obtain ⟨rfl, rfl⟩ := trodVars_none hV'
 refine ⟨ds, [], p ++ [], [], p, [], ⟨p, [], hA, hV, rfl, hfz, hnd⟩, ?_, ?_, ?_, hb.frame _, fun h => by cases h⟩
 ·rw [h1, hres]
  exact trodAll_cons_mk (shut_bool Tryz.underlying4 true) trodAll_mk0
 ·rw [h2]
  exact args_stay hb _ _ _ _ hr hA (fun x hx => hlt x (by simpa using hx))
 ·rw [h3, hv]
  rfl
theorem own : ownKnob Tryz.prog.godebug = none := by kernel_rfl
theorem gTab : Tryz.prog.globalNamed "math/bits.deBruijn64tab" = some 1 := by kernel_rfl
theorem gTabType : (Tryz.prog.globals[1]?).map (·.type) = some 248 := by kernel_rfl
theorem cellsTab : Tryz.prog.cellsOf 248 = 64 := by kernel_rfl
theorem cellsByte : Tryz.prog.cellsOf 5 = 1 := by kernel_rfl
def tab64 : List Int := [0, 1, 56, 2, 57, 49, 28, 3, 61, 58, 42, 50, 38, 29, 17, 4, 62, 47, 59, 36, 45, 43, 51, 22, 53, 39, 33, 30, 24, 18, 12, 5, 63, 55, 48, 27, 60, 41, 37, 16, 46, 35, 44, 21, 52, 32, 23, 11, 54, 26, 40, 15, 34, 20, 31, 10, 25, 14, 19, 9, 13, 8, 7, 6]
def tab32 : List Int := [0, 1, 28, 2, 29, 14, 24, 3, 30, 22, 20, 15, 25, 17, 4, 8, 31, 27, 13, 23, 21, 19, 16, 7, 26, 12, 18, 6, 11, 5, 10, 9]
def fourLaid : List (String × DataW Unit) := [("math/bits.deBruijn32tab", Rows.laid_math_bits_deBruijn32tab), ("math/bits.deBruijn64tab", Rows.laid_math_bits_deBruijn64tab), ("unicode/utf8.acceptRanges", Rows.laid_unicode_utf8_acceptRanges), ("unicode/utf8.first", Rows.laid_unicode_utf8_first)]
theorem table {W : World} (h : laidMetH Tryz.prog fourLaid W) : Lib.TabIs Tryz.prog W "math/bits.deBruijn64tab" .u8 tab64 := by
 have h2 := h.filter (fun x => x.1 == "math/bits.deBruijn64tab")
 have e : fourLaid.filter (fun x => x.1 == "math/bits.deBruijn64tab") = [("math/bits.deBruijn64tab", Lib.tabData .u8 tab64)] := rfl
 rw [e] at h2
 exact Lib.tabIs_of_head (rest := []) gTab gTabType Tryz.underlying248 Tryz.underlying5 cellsByte cellsTab h2
theorem tabs_of {W : World} (h : laidMetH Tryz.prog fourLaid W) : Tabs W :=
 ⟨(table h).cell gTab 0 (by decide), (table h).cell gTab 1 (by decide), (table h).cell gTab 3 (by decide), (table h).cell gTab 7 (by decide)⟩
theorem noHandles : (fourLaid.filter fun x => x.2.handleName?.isNone) = fourLaid := by kernel_rfl
theorem fourMet {W : World} (h : laidMetH Tryz.prog fourLaid W) : laidMet Tryz.prog fourLaid W := by
 have := (laidMetH_iff.1 h).1
 rwa [noHandles] at this
def ren8 : Go.Shelf.Ren where
 f := fun n => n
 t := fun n => match n with
  | 5 => 5
  | 119 => 255
  | 138 => 257
  | 139 => 258
  | n => n
 g := fun n => match n with
  | 3 => 3
  | 4 => 4
  | n => n
theorem types8 : U8Types Tryz.prog ren8 := ⟨by kernel_rfl, by kernel_rfl, by kernel_rfl, by kernel_rfl⟩
theorem extra8 : U8Extra Tryz.prog ren8 := ⟨by kernel_rfl, by kernel_rfl, by kernel_rfl, by kernel_rfl, by kernel_rfl, by kernel_rfl, by kernel_rfl⟩
theorem first8 : Rows.laid_unicode_utf8_first = Lib.firstData := by kernel_rfl
theorem accept8 : (Rows.laid_unicode_utf8_acceptRanges : DataW Unit) = Lib.acceptData := by kernel_rfl
theorem utabs_of {W : World} (h : laidMetH Tryz.prog fourLaid W) : Lib.Utf8Tabs 3 4 W := by
 have hm := fourMet h
 exact utf8Tabs_of_readsT types8 extra8 (Lib.laidMet.reads hm (by rw [← first8]; simp [fourLaid])) (Lib.laidMet.reads hm (by rw [← accept8]; simp [fourLaid]))
def fillTab (cs : Array Value) : Obj → Obj
 | .cells _ t frozen => .cells cs t frozen
 | o => o
noncomputable def laidWorld (os : Os) : World :=
 { World.holding Tryz.prog os ⟨#[], #[], []⟩ with heap := ((((World.holding Tryz.prog os ⟨#[], #[], []⟩).heap.modify 0 (fillTab (tab32.map (Value.int .u8)).toArray)).modify 1 (fillTab (tab64.map (Value.int .u8)).toArray)).modify 3 (fillTab (Go.Pinned.utf8FirstZ.map fun (n : Nat) => Value.int .u8 (Int.ofNat n)).toArray)).modify 4 (fillTab ((([128, 191, 160, 191, 128, 159, 144, 191, 128, 143] ++ List.replicate 22 0 : List Int)).map (Value.int .u8)).toArray) }
end Go.Proofs.YtahgidkpjmecdaaGreatDoor
set_option maxRecDepth 100000
namespace Go.Proofs.YtahgidkpjmecdaaGreatDoor
theorem fold_be (k n a : Nat) : (be k n).foldl (fun m x => m * 256 + x.toNat) a = a * 256 ^ k + n % 256 ^ k := by
 induction k generalizing n with
 | zero => simp [be, Nat.mod_one]
 | succ k ih =>
  rw [be, List.foldl_append, ih, Nat.pow_succ, Nat.mul_comm (256 ^ k) 256, Nat.mod_mul]
  simp only [List.foldl_cons, List.foldl_nil]
  have : (UInt8.ofNat n).toNat = n % 256 := by simp
  rw [this, Nat.mul_comm 256 (256 ^ k), ← Nat.mul_assoc, Nat.add_mul]
  omega
theorem two_tg (s : Nat) (h : s = 1 ∨ s = 2 ∨ s = 4 ∨ s = 8) : 2 ^ tg s = s := by rcases h with rfl | rfl | rfl | rfl <;> rfl
theorem wd_length (n s : Nat) : (wd n s).length = s := by simp [wd]
theorem mod_tag (x t : Nat) (hx : x < 64) : (x + 64 * t) % 64 = x := by omega
theorem div_tag (x t : Nat) (hx : x < 64) : (x + 64 * t) / 64 = t := by omega
theorem toNat_tag (x t : Nat) (hx : x < 64) (ht : t < 4) : (UInt8.ofNat (x + 64 * t)).toNat = x + 64 * t := UInt8.toNat_ofNat_of_lt' (by show _ < 256; omega)
theorem val_wd (n s : Nat) (h : fits n (s : Int) = true) : valOf (wd n s) = n := by
 obtain ⟨h1, h8, hn, hs⟩ := fits_bound n s h
 obtain ⟨e, hx⟩ := wd_first n s h1 hn (tg_lt s)
 have ht := tg_lt s
 rw [e]
 have hc := toNat_tag _ _ hx ht
 simp only [valOf, hc]
 rw [fold_be, mod_tag _ _ hx, Nat.mul_comm]
 exact Nat.div_add_mod n _
theorem int_wd (n s : Nat) (more : List UInt8) (h : fits n (s : Int) = true) : RS.int ⟨wd n s ++ more, 0⟩ = (n, ⟨more, 0⟩) := by
 obtain ⟨h1, h8, hn, hs⟩ := fits_bound n s h
 obtain ⟨e, hx⟩ := wd_first n s h1 hn (tg_lt s)
 have ht := tg_lt s
 have hc := toNat_tag _ _ hx ht
 have hl : lenOf (UInt8.ofNat (n / 256 ^ (s - 1) + 64 * tg s)) = s := by
  unfold lenOf
  rw [hc, div_tag _ _ hx, two_tg s hs]
 have hlen := wd_length n s
 have hb : RS.bytes ⟨wd n s ++ more, 0⟩ s = (wd n s, ⟨more, 0⟩) := by
  unfold RS.bytes
  rw [if_neg (by simp), if_neg (by simp [hlen])]
  simp [hlen]
 have hv := val_wd n s h
 have hw : wd n s ++ more = UInt8.ofNat (n / 256 ^ (s - 1) + 64 * tg s) :: (be (s - 1) n ++ more) := by rw [e]; rfl
 unfold RS.int
 split
 ·rename_i h0; simp only at h0; rw [hw] at h0; simp at h0
 ·rename_i c r h0
  simp only at h0
  rw [hw] at h0
  obtain ⟨rfl, _⟩ := List.cons.inj h0
  rw [hl, if_neg (by simp [hlen]), hb, hv]
theorem fits_self (n : Nat) (h : n < 4611686018427387904) : fits n (szN n : Int) = true := by
 rw [fits_iff]
 rcases szN_cases n with h' | h' | h' | h' | h' <;> omega
theorem putL_eq (n : Nat) (h : n < 4611686018427387904) : putL n = wd n (szN n) := by simp [putL, wideL, fits_self n h]
theorem int_putL (n : Nat) (more : List UInt8) (h : n < 4611686018427387904) : RS.int ⟨putL n ++ more, 0⟩ = (n, ⟨more, 0⟩) := by
 rw [putL_eq n h]; exact int_wd n _ more (fits_self n h)
end Go.Proofs.YtahgidkpjmecdaaGreatDoor
set_option maxRecDepth 100000
namespace Go.Proofs.YtahgidkpjmecdaaGreatDoor
structure Fr where
 k : Int
 id : Nat
 a : Nat
 b : Nat
 c : Nat
 fl : Bool
 d : List UInt8
 rs : List (Nat × Nat)
 t : List UInt8
deriving DecidableEq
def topN : Nat := 4611686018427387903
def zeros16 : List UInt8 := [0, 0, 0, 0, 0, 0, 0, 0, 0, 0, 0, 0, 0, 0, 0, 0]
def Fr.zero : Fr := ⟨0, 0, 0, 0, 0, false, [], [], zeros16⟩
def Fr.ofKind (k : Int) (fl : Bool) : Fr := ⟨k, 0, 0, 0, 0, fl, [], [], zeros16⟩
def sameF (f g : Fr) : Bool := decide (f = g)
structure Mk where
 i : Bool
 a : Bool
 b : Bool
 c : Bool
 f : Bool
 d : Bool
 r : Bool
 t : Bool
def maskN : Nat → Option Mk
 | 0 => some ⟨false, true, false, false, false, false, false, false⟩
 | 1 => some ⟨false, false, false, false, false, false, false, false⟩
 | 2 => some ⟨false, false, true, false, false, false, true, false⟩
 | 4 => some ⟨true, true, false, true, false, false, false, false⟩
 | 5 => some ⟨true, false, false, true, false, false, false, false⟩
 | 6 => some ⟨false, true, false, false, false, true, false, false⟩
 | 7 => some ⟨false, false, false, false, false, true, false, false⟩
 | 8 => some ⟨true, true, false, false, true, true, false, false⟩
 | 16 => some ⟨false, true, false, false, false, false, false, false⟩
 | 17 => some ⟨true, true, false, false, false, false, false, false⟩
 | 18 => some ⟨false, true, false, false, true, false, false, false⟩
 | 20 => some ⟨false, true, false, false, false, false, false, false⟩
 | 21 => some ⟨true, true, false, false, false, false, false, false⟩
 | 22 => some ⟨false, true, false, false, true, false, false, false⟩
 | 24 => some ⟨true, true, false, false, false, true, false, true⟩
 | 25 => some ⟨true, false, false, false, false, false, false, false⟩
 | 26 => some ⟨false, false, false, false, false, true, false, false⟩
 | 27 => some ⟨false, false, false, false, false, true, false, false⟩
 | 28 => some ⟨false, true, false, true, true, true, false, false⟩
 | 30 => some ⟨false, false, false, false, false, false, false, false⟩
 | _ => none
def maskK (k : Int) : Option Mk := if 0 ≤ k then maskN k.toNat else none
def onlyF (m : Mk) (f : Fr) : Fr :=
 ⟨f.k, bif m.i then f.id else 0, bif m.a then f.a else 0, bif m.b then f.b else 0, bif m.c then f.c else 0, bif m.f then f.fl else false, bif m.d then f.d else [], bif m.r then f.rs else [], bif m.t then f.t else zeros16⟩
def rngB : Option Nat → List (Nat × Nat) → Bool
 | _, [] => true
 | none, x :: l => decide (x.1 ≤ x.2) && decide (x.2 ≤ topN) && rngB (some x.1) l
 | some p, x :: l => decide (x.1 ≤ x.2) && decide (x.2 ≤ topN) && decide (2 ≤ p) && decide (x.2 ≤ p - 2) && rngB (some x.1) l
def rangesB (l : List (Nat × Nat)) : Bool := rngB none l && decide (1 ≤ l.length) && decide (l.length ≤ 16)
def okN (k : Nat) (f : Fr) : Bool :=
 match k with
 | 0 => decide (1 ≤ f.a) && decide (f.a ≤ 1200)
 | 2 => rangesB f.rs
 | 6 => decide (f.d.length ≤ 1200) && decide (f.a + f.d.length ≤ topN)
 | 7 => decide (f.d.length ≤ 1200) && decide (1 ≤ f.d.length)
 | 8 => decide (f.d.length ≤ 1200) && decide (f.a + f.d.length ≤ topN)
 | 18 => decide (f.a ≤ 1152921504606846976)
 | 22 => decide (f.a ≤ 1152921504606846976)
 | 24 => decide (f.a ≤ f.id) && decide (1 ≤ f.d.length) && decide (f.d.length ≤ 20)
 | 26 => decide (f.d.length = 8)
 | 27 => decide (f.d.length = 8)
 | 28 => decide (f.d.length ≤ 1200) && (!f.fl || decide (f.a = 0))
 | _ => true
def topB (f : Fr) : Bool := decide (f.id ≤ topN) && decide (f.a ≤ topN) && decide (f.b ≤ topN) && decide (f.c ≤ topN)
def rightF (f : Fr) : Bool :=
 match maskK f.k with
 | none => false
 | some m => topB f && sameF f (onlyF m f) && okN f.k.toNat f
def dataL (d : List UInt8) : List UInt8 := putL d.length ++ d
def gapsL : Nat → List (Nat × Nat) → List UInt8
 | _, [] => []
 | p, x :: l => putL (p - x.2 - 2) ++ putL (x.2 - x.1) ++ gapsL x.1 l
def ackL (b : Nat) : List (Nat × Nat) → List UInt8
 | [] => []
 | x :: l => putL x.2 ++ putL b ++ putL l.length ++ putL (x.2 - x.1) ++ gapsL x.1 l
def bodyN (k : Nat) (f : Fr) : List UInt8 :=
 match k with
 | 0 => List.replicate (f.a - 1) 0
 | 2 => ackL f.b f.rs
 | 4 => putL f.id ++ putL f.c ++ putL f.a
 | 5 => putL f.id ++ putL f.c
 | 6 => putL f.a ++ dataL f.d
 | 7 => dataL f.d
 | 8 => putL f.id ++ (if f.a = 0 then [] else putL f.a) ++ dataL f.d
 | 16 => putL f.a
 | 17 => putL f.id ++ putL f.a
 | 18 => putL f.a
 | 20 => putL f.a
 | 21 => putL f.id ++ putL f.a
 | 22 => putL f.a
 | 24 => putL f.id ++ putL f.a ++ [UInt8.ofNat f.d.length] ++ f.d ++ f.t
 | 25 => putL f.id
 | 26 => f.d
 | 27 => f.d
 | 28 => putL f.c ++ (bif f.fl then [] else putL f.a) ++ dataL f.d
 | _ => []
def tagN (f : Fr) : Nat :=
 if f.k = 8 then 10 + (if f.a = 0 then 0 else 4) + (if f.fl = true then 1 else 0)
 else f.k.toNat + (if f.fl = true then 1 else 0)
def fputL (f : Fr) : List UInt8 := if rightF f = true then UInt8.ofNat (tagN f) :: bodyN f.k.toNat f else []
def knownL (t : Nat) : Int × Bool :=
 if 8 ≤ t ∧ t < 16 then (8, false)
 else if t = 3 then (2, false)
 else if t = 19 ∨ t = 23 ∨ t = 29 then (((t - 1 : Nat) : Int), true)
 else if 30 < t then (-1, false) else ((t : Int), false)
def readGaps : Nat → List (Nat × Nat) → Nat → RS → List (Nat × Nat) × RS
 | 0, out, _, s => (out, s)
 | n + 1, out, lo, s =>
  if s.int.2.int.2.e ≠ 0 ∨ lo < 2 ∨ lo - 2 < s.int.1 ∨ lo - 2 - s.int.1 < s.int.2.int.1 then (out, s.int.2.int.2.fail 3)
  else readGaps n (out ++ [(lo - 2 - s.int.1 - s.int.2.int.1, lo - 2 - s.int.1)]) (lo - 2 - s.int.1 - s.int.2.int.1) s.int.2.int.2
def readAckL (f : Fr) (s : RS) : Fr × RS :=
 let h := s.int; let b := h.2.int; let n := b.2.int; let r := n.2.int
 if r.2.e ≠ 0 ∨ 16 ≤ n.1 ∨ h.1 < r.1 then ({ f with b := b.1 }, r.2.fail 3)
 else let g := readGaps n.1 [(h.1 - r.1, h.1)] (h.1 - r.1) r.2
  ({ f with b := b.1, rs := g.1 }, g.2)
def readStreamL (tag : Nat) (f : Fr) (s : RS) : Fr × RS :=
 let i := s.int
 let a := if tag / 4 % 2 = 1 then i.2.int else (0, i.2)
 let n := if tag / 2 % 2 = 1 then a.2.int else (a.2.l.length, a.2)
 let d := n.2.bytes n.1
 ({ f with id := i.1, a := a.1, fl := decide (tag % 2 = 1), d := d.1 }, d.2)
def zeroN : Nat → List UInt8 → Nat
 | 0, _ => 0
 | _ + 1, [] => 0
 | n + 1, c :: l => if c = 0 then zeroN n l + 1 else 0
def tokL (t : List UInt8) : List UInt8 := if t.length = 16 then t else zeros16
def readN (tag : Nat) (k : Nat) (f : Fr) (s : RS) : Fr × RS :=
 match k with
 | 0 => ({ f with a := zeroN 1199 s.l + 1 }, ⟨s.l.drop (zeroN 1199 s.l), s.e⟩)
 | 2 => readAckL f s
 | 4 => ({ f with id := s.int.1, c := s.int.2.int.1, a := s.int.2.int.2.int.1 }, s.int.2.int.2.int.2)
 | 5 => ({ f with id := s.int.1, c := s.int.2.int.1 }, s.int.2.int.2)
 | 6 => ({ f with a := s.int.1, d := (s.int.2.int.2.bytes s.int.2.int.1).1 }, (s.int.2.int.2.bytes s.int.2.int.1).2)
 | 7 => ({ f with d := (s.int.2.bytes s.int.1).1 }, (s.int.2.bytes s.int.1).2)
 | 8 => readStreamL tag f s
 | 16 => ({ f with a := s.int.1 }, s.int.2)
 | 17 => ({ f with id := s.int.1, a := s.int.2.int.1 }, s.int.2.int.2)
 | 18 => ({ f with a := s.int.1 }, s.int.2)
 | 20 => ({ f with a := s.int.1 }, s.int.2)
 | 21 => ({ f with id := s.int.1, a := s.int.2.int.1 }, s.int.2.int.2)
 | 22 => ({ f with a := s.int.1 }, s.int.2)
 | 24 => ({ f with id := s.int.1, a := s.int.2.int.1, d := (s.int.2.int.2.byte.2.bytes s.int.2.int.2.byte.1.toNat).1, t := tokL ((s.int.2.int.2.byte.2.bytes s.int.2.int.2.byte.1.toNat).2.bytes 16).1 }, ((s.int.2.int.2.byte.2.bytes s.int.2.int.2.byte.1.toNat).2.bytes 16).2)
 | 25 => ({ f with id := s.int.1 }, s.int.2)
 | 26 => ({ f with d := (s.bytes 8).1 }, (s.bytes 8).2)
 | 27 => ({ f with d := (s.bytes 8).1 }, (s.bytes 8).2)
 | 28 => let a := if f.fl = true then (0, s.int.2) else s.int.2.int
  ({ f with c := s.int.1, a := a.1, d := (a.2.int.2.bytes a.2.int.1).1 }, (a.2.int.2.bytes a.2.int.1).2)
 | _ => (f, s)
def three (t : Nat) (s : RS) : RS := if t = 3 then s.int.2.int.2.int.2 else s
def nextK (t : Nat) (r : Fr × RS) : Fr × RS := if (three t r.2).e = 0 ∧ rightF r.1 = true then (r.1, three t r.2) else (Fr.zero, (three t r.2).fail 3)
def nextF (s : RS) : Fr × RS :=
 if s.int.2.e ≠ 0 then (Fr.zero, s.int.2.fail 3)
 else if (maskK (knownL s.int.1).1).isNone = true then (Fr.zero, s.int.2.fail 3)
 else nextK s.int.1 (readN s.int.1 (knownL s.int.1).1.toNat (Fr.ofKind (knownL s.int.1).1 (knownL s.int.1).2) s.int.2)
end Go.Proofs.YtahgidkpjmecdaaGreatDoor
set_option maxRecDepth 100000
namespace Go.Proofs.YtahgidkpjmecdaaGreatDoor
open Go.RowKit
theorem Blk.range {w : World} {b : Nat} {C : Array Value} {T : TypeId} (h : Blk w b C T) (o : Nat) (cs : List Value) (hc : ∀ j v, cs[j]? = some v → C[o + j]? = some v) : w.rangeAt b o cs := fun j v hv => (h.cell (o + j)).trans (hc j v hv)
theorem Blk.whole {w : World} {b : Nat} {C : Array Value} {T : TypeId} (h : Blk w b C T) : w.rangeAt b 0 C.toList := h.range 0 _ (fun j v hv => by rw [Nat.zero_add]; simpa using hv)
theorem blk_loadVar {P : Program} {w : World} {b : Nat} {C : Array Value} {T ty : TypeId} {d : TypeDesc} (h : Blk w b C T) (hu : P.underlying ty = some d) (hd : d.isRow = true) (hi : (P.info? ty).map (·.size) = some C.size) :
  (loadVar ty ⟨b, 0, none⟩).run P w = .ok (.agg C) w := run_loadVar_mid w b 0 ty C.toList d h.whole hu hd hi
theorem wpList_load_blk {P : Program} {ops : Array Oper} {rest : List Oper} {op : Oper} {a : Act} {w : World} {Q : Exit → Act → World → Prop} (hgd : op.guard = none) (ty : TypeId) (x : Operand) (ho : op.op = .load ty x)
  (b : Nat) (hx : a.eval x = .pointer (some ⟨b, 0, none⟩)) (C : Array Value) (T : TypeId) (d : TypeDesc) (h : Blk w b C T)
  (hu : P.underlying ty = some d) (hd : d.isRow = true) (hi : (P.info? ty).map (·.size) = some C.size)
  (k : wpList P ops Q rest (a.put op.dst (.agg C)) w) : wpList P ops Q (op :: rest) a w :=
 wpList_load_mid hgd ty x ho b 0 hx C.toList d h.whole hu hd hi k
theorem blk_setCells' {b : Nat} {T : TypeId} : ∀ (vs : List Value) (o : Nat) (w : World) (cs : Array Value), Blk w b cs T → o + vs.length ≤ cs.size → ∃ cs', Blk (w.setCells b o vs) b cs' T ∧ cs'.size = cs.size ∧ cs'.toList = cs.toList.take o ++ vs ++ cs.toList.drop (o + vs.length)
 | [], o, w, cs, h, _ => ⟨cs, h, rfl, by simp⟩
 | v :: vs, o, w, cs, h, hl => by
  simp only [List.length_cons] at hl ⊢
  obtain ⟨cs', h1, h2, h3⟩ := blk_setCells' vs (o + 1) (w.setCell ⟨b, o, none⟩ v) (cs.setIfInBounds o v) (h.set o v) (by rw [Array.size_setIfInBounds]; omega)
  refine ⟨cs', h1, by simpa using h2, ?_⟩
  rw [h3]
  have hlo : o < cs.toList.length := by simp; omega
  rw [Array.toList_setIfInBounds, List.take_add_one, List.getElem?_set_self hlo, List.take_set_of_le (Nat.le_refl _), List.drop_set_of_lt (by omega), show o + 1 + vs.length = o + (vs.length + 1) by omega]
  simp
theorem mod_setCells {a : World} {b : Nat} : ∀ (vs : List Value) (o : Nat) (w : World), Mod (fun k => k = b) a w → Mod (fun k => k = b) a (w.setCells b o vs)
 | [], _, _, h => h
 | v :: vs, o, _, h => mod_setCells vs (o + 1) _ (h.setCell (p := ⟨b, o, none⟩) (fun _ => rfl) v)
theorem blk_store {P : Program} {w : World} {b : Nat} {C cells : Array Value} {T : TypeId} (o : Nat) (ty : TypeId) (h : Blk w b C T) (hi : (P.info? ty).map (·.size) = some cells.size) (hl : o + cells.size ≤ C.size) (h1 : ∀ v ∈ cells.toList, v.oneCell' = true) :
  ∃ w' C', (storeVar ty ⟨b, o, none⟩ (.agg cells)).run P w = .ok () w' ∧ Blk w' b C' T ∧ C'.size = C.size ∧ C'.toList = C.toList.take o ++ cells.toList ++ C.toList.drop (o + cells.size) ∧ Mod (fun k => k = b) w w' := by
 have ht : w.there b o cells.size := fun j hj => ⟨by rw [h.cell]; simp; omega, h.free _⟩
 obtain ⟨C', h2, h3, h4⟩ := blk_setCells' cells.toList o w C h (by simpa using hl)
 refine ⟨_, C', run_storeVar_mid w b o ty cells ht hi (Array.all_eq_true_iff_forall_mem.2 (fun v hv => h1 v (by simpa using hv))), h2, h3, by simpa using h4, mod_setCells _ _ _ (Mod.refl _ _)⟩
theorem wpList_store_blk {P : Program} {ops : Array Oper} {rest : List Oper} {op : Oper} {a : Act} {w : World} {Q : Exit → Act → World → Prop} (hgd : op.guard = none) (ty : TypeId) (x y : Operand) (ho : op.op = .store ty x y)
  (b : Nat) (hx : a.eval x = .pointer (some ⟨b, 0, none⟩)) (C cells : Array Value) (hy : a.eval y = .agg cells) (T : TypeId) (h : Blk w b C T) (hi : (P.info? ty).map (·.size) = some cells.size) (hl : C.size = cells.size) (h1 : ∀ v ∈ cells.toList, v.oneCell' = true)
  (k : ∀ w', Blk w' b cells T → Mod (fun k => k = b) w w' → wpList P ops Q rest (a.put op.dst undef) w') : wpList P ops Q (op :: rest) a w := by
 obtain ⟨w', C', hr, hB, hs, he, hM⟩ := blk_store (P := P) 0 ty h hi (by omega) h1
 have e : C' = cells := by
  apply Array.toList_inj.1
  rw [he, List.drop_of_length_le (by simp; omega)]
  simp
 subst e
 refine wpList_plain hgd fun K hK => ?_
 unfold Oper.wp execOp
 simp only [ho, hx, hy, Instr.storeAt, Instr.sureAddr, Sem.run_bind, Sem.run_pure, Result.andThen_ok, hr]
 exact hK _ _ (k w' hB hM)
theorem results_cell {P : Program} {w : World} {fn : Func} {t : Tmp} {ty : TypeId} {b : Nat} {v : Value} (h : fn.results = #[.cell t ty]) (tmps : Array Value) (ha : tmps.getD t undef = .pointer (some ⟨b, 0, none⟩)) (hl : (loadVar ty ⟨b, 0, none⟩).run P w = .ok v w) :
  (results fn tmps).run P w = .ok v w := by
 have ha' : (tmps[t]?).getD undef = .pointer (some ⟨b, 0, none⟩) := by simpa using ha
 simp only [results, h]
 simp [ha', asAddr, hl]
theorem results_cell_tmp {P : Program} {w : World} {fn : Func} {t u : Tmp} {ty : TypeId} {b : Nat} {v : Value} (h : fn.results = #[.cell t ty, .tmp u]) (tmps : Array Value) (ha : tmps.getD t undef = .pointer (some ⟨b, 0, none⟩)) (hl : (loadVar ty ⟨b, 0, none⟩).run P w = .ok v w) :
  (results fn tmps).run P w = .ok (.tuple #[v, tmps.getD u undef]) w := by
 have ha' : (tmps[t]?).getD undef = .pointer (some ⟨b, 0, none⟩) := by simpa using ha
 simp only [results, h]
 simp [ha', asAddr, hl]
theorem Tryz.info5 : (Tryz.prog.info? 5).map (fun i => (i.zero, i.size, i.bytes)) = some (some (.int .u8 0), 1, 1) := by kernel_rfl
set_option maxRecDepth 10000 in
theorem wide_none (n : Nat) (size : Int) (w : World) (hs : -9223372036854775808 ≤ size ∧ size ≤ 9223372036854775807) (hf : fits n size = false) :
  Calls Tryz.prog 86 #[.int .u64 (n : Int), .int .i64 size] w fun e w' => w = w' ∧ e = .returned (.slice none 0 0) := by
 have hfit : ¬ (szN n ≠ 0 ∧ (szN n : Int) ≤ size ∧ (size = 1 ∨ size = 2 ∨ size = 4 ∨ size = 8)) := by rw [← fits_sz, hf]; simp
 have hsz : (szN n : Int) ≤ 8 := by rcases szN_cases n with h | h | h | h | h <;> omega
 have HS := Lib.hid (size_any n)
 generalize szN n = k at *
 obtain ⟨hs1, hs2⟩ := hs
 by_cases h0 : (k : Int) = 0
 ·have hk0 : ((k : Int) == 0) = true := by simp [h0]
  have HF := Lib.hid hfit
  have H0 := Lib.hid h0
  clear hfit h0 hf
  go_enter Tryz.func86, Tryz.ntmps86
  go_wp2_with (go_at_call 87; refine (HS.out _).mono ?_; rintro e w' ⟨rfl, rfl⟩)
  go_ret
  exact ⟨rfl, rfl⟩
 have hk0 : ((k : Int) == 0) = false := by simp; omega
 by_cases h1 : size < (k : Int)
 ·have HF := Lib.hid hfit
  clear hfit h0 hf
  go_enter Tryz.func86, Tryz.ntmps86
  go_wp2_with (go_at_call 87; refine (HS.out _).mono ?_; rintro e w' ⟨rfl, rfl⟩)
  go_ret
  exact ⟨rfl, rfl⟩
 by_cases h2 : 8 < size
 ·have HF := Lib.hid hfit
  clear hfit h0 hf
  go_enter Tryz.func86, Tryz.ntmps86
  go_wp2_with (go_at_call 87; refine (HS.out _).mono ?_; rintro e w' ⟨rfl, rfl⟩)
  go_ret
  exact ⟨rfl, rfl⟩
 have h3 : size = 3 ∨ size = 5 ∨ size = 6 ∨ size = 7 := by omega
 have ho : (onesOf size != 1) = true := by rcases h3 with rfl | rfl | rfl | rfl <;> rfl
 have hsn : 1 ≤ size := by omega
 have HF := Lib.hid hfit
 clear hfit h0 hf h3
 go_enter Tryz.func86, Tryz.ntmps86
 go_wp2_with (first | (go_at_call 87; refine (HS.out _).mono ?_; rintro e w' ⟨rfl, rfl⟩) | (go_at_call 125; refine (oc_any _ _ (by omega) (by omega)).mono ?_; rintro e w' ⟨rfl, rfl⟩))
 go_ret
 exact ⟨rfl, rfl⟩
theorem wide_end (n j : Nat) (w wr : World) (hn : n < 64 * 256 ^ (j - 1)) (h1 : (1 : Int) ≤ j) (h8 : (j : Int) ≤ 8) (hB : Blk wr w.heap.size (List.replicate (j - j) (bv 0) ++ (be j n).map bv).toArray 5) :
  OwnB (wr.setCell ⟨w.heap.size, 0, none⟩ (.int .u8 (bits BinOp.or IntKind.u8 ((n : Int) / 256 ^ (j - 1) % 256) ((tg j : Int) * 64)))).drew w.heap.size (.slice (some ⟨w.heap.size, 0, none⟩) j j) (wd n j) := by
 obtain ⟨e, hx⟩ := wd_first n j (by omega) hn (tg_lt j)
 have hb := hB.set 0 (.int .u8 (bits BinOp.or IntKind.u8 ((n : Int) / 256 ^ (j - 1) % 256) ((tg j : Int) * 64)))
 have hl : (wd n j).length = j := by simp [wd]
 have ht := tg_lt j
 have hv : Value.int .u8 (bits BinOp.or IntKind.u8 ((n : Int) / 256 ^ (j - 1) % 256) ((tg j : Int) * 64)) = bv (UInt8.ofNat (n / 256 ^ (j - 1) + 64 * tg j)) := by
  unfold bv
  rw [or_byte n (j - 1) (tg j) hx ht]
 have hc : (List.replicate (j - j) (bv 0) ++ (be j n).map bv).toArray.setIfInBounds 0 (.int .u8 (bits BinOp.or IntKind.u8 ((n : Int) / 256 ^ (j - 1) % 256) ((tg j : Int) * 64))) = ((wd n j).map bv).toArray := by
  rw [hv, e]
  obtain ⟨k, rfl⟩ : ∃ k, j = k + 1 := ⟨j - 1, by omega⟩
  simp [be_front]
 rw [hc] at hb
 unfold OwnB
 have := own_of_blk (base := w.heap.size) hb (Nat.le_refl _) (n := j) (by simp [hl]) (by unfold maxLen; omega)
 rw [hl]
 exact this
set_option maxHeartbeats 1000000 in
set_option maxRecDepth 10000 in
theorem wide_some (n s : Nat) (w : World) (hT : Tabs w) (hf : fits n (s : Int) = true) :
  Calls Tryz.prog 86 #[.int .u64 (n : Int), .int .i64 (s : Int)] w fun e w' => ∃ v, e = .returned v ∧ OwnB w' w.heap.size v (wd n s) ∧ Mod (fun _ => False) w w' := by
 obtain ⟨hs1, hs8, hn, hs⟩ := fits_bound n s hf
 have hfit := (fits_sz n (s : Int)).1 hf
 have HS := Lib.hid (size_any n)
 have HN := Lib.hid hn
 have HS4 := Lib.hid hs
 have HT := Lib.hid hT
 generalize szN n = k at *
 have hk0 : ((k : Int) == 0) = false := by simp; omega
 have hks : (k : Int) ≤ s := by omega
 have ho : (onesOf (s : Int) != 1) = false := by rcases hs with rfl | rfl | rfl | rfl <;> rfl
 have hs1i : (1 : Int) ≤ s := by omega
 have hs8i : (s : Int) ≤ 8 := by omega
 clear hfit hf hs hn hT hs1 hs8
 obtain ⟨i0, hi, hz0, hz1, hz2⟩ := info_parts Tryz.info5
 go_enter Tryz.func86, Tryz.ntmps86
 go_wp2_with (first | (go_at_call 87; refine (HS.out _).mono ?_; rintro e w' ⟨rfl, rfl⟩) | (go_at_call 125; refine (oc_any _ _ (by omega) (by omega)).mono ?_; rintro e w' ⟨rfl, rfl⟩) | (at_make; go_must (refine wpList_make_full _ rfl _ _ 31 rfl w.heap.size 5 i0 (.int .u8 0) 1 Tryz.underlying31 hi hz0 hz1 _ _ _ _ s rfl rfl rfl rfl (by rw [hz2]; omega) (by unfold maxLen; omega) (Nat.le_refl _) ?_)))
 intro w1 hown hgrow
 have hB := own_full hown
 rw [toList_madeCells_one] at hB
 have hM := (Mod.refl (fun _ => False) w).grown hgrow (fun k h => by simp at h)
 clear hown hgrow
 go_wp2
 go_loopw [31] (fun i wr => ∃ k : Nat, k ≤ s ∧ i = .int .i64 k ∧ Blk wr w.heap.size (List.replicate (s - k) (bv 0) ++ (be k n).map bv).toArray 5 ∧ Mod (fun _ => False) w wr) (fun i _ => s - (intOf i).toNat)
 case atStart => exact ⟨0, Nat.zero_le _, rfl, by rw [be]; simpa [bv] using hB, hM⟩
 case round =>
  clear hB hM
  obtain ⟨j, hj, rfl, hB, hM⟩ := hrel
  by_cases hlt : (j : Int) < s
  ·have hc := hB.cellAt (s - 1 - j) (get_rep _ _ _ _ (by omega))
   have hfz := hB.free (s - 1 - j)
   go_wp2
   go_roundw
   case rel =>
    refine ⟨j + 1, by omega, by go_num, ?_, hM.setCell (fun h => by simp at h) _⟩
    have := hB.set (s - 1 - j) (.int .u8 ((n : Int) / 2 ^ (8 * j) % 256))
    rw [set_rep _ _ _ _ _ (by omega), byte_shr] at this
    rw [be_front, List.map_cons, byte_shr]
    exact this
   case measure => simp [intOf]; omega
  ·obtain rfl : j = s := by omega
   have hc : wr.cell? ⟨w.heap.size, 0, none⟩ = some (bv (UInt8.ofNat (n / 256 ^ (j - 1)))) := by
    refine hB.cellAt 0 ?_
    obtain ⟨k, rfl⟩ : ∃ k, j = k + 1 := ⟨j - 1, by omega⟩
    simp [be_front]
   have hfz := hB.free 0
   unfold bv at hc
   have HTr := Lib.hid (hM.tabs HT.out (fun h => h))
   have htg : (tg j : Int) ≤ 3 := by have := tg_lt j; omega
   have hw1 : IntKind.i64.wrap ((tg j : Int) * 64) = (tg j : Int) * 64 := IntWalk.i64_in _ (by omega)
   have hw2 : IntKind.u8.wrap ((tg j : Int) * 64) = (tg j : Int) * 64 := IntWalk.u8_in _ (by omega)
   have hw64 : IntKind.u64.wrap (j : Int) = j := IntWalk.u64_in _ (by omega)
   go_wp2
   go_region_with (go_at_call 126; refine (tz_any j wr.drew HTr.out HS4.out).mono ?_; rintro e w' ⟨rfl, rfl⟩)
   all_goals go_wp2
   all_goals go_ret
   all_goals exact ⟨_, rfl, wide_end n j w wr HN.out hs1i hs8i hB, (hM.setCell (fun h => by simp at h) _).drew⟩
end Go.Proofs.YtahgidkpjmecdaaGreatDoor
