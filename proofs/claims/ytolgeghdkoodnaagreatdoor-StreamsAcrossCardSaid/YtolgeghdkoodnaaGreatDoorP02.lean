/- Parts of the proof: VarD AppS AppB GaB GaC. -/
import Derived.Test.YtolgeghdkoodnaaGreatDoorP01
import Derived.WalkSpells
import Derived.Deep.RegionLaw
import Derived.Laws.Tables
import Derived.Laws.StructEq
import Derived.ChangeKeysEq
set_option maxRecDepth 100000
namespace Go.Proofs.YtolgeghdkoodnaaGreatDoor
open Go.RowKit
theorem byts_val {w : World} {v : Value} {l : List UInt8} (h : Byts w v l) : ∃ a cap, v = .slice a l.length cap ∧ l.length ≤ cap ∧ cap ≤ maxLen ∧ (a = none → cap = 0) := Sl.val h
theorem byts_addr {w : World} {v : Value} {l : List UInt8} (h : Byts w v l) (hx : l ≠ []) :
  ∃ b off cap, v = .slice (some ⟨b, off, none⟩) l.length cap ∧ l.length ≤ cap ∧ cap ≤ maxLen ∧ ∀ j x, l[j]? = some x → w.cell? ⟨b, off + j, none⟩ = some (bv x) := by
 obtain ⟨b, off, cap, h1, h2, h3, h4⟩ := Sl.addr h (by simpa using hx)
 exact ⟨b, off, cap, h1, h2, h3, fun j x hj => h4 j (bv x) (by simp [hj])⟩
theorem take_snoc {α : Type} (l : List α) (k : Nat) (x : α) (h : l[k]? = some x) : l.take (k + 1) = l.take k ++ [x] := by
 rw [List.take_add_one, h]; rfl
set_option maxRecDepth 10000 in
theorem same_lens {w : World} {a b : Value} {la lb : List UInt8} (ha : Byts w a la) (hb : Byts w b lb) (h : la.length ≠ lb.length) :
  Calls Tryz.prog 25 #[a, b] w fun e w' => w = w' ∧ e = .returned (.bool false) := by
 obtain ⟨aa, ca, rfl, h1, h2, _⟩ := byts_val ha
 obtain ⟨ab, cb, rfl, h3, h4, _⟩ := byts_val hb
 unfold maxLen at h2 h4
 have hne : ((la.length : Int) != lb.length) = true := by simp; omega
 clear ha hb h h1 h2 h3 h4
 generalize la.length = n at *
 generalize lb.length = m at *
 go_enter Tryz.func25, Tryz.ntmps25
 go_wp2
 go_ret
 exact ⟨rfl, rfl⟩
set_option maxRecDepth 10000 in
theorem same_empty {w : World} {a b : Value} (ha : Byts w a []) (hb : Byts w b []) :
  Calls Tryz.prog 25 #[a, b] w fun e w' => w = w' ∧ e = .returned (.bool true) := by
 obtain ⟨aa, ca, rfl, h1, h2, _⟩ := byts_val ha
 obtain ⟨ab, cb, rfl, h3, h4, _⟩ := byts_val hb
 clear ha hb h1 h2 h3 h4
 simp only [List.length_nil]
 go_enter Tryz.func25, Tryz.ntmps25
 go_wp2
 refine wp_loop_rounds 1 ?_
 rw [rounds_succ]
 go_wp2
 go_ret
 exact ⟨rfl, rfl⟩
set_option maxRecDepth 10000 in
theorem same_some {w : World} {a b : Value} {la lb : List UInt8} (ha : Byts w a la) (hb : Byts w b lb) (h : la.length = lb.length) (h0 : la ≠ []) :
  Calls Tryz.prog 25 #[a, b] w fun e w' => (∃ q, w.drewN q = w') ∧ e = .returned (.bool (decide (la = lb))) := by
 obtain ⟨b1, o1, c1, rfl, h1, h2, hc1⟩ := byts_addr ha h0
 obtain ⟨b2, o2, c2, rfl, h3, h4, hc2⟩ := byts_addr hb (by intro e; subst e; simp at h; exact h0 h)
 unfold maxLen at h2 h4
 obtain ⟨n, hn⟩ : ∃ n, n = la.length := ⟨_, rfl⟩
 rw [← h, ← hn]
 have hn2 : (n : Int) ≤ 9223372036854775807 := by omega
 have HN := Lib.hid hn
 have HL := Lib.hid h
 have HC1 := Lib.hid hc1
 have HC2 := Lib.hid hc2
 clear ha hb hn h hc1 hc2 h1 h2 h3 h4 h0
 go_enter Tryz.func25, Tryz.ntmps25
 go_wp2
 go_loopw [5] (fun i wr => ∃ k q : Nat, k ≤ n ∧ i = .int .i64 k ∧ w.drewN q = wr ∧ Hid (la.take k = lb.take k)) (fun i _ => n - (intOf i).toNat)
 case atStart => exact ⟨0, 0, Nat.zero_le _, rfl, rfl, rfl⟩
 case round =>
  obtain ⟨k, q, hk, rfl, rfl, HT⟩ := hrel
  by_cases hlt : (k : Int) < n
  ·have hka : k < la.length := by have := HN.out; omega
   have hkb : k < lb.length := by have := HL.out; omega
   have e1 : la[k]? = some la[k] := List.getElem?_eq_getElem hka
   have e2 : lb[k]? = some lb[k] := List.getElem?_eq_getElem hkb
   have g1 : w.cell? ⟨b1, o1 + k, none⟩ = some (bv la[k]) := HC1.out k _ e1
   have g2 : w.cell? ⟨b2, o2 + k, none⟩ = some (bv lb[k]) := HC2.out k _ e2
   have HE1 := Lib.hid e1
   have HE2 := Lib.hid e2
   generalize la[k] = x at *
   generalize lb[k] = y at *
   unfold bv at g1 g2
   clear e1 e2 hka hkb
   by_cases hxy : x = y
   ·subst hxy
    go_wp2
    go_quiet (fail)
    go_wp2
    go_roundw
    case rel => exact ⟨k + 1, _, by omega, by go_num, rfl, by show _ = _; rw [take_snoc _ _ _ HE1.out, take_snoc _ _ _ HE2.out, HT.out]⟩
    case measure => simp [intOf]; omega
   ·have hb : ((x.toNat : Int) != y.toNat) = true := by
     simp only [bne_iff_ne, ne_eq, Int.natCast_inj, UInt8.toNat_inj]; exact hxy
    have HX := Lib.hid hxy
    clear hxy
    go_wp2
    go_quiet (fail)
    go_wp2
    go_ret
    refine ⟨⟨_, (World.drewN_drewN ..).symm⟩, ret_bool ?_⟩
    simp only [Bool.false_eq, decide_eq_false_iff_not]
    rintro rfl
    have := HE1.out.symm.trans HE2.out
    simp at this
    exact HX.out this
  ·go_wp2
   go_ret
   have e : la = lb := by
    have h1 := HT.out
    rwa [List.take_of_length_le (by have := HN.out; omega), List.take_of_length_le (by have := HN.out; have := HL.out; omega)] at h1
   refine ⟨⟨_, rfl⟩, ret_bool ?_⟩
   simp [e]
theorem same_any {w : World} {a b : Value} {la lb : List UInt8} (ha : Byts w a la) (hb : Byts w b lb) :
  Calls Tryz.prog 25 #[a, b] w fun e w' => (∃ q, w.drewN q = w') ∧ e = .returned (.bool (decide (la = lb))) := by
 by_cases h : la.length = lb.length
 ·by_cases h0 : la = []
  ·subst h0
   obtain rfl : lb = [] := List.eq_nil_of_length_eq_zero (by simpa using h.symm)
   exact (same_empty ha hb).mono fun e w' ⟨h1, h2⟩ => ⟨⟨0, h1⟩, by simpa using h2⟩
  ·exact same_some ha hb h h0
 ·have : la ≠ lb := by rintro rfl; exact h rfl
  exact (same_lens ha hb h).mono fun e w' ⟨h1, h2⟩ => ⟨⟨0, h1⟩, by simpa [this] using h2⟩
set_option maxRecDepth 10000 in
theorem clone_any {w : World} {v : Value} {l : List UInt8} (h : Byts w v l) (hr : (l.length : Int) ≤ 140737488355328) :
  Calls Tryz.prog 145 #[v] w fun e w' => ∃ v', e = .returned v' ∧ OwnB w' w.heap.size v' l ∧ Mod (fun _ => False) w w' := by
 obtain ⟨a, cap, rfl, h1, h2, h3⟩ := byts_val h
 have hnil := fun (w : World) (a : Option Addr) (n c : Nat) => Lib.run_eql_slice_nil (P := Tryz.prog) w 42 5 a n c 0 0 Tryz.underlying42
 cases a with
 | none =>
  obtain rfl := h3 rfl
  obtain rfl : l = [] := List.eq_nil_of_length_eq_zero (by omega)
  clear h h1 h2 h3
  go_enter Tryz.func145, Tryz.ntmps145
  go_wp2
  go_ret
  exact ⟨_, rfl, OwnB.nil _ _, Mod.refl _ _⟩
 | some ad =>
  have H : Hid (Sl w 1 (.slice (some ad) l.length cap) l.length (l.map bv)) := h
  have HR := Lib.hid hr
  clear h h1 h2 hr h3
  obtain ⟨i0, hi, hz0, hz1, hz2⟩ := info_parts Tryz.info5
  generalize l.length = n at *
  go_enter Tryz.func145, Tryz.ntmps145
  go_wp2_with (at_builtin; go_must (refine wpList_append_sl rfl _ _ 42 rfl w.heap.size 5 i0 (.int .u8 0) 1 1 Tryz.underlying42 hi hz0 hz1 hz2 rfl (by decide) _ 0 [] rfl (World.ownsRow_made w #[] 0 (Nat.le_refl _) (by decide) rfl) _ n (l.map bv) rfl (H.out.kept ((Mod.refl (fun _ => False) w).alloc _) (fun _ _ h => h)) (bv_one l) (by have := HR.out; omega) (by decide) (by simp) ?_); intro v' w1 hown hgrow)
  go_ret
  have hl := H.out.1
  simp only [Nat.zero_add, List.nil_append] at hown
  refine ⟨v', rfl, ?_, ((Mod.refl _ w).alloc _).grown hgrow (fun k hk hlt => Nat.lt_irrefl _ ((Option.some.inj hk).symm ▸ hlt))⟩
  unfold OwnB
  have e : l.length = n := by simpa using hl
  rw [e]
  exact hown
end Go.Proofs.YtolgeghdkoodnaaGreatDoor
set_option maxRecDepth 100000
namespace Go.Proofs.YtolgeghdkoodnaaGreatDoor
open Go.RowKit
theorem step_append_sl {P : Program} {w : World} {ops : Array Oper} {o : Oper} {a : Act} {K : Act → World → Prop} {Q : Exit → Act → World → Prop} {E : Prop} (hgd : o.guard = none) (s x : Operand) (t : TypeId)
  (ho : o.op = .call { callee := .builtin .append, args := #[s, x], argTypes := #[t, t] })
  (base : Nat) (e : TypeId) (i : TypeInfo) (z : Value) (size bytes : Nat) (ht : P.underlying t = some (.slice e)) (hi : P.info? e = some i) (hz : i.zero = some z)
  (hsize : i.size = size) (hby : i.bytes = bytes) (hzs : z.cells.size = size) (hsz : 0 < size)
  (v : Value) (n : Nat) (xs : List Value) (hs : a.eval s = v) (hown : w.ownsRow base e size v n xs)
  (sv : Value) (m : Nat) (news : List Value) (hx : a.eval x = sv) (hsl : Sl w size sv m news) (h1 : ∀ u ∈ news, u.oneCell' = true)
  (hbytes : (n + m) * bytes ≤ 140737488355328) (hb0 : 0 < bytes) (hbase : base ≤ w.heap.size)
  (h : ∀ v' w', w'.ownsRow base e size v' (n + m) (xs ++ news) → w.grownBy w' v.ownBlock → K (a.put o.dst v') w') :
  if Region.wanted o (yielded ops a.tmps) = true then Oper.wp P o a w K Q else E := by
 have hw : Region.wanted o (yielded ops a.tmps) = true := by simp [Region.wanted, hgd]
 rw [if_pos hw]
 have h63 : n + m ≤ maxLen := by
  have := Nat.le_trans (Nat.le_mul_of_pos_right (n + m) hb0) hbytes
  unfold maxLen; omega
 obtain ⟨hl, ao, c, rfl, hc1, hc2, hc3, hc4⟩ := hsl
 cases ao with
 | none =>
  obtain rfl := hc3 rfl
  obtain rfl : m = 0 := by omega
  obtain rfl : news = [] := List.eq_nil_of_length_eq_zero (by simpa using hl)
  have hrun := run_append_owned_none (P := P) (w := w) base t o.type e i size ht hi v n xs hown
  unfold Oper.wp
  simp [execOp, ho, resolve, invoke, builtin, hs, hx, hrun, Result.andThen]
  exact h v w (by simpa using hown) (World.grownBy.refl _ _)
 | some ad =>
  refine wp_append_own w s x t ho base e i z size bytes ht hi hz hsize hby hzs hsz v n xs hs hown ad m c news hx hl ?_ h1 h63 hbytes hbase (fun v' w' h2 h3 _ => h v' w' h2 h3)
  intro j u hu
  obtain ⟨b, off, he, hcell⟩ := hc4 j u hu
  simp at he; subst he
  rw [Addr.add_lit]; exact hcell
theorem own_mono {w : World} {B B' : Nat} {e : TypeId} {size n : Nat} {v : Value} {xs : List Value} (h : w.ownsRow B e size v n xs) (hB : B' ≤ B) : w.ownsRow B' e size v n xs := by
 obtain ⟨h1, h2⟩ := h
 refine ⟨h1, ?_⟩
 rcases h2 with h2 | ⟨g, cap, cur, hv, hg, r⟩
 ·exact .inl h2
 ·exact .inr ⟨g, cap, cur, hv, by omega, r⟩
end Go.Proofs.YtolgeghdkoodnaaGreatDoor
set_option maxRecDepth 100000
namespace Go.Proofs.YtolgeghdkoodnaaGreatDoor
open Go.RowKit
theorem OwnB.kept {S : Nat → Prop} {w w' : World} {B : Nat} {v : Value} {l : List UInt8} (h : OwnB w B v l) (hM : Mod S w w') (hS : ∀ g, v.ownBlock = some g → ¬ S g) : OwnB w' B v l := hM.own h hS
theorem OwnB.keptF {w w' : World} {B : Nat} {v : Value} {l : List UInt8} (h : OwnB w B v l) (hM : Mod (fun _ => False) w w') : OwnB w' B v l := hM.own h (fun _ _ h => h)
theorem OwnB.drew {w : World} {B : Nat} {v : Value} {l : List UInt8} (h : OwnB w B v l) : OwnB w.drew B v l := h.keptF (Mod.refl _ _).drew
theorem OwnB.alloc {w : World} {B : Nat} {v : Value} {l : List UInt8} (h : OwnB w B v l) (o : Obj) : OwnB (w.alloc o) B v l := h.keptF ((Mod.refl _ _).alloc o)
theorem OwnB.mono {w : World} {B B' : Nat} {v : Value} {l : List UInt8} (h : OwnB w B v l) (hB : B' ≤ B) : OwnB w B' v l := own_mono h hB
theorem own_lit (w : World) (l : List UInt8) (cs : Array Value) (n B : Nat) (hc : cs = (l.map bv).toArray) (hn : l.length = n) (hm : n ≤ maxLen) (hB : B ≤ w.heap.size) :
  OwnB (w.alloc (.cells cs 5)) B (.slice (some ⟨w.heap.size, 0, none⟩) n n) l := by
 subst hc; subst hn
 exact own_of_blk (Blk.new _ _ _) hB (by simp) hm
theorem byts_kept {w w' : World} {v : Value} {l : List UInt8} (h : Byts w v l) (hM : Mod (fun _ => False) w w') : Byts w' v l := h.kept hM (fun _ _ h => h)
theorem byts_lit (w : World) (l : List UInt8) (cs : Array Value) (n : Nat) (hc : cs = (l.map bv).toArray) (hn : l.length = n) (hm : n ≤ maxLen) :
  Byts (w.alloc (.cells cs 5)) (.slice (some ⟨w.heap.size, 0, none⟩) n n) l := (own_lit w l cs n 0 hc hn hm (Nat.zero_le _)).byts
theorem grown_mod {w0 w w' : World} {B : Nat} {v : Value} {l : List UInt8} (hM : Mod (fun _ => False) w0 w) (hg : w.grownBy w' v.ownBlock) (ho : OwnB w B v l) (hB : w0.heap.size ≤ B) : Mod (fun _ => False) w0 w' :=
 hM.grown hg (fun k hk hlt => by have := (World.ownsRow.lt ho k hk).1; omega)
structure App (w w' : World) (B n : Nat) (v v' : Value) (l : List UInt8) : Prop where
 own : OwnB w' B v' l
 byts : Byts w' v' l
 val : ∃ a c, v' = .slice a n c
 mod : ∀ {w0 : World} {S : Nat → Prop}, Mod S w0 w → (∀ g, v.ownBlock = some g → g < w0.heap.size → S g) → Mod S w0 w'
 lt : ∀ g, v.ownBlock = some g → B ≤ g
theorem step_append_b {w : World} {ops : Array Oper} {o : Oper} {a : Act} {K : Act → World → Prop} {Q : Exit → Act → World → Prop} {E : Prop} (hgd : o.guard = none) (s x : Operand)
  (ho : o.op = .call { callee := .builtin .append, args := #[s, x], argTypes := #[42, 42] })
  (v : Value) (l : List UInt8) (B n : Nat) (hs : a.eval s = v) (hown : OwnB w B v l)
  (sv : Value) (news : List UInt8) (hx : a.eval x = sv) (hsl : Byts w sv news) (L : List UInt8) (hL : L = l ++ news) (hn : l.length + news.length = n) (hbytes : (n : Int) ≤ 140737488355328) (hbase : B ≤ w.heap.size)
  (h : ∀ ap cp w', App w w' B n v (.slice ap n cp) L → K (a.put o.dst (.slice ap n cp)) w') :
  if Region.wanted o (yielded ops a.tmps) = true then Oper.wp Tryz.prog o a w K Q else E := by
 subst hL
 obtain ⟨i0, hi, hz0, hz1, hz2⟩ := info_parts Tryz.info5
 refine step_append_sl hgd s x 42 ho B 5 i0 (.int .u8 0) 1 1 Tryz.underlying42 hi hz0 hz1 hz2 rfl (by decide) v l.length (l.map bv) hs hown sv news.length (news.map bv) hx hsl (bv_one _) (by omega) (by decide) hbase ?_
 intro v' w' ho' hg
 have ho2 : OwnB w' B v' (l ++ news) := by unfold OwnB; simpa using ho'
 obtain ⟨ap, cp, rfl, _⟩ := byts_val ho2.byts
 have e : (l ++ news).length = n := by simpa using hn
 rw [e] at ho2 ⊢
 exact h ap cp w' ⟨ho2, ho2.byts, ⟨_, _, rfl⟩, fun hM hS => hM.grown hg (fun k hk hlt => hS k hk hlt), fun g hg' => (World.ownsRow.lt hown g hg').1⟩
theorem wpList_append_b {w : World} {ops : Array Oper} {rest : List Oper} {o : Oper} {a : Act} {Q : Exit → Act → World → Prop} (hgd : o.guard = none) (s x : Operand)
  (ho : o.op = .call { callee := .builtin .append, args := #[s, x], argTypes := #[42, 42] })
  (v : Value) (l : List UInt8) (B n : Nat) (hs : a.eval s = v) (hown : OwnB w B v l)
  (sv : Value) (news : List UInt8) (hx : a.eval x = sv) (hsl : Byts w sv news) (L : List UInt8) (hL : L = l ++ news) (hn : l.length + news.length = n) (hbytes : (n : Int) ≤ 140737488355328) (hbase : B ≤ w.heap.size)
  (h : ∀ ap cp w', App w w' B n v (.slice ap n cp) L → wpList Tryz.prog ops Q rest (a.put o.dst (.slice ap n cp)) w') : wpList Tryz.prog ops Q (o :: rest) a w := by
 subst hL
 obtain ⟨i0, hi, hz0, hz1, hz2⟩ := info_parts Tryz.info5
 refine wpList_append_sl hgd s x 42 ho B 5 i0 (.int .u8 0) 1 1 Tryz.underlying42 hi hz0 hz1 hz2 rfl (by decide) v l.length (l.map bv) hs hown sv news.length (news.map bv) hx hsl (bv_one _) (by omega) (by decide) hbase ?_
 intro v' w' ho' hg
 have ho2 : OwnB w' B v' (l ++ news) := by unfold OwnB; simpa using ho'
 obtain ⟨ap, cp, rfl, _⟩ := byts_val ho2.byts
 have e : (l ++ news).length = n := by simpa using hn
 rw [e] at ho2 ⊢
 exact h ap cp w' ⟨ho2, ho2.byts, ⟨_, _, rfl⟩, fun hM hS => hM.grown hg (fun k hk hlt => hS k hk hlt), fun g hg' => (World.ownsRow.lt hown g hg').1⟩
theorem App.modF {w w' w0 : World} {B n : Nat} {v v' : Value} {l : List UInt8} (h : App w w' B n v v' l) (hM : Mod (fun _ => False) w0 w) (hB : w0.heap.size ≤ B) : Mod (fun _ => False) w0 w' :=
 h.mod hM (fun g hg hlt => by have := h.lt g hg; omega)
end Go.Proofs.YtolgeghdkoodnaaGreatDoor
set_option maxRecDepth 100000
namespace Go.Proofs.YtolgeghdkoodnaaGreatDoor
open Go.RowKit
def frL (f : Fr) (vd vr : Value) : List Value := [.int .i64 f.k, .int .u64 (f.id : Int), .int .u64 (f.a : Int), .int .u64 (f.b : Int), .int .u64 (f.c : Int), .bool f.fl, vd, vr] ++ f.t.map bv
def frC (f : Fr) (vd vr : Value) : Array Value := (frL f vd vr).toArray
def frV (f : Fr) (vd vr : Value) : Value := .agg (frC f vd vr)
def rgC (x : Nat × Nat) : List Value := [.int .u64 (x.1 : Int), .int .u64 (x.2 : Int)]
def RgV (w : World) (v : Value) (l : List (Nat × Nat)) : Prop := Sl w 2 v l.length (l.flatMap rgC)
theorem rgC_one (l : List (Nat × Nat)) : ∀ u ∈ l.flatMap rgC, u.oneCell' = true := by
 intro u hu
 obtain ⟨s, _, h⟩ := List.mem_flatMap.1 hu
 simp only [rgC, List.mem_cons, List.not_mem_nil, or_false] at h
 rcases h with rfl | rfl <;> rfl
theorem rgC_at : ∀ (l : List (Nat × Nat)) (i : Nat) (s : Nat × Nat), l[i]? = some s → (l.flatMap rgC)[i * 2]? = some (.int .u64 (s.1 : Int)) ∧ (l.flatMap rgC)[i * 2 + 1]? = some (.int .u64 (s.2 : Int))
 | [], i, s, h => by simp at h
 | x :: l, 0, s, h => by simp at h; subst h; exact ⟨rfl, rfl⟩
 | x :: l, i + 1, s, h => by
  have := rgC_at l i s (by simpa using h)
  rw [List.flatMap_cons, show (i + 1) * 2 = i * 2 + 2 by omega]
  exact this
theorem rg_val {w : World} {v : Value} {l : List (Nat × Nat)} (h : RgV w v l) : ∃ a cap, v = .slice a l.length cap ∧ l.length ≤ cap ∧ cap ≤ maxLen ∧ (a = none → cap = 0) := Sl.val h
theorem rg_addr {w : World} {v : Value} {l : List (Nat × Nat)} (h : RgV w v l) (hx : l ≠ []) :
  ∃ b off cap, v = .slice (some ⟨b, off, none⟩) l.length cap ∧ l.length ≤ cap ∧ cap ≤ maxLen ∧ ∀ i s, l[i]? = some s → w.cell? ⟨b, off + i * 2, none⟩ = some (.int .u64 (s.1 : Int)) ∧ w.cell? ⟨b, off + i * 2 + 1, none⟩ = some (.int .u64 (s.2 : Int)) := by
 obtain ⟨b, off, cap, h1, h2, h3, h4⟩ := Sl.addr h (by
  cases l with
  | nil => exact absurd rfl hx
  | cons x l => simp [rgC])
 refine ⟨b, off, cap, h1, h2, h3, fun i s hs => ?_⟩
 obtain ⟨e1, e2⟩ := rgC_at l i s hs
 exact ⟨h4 _ _ e1, by rw [Nat.add_assoc]; exact h4 _ _ e2⟩
theorem RgV.kept {w w' : World} {v : Value} {l : List (Nat × Nat)} (h : RgV w v l) (hM : Mod (fun _ => False) w w') : RgV w' v l := Sl.kept h hM (fun _ _ h => h)
theorem RgV.nil (w : World) : RgV w (.slice none 0 0) [] := Sl.nil _ _
structure FrV (w : World) (f : Fr) (vd vr : Value) : Prop where
 d : Byts w vd f.d
 r : RgV w vr f.rs
 t : f.t.length = 16
 dl : (f.d.length : Int) ≤ 140737488355328
 rl : (f.rs.length : Int) ≤ 140737488355328
theorem FrV.kept {w w' : World} {f : Fr} {vd vr : Value} (h : FrV w f vd vr) (hM : Mod (fun _ => False) w w') : FrV w' f vd vr := ⟨byts_kept h.d hM, h.r.kept hM, h.t, h.dl, h.rl⟩
theorem frC_size (f : Fr) (vd vr : Value) (h : f.t.length = 16) : (frC f vd vr).size = 24 := by simp [frC, frL, h]
theorem frC_one {w : World} {f : Fr} {vd vr : Value} (h : FrV w f vd vr) : ∀ v ∈ (frC f vd vr).toList, v.oneCell' = true := by
 obtain ⟨da, dc, rfl, _⟩ := byts_val h.d
 obtain ⟨ra, rc, rfl, _⟩ := rg_val h.r
 intro v hv
 simp only [frC, frL, List.mem_append, List.mem_cons, List.not_mem_nil, or_false] at hv
 rcases hv with (rfl | rfl | rfl | rfl | rfl | rfl | rfl | rfl) | hv <;> try rfl
 exact bv_one _ _ hv
theorem frC_tok (f : Fr) (vd vr : Value) (j : Nat) (x : UInt8) (h : f.t[j]? = some x) : (frC f vd vr)[8 + j]? = some (bv x) := by
 simp only [frC, frL, List.getElem?_toArray]
 rw [List.getElem?_append_right (by simp)]
 simp [h]
theorem sizeFr (f : Fr) (vd vr : Value) (h : f.t.length = 16) : (Tryz.prog.info? 52).map (·.size) = some (frC f vd vr).size := by rw [frC_size f vd vr h]; kernel_rfl
theorem sizeTk : (Tryz.prog.info? 27).map (·.size) = some 16 := by kernel_rfl
theorem sizeRg (a b : Value) : (Tryz.prog.info? 97).map (·.size) = some (#[a, b] : Array Value).size := by show _ = some 2; kernel_rfl
structure FrB (w : World) (b : Nat) (f : Fr) (vd vr : Value) : Prop where
 blk : Blk w b (frC f vd vr) 52
 len : f.t.length = 16
theorem FrB.new (w : World) (f : Fr) (vd vr : Value) (h : f.t.length = 16) : FrB (w.alloc (.cells (frC f vd vr) 52)) w.heap.size f vd vr := ⟨Blk.new _ _ _, h⟩
theorem FrB.kept {w w' : World} {b : Nat} {f : Fr} {vd vr : Value} (h : FrB w b f vd vr) (hM : Mod (fun _ => False) w w') : FrB w' b f vd vr := ⟨hM.blk h.blk (fun h => h), h.len⟩
theorem FrB.cells {w : World} {b : Nat} {f : Fr} {vd vr : Value} (h : FrB w b f vd vr) : w.cell? ⟨b, 0, none⟩ = some (.int .i64 f.k) ∧ w.cell? ⟨b, 1, none⟩ = some (.int .u64 (f.id : Int)) ∧ w.cell? ⟨b, 2, none⟩ = some (.int .u64 (f.a : Int)) ∧ w.cell? ⟨b, 3, none⟩ = some (.int .u64 (f.b : Int)) ∧ w.cell? ⟨b, 4, none⟩ = some (.int .u64 (f.c : Int)) ∧ w.cell? ⟨b, 5, none⟩ = some (.bool f.fl) ∧ w.cell? ⟨b, 6, none⟩ = some vd ∧ w.cell? ⟨b, 7, none⟩ = some vr :=
 ⟨h.blk.cellAt 0 rfl, h.blk.cellAt 1 rfl, h.blk.cellAt 2 rfl, h.blk.cellAt 3 rfl, h.blk.cellAt 4 rfl, h.blk.cellAt 5 rfl, h.blk.cellAt 6 rfl, h.blk.cellAt 7 rfl⟩
theorem FrB.tok {w : World} {b : Nat} {f : Fr} {vd vr : Value} (h : FrB w b f vd vr) : w.rangeAt b 8 (f.t.map bv) := h.blk.range 8 _ (fun j v hv => by
 rw [List.getElem?_map] at hv
 obtain ⟨x, hx, rfl⟩ := Option.map_eq_some_iff.1 hv
 exact frC_tok f vd vr j x hx)
theorem FrB.loadTok {w : World} {b : Nat} {f : Fr} {vd vr : Value} (h : FrB w b f vd vr) : (Instr.loadAt 27 (.pointer (some ⟨b, 8, none⟩))).run Tryz.prog w = .ok (.agg (f.t.map bv).toArray) w :=
 run_loadAt_mid w b 8 27 (f.t.map bv) _ h.tok Tryz.underlying27 rfl (by rw [sizeTk, List.length_map, h.len])
theorem FrB.byts {w : World} {b : Nat} {f : Fr} {vd vr : Value} (h : FrB w b f vd vr) : Byts w (.slice (some ⟨b, 8, none⟩) 16 16) f.t :=
 ⟨by simp, some ⟨b, 8, none⟩, 16, by rw [h.len], by rw [h.len]; omega, by decide, fun e => by simp at e, fun j u hu => ⟨b, 8, rfl, h.tok j u hu⟩⟩
theorem wpList_load_v {P : Program} {ops : Array Oper} {rest : List Oper} {op : Oper} {a : Act} {w : World} {Q : Exit → Act → World → Prop} (ty : TypeId) (x : Operand) (ho : op.op = .load ty x) (hw : Region.wanted op (yielded ops a.tmps) = true)
  (p v : Value) (hx : a.eval x = p) (hl : (Instr.loadAt ty p).run P w = .ok v w) (k : wpList P ops Q rest (a.put op.dst v) w) : wpList P ops Q (op :: rest) a w := by
 refine BigFrame.wpList_want hw fun K hK => ?_
 unfold Oper.wp execOp
 simp only [ho, hx, Sem.run_bind, hl, Result.andThen_ok, Sem.run_pure]
 exact hK _ _ k
theorem wpList_build_c {P : Program} {ops : Array Oper} {rest : List Oper} {op : Oper} {a : Act} {w : World} {Q : Exit → Act → World → Prop} (hgd : op.guard = none) (t : TypeId) (pl : List (Nat × Operand)) (ho : op.op = .build t pl.toArray)
  (vals : List (Nat × Value)) (hv : pl.map (fun x => (x.1, a.eval x.2)) = vals) (cells : Array Value) (hb : P.built t vals = some cells) (k : wpList P ops Q rest (a.put op.dst (.agg cells)) w) : wpList P ops Q (op :: rest) a w := by
 subst hv
 refine wpList_plain hgd fun K hK => ?_
 have e : (pl.toArray.map fun (i, x) => (i, a.eval x)).toList = pl.map (fun x => (x.1, a.eval x.2)) := by simp
 refine wp_build t pl.toArray ho (by rw [e, hb]; rfl) ?_
 rw [e, hb]
 exact hK _ _ k
theorem list16 {α : Type} (t : List α) (h : t.length = 16) : ∃ a b c d e f g h' i j k l m n o p, t = [a, b, c, d, e, f, g, h', i, j, k, l, m, n, o, p] := by
 match t, h with
 | [a, b, c, d, e, f, g, h', i, j, k, l, m, n, o, p], _ => exact ⟨a, b, c, d, e, f, g, h', i, j, k, l, m, n, o, p, rfl⟩
end Go.Proofs.YtolgeghdkoodnaaGreatDoor
set_option maxRecDepth 100000
namespace Go.Proofs.YtolgeghdkoodnaaGreatDoor
open Go.RowKit
theorem new2 (w : World) (o : Obj) (cs : Array Value) (t : TypeId) : Blk ((w.alloc o).alloc (.cells cs t)) (w.heap.size + 1) cs t := by
 have h := Blk.new (w.alloc o) cs t
 rw [show (w.alloc o).heap.size = w.heap.size + 1 by simp] at h
 exact h
abbrev frZ : Array Value := #[.int .i64 0, .int .u64 0, .int .u64 0, .int .u64 0, .int .u64 0, .bool false, .slice none 0 0, .slice none 0 0, .int .u8 0, .int .u8 0, .int .u8 0, .int .u8 0, .int .u8 0, .int .u8 0, .int .u8 0, .int .u8 0, .int .u8 0, .int .u8 0, .int .u8 0, .int .u8 0, .int .u8 0, .int .u8 0, .int .u8 0, .int .u8 0]
set_option maxRecDepth 10000 in
theorem has5 {w : World} {f : Fr} {vd vr : Value} (hv : FrV w f vd vr) : Calls Tryz.prog 96 #[frV f vd vr] w fun e w' => e = .returned (frV ⟨0, 0, f.a, 0, 0, false, [], [], zeros16⟩ (.slice none 0 0) (.slice none 0 0)) ∧ Mod (fun _ => False) w w' := by
 have HB := FrB.new w f vd vr hv.t
 have e0 : (frC f vd vr)[0]? = some (.int .i64 f.k) := rfl
 have e1 : (frC f vd vr)[1]? = some (.int .u64 (f.id : Int)) := rfl
 have e2 : (frC f vd vr)[2]? = some (.int .u64 (f.a : Int)) := rfl
 have e3 : (frC f vd vr)[3]? = some (.int .u64 (f.b : Int)) := rfl
 have e4 : (frC f vd vr)[4]? = some (.int .u64 (f.c : Int)) := rfl
 have e5 : (frC f vd vr)[5]? = some (.bool f.fl) := rfl
 have e6 : (frC f vd vr)[6]? = some vd := rfl
 have e7 : (frC f vd vr)[7]? = some vr := rfl
 have HG : Hid (FrV w ⟨0, 0, f.a, 0, 0, false, [], [], zeros16⟩ (.slice none 0 0) (.slice none 0 0)) := ⟨Sl.nil _ _, Sl.nil _ _, rfl, by first | exact hv.dl | simp, by first | exact hv.rl | simp⟩
 obtain ⟨da, dc, hvd, _⟩ := byts_val hv.d
 obtain ⟨ra, rc, hvr, _⟩ := rg_val hv.r
 have hbu : Tryz.prog.built 52 [(2, .int .u64 (f.a : Int))] = some (frC ⟨0, 0, f.a, 0, 0, false, [], [], zeros16⟩ (.slice none 0 0) (.slice none 0 0)) := by
  kernel_rfl
 have HBU := Lib.hid hbu
 have HONE := Lib.hid (frC_one HG.out)
 have HSZ := Lib.hid (sizeFr ⟨0, 0, f.a, 0, 0, false, [], [], zeros16⟩ (.slice none 0 0) (.slice none 0 0) HG.out.t)
 have HSS : Hid (frZ.size = (frC ⟨0, 0, f.a, 0, 0, false, [], [], zeros16⟩ (.slice none 0 0) (.slice none 0 0)).size) := (frC_size ⟨0, 0, f.a, 0, 0, false, [], [], zeros16⟩ (.slice none 0 0) (.slice none 0 0) HG.out.t).symm
 unfold frV
 clear HB hbu HG hv hvd hvr
 generalize frC ⟨0, 0, f.a, 0, 0, false, [], [], zeros16⟩ (.slice none 0 0) (.slice none 0 0) = G at *
 generalize frC f vd vr = C at *
 go_enter Tryz.func96, Tryz.ntmps96
 go_wp2_with (first
  | ((with_reducible refine wpList_build_c ?_ 52 [(2, .tmp 4)] ?_ [(2, .int .u64 (f.a : Int))] ?_ G HBU.out ?_); (iterate 3 exact rfl))
  | ((with_reducible refine wpList_store_blk ?_ 52 (.tmp 2) (.tmp 5) ?_ (w.heap.size + 1) ?_ frZ G ?_ 52 (new2 _ _ _ _) HSZ.out HSS.out HONE.out ?_); (iterate 4 exact rfl); intro w1 hB hM)
  | fail)
 have hl := blk_loadVar (P := Tryz.prog) hB Tryz.underlying52 rfl HSZ.out
 refine bodyPost_ret (v := .agg G) ?_ rfl ⟨rfl, (((Mod.refl (fun _ => False) w).alloc _).alloc _).trans' hM (fun i hi e => by omega)⟩
 exact results_cell Tryz.results96 _ rfl hl
set_option maxRecDepth 10000 in
theorem has6 {w : World} {f : Fr} {vd vr : Value} (hv : FrV w f vd vr) : Calls Tryz.prog 97 #[frV f vd vr] w fun e w' => e = .returned (frV ⟨0, f.id, f.a, 0, 0, false, [], [], zeros16⟩ (.slice none 0 0) (.slice none 0 0)) ∧ Mod (fun _ => False) w w' := by
 have HB := FrB.new w f vd vr hv.t
 have e0 : (frC f vd vr)[0]? = some (.int .i64 f.k) := rfl
 have e1 : (frC f vd vr)[1]? = some (.int .u64 (f.id : Int)) := rfl
 have e2 : (frC f vd vr)[2]? = some (.int .u64 (f.a : Int)) := rfl
 have e3 : (frC f vd vr)[3]? = some (.int .u64 (f.b : Int)) := rfl
 have e4 : (frC f vd vr)[4]? = some (.int .u64 (f.c : Int)) := rfl
 have e5 : (frC f vd vr)[5]? = some (.bool f.fl) := rfl
 have e6 : (frC f vd vr)[6]? = some vd := rfl
 have e7 : (frC f vd vr)[7]? = some vr := rfl
 have HG : Hid (FrV w ⟨0, f.id, f.a, 0, 0, false, [], [], zeros16⟩ (.slice none 0 0) (.slice none 0 0)) := ⟨Sl.nil _ _, Sl.nil _ _, rfl, by first | exact hv.dl | simp, by first | exact hv.rl | simp⟩
 obtain ⟨da, dc, hvd, _⟩ := byts_val hv.d
 obtain ⟨ra, rc, hvr, _⟩ := rg_val hv.r
 have hbu : Tryz.prog.built 52 [(1, .int .u64 (f.id : Int)), (2, .int .u64 (f.a : Int))] = some (frC ⟨0, f.id, f.a, 0, 0, false, [], [], zeros16⟩ (.slice none 0 0) (.slice none 0 0)) := by
  kernel_rfl
 have HBU := Lib.hid hbu
 have HONE := Lib.hid (frC_one HG.out)
 have HSZ := Lib.hid (sizeFr ⟨0, f.id, f.a, 0, 0, false, [], [], zeros16⟩ (.slice none 0 0) (.slice none 0 0) HG.out.t)
 have HSS : Hid (frZ.size = (frC ⟨0, f.id, f.a, 0, 0, false, [], [], zeros16⟩ (.slice none 0 0) (.slice none 0 0)).size) := (frC_size ⟨0, f.id, f.a, 0, 0, false, [], [], zeros16⟩ (.slice none 0 0) (.slice none 0 0) HG.out.t).symm
 unfold frV
 clear HB hbu HG hv hvd hvr
 generalize frC ⟨0, f.id, f.a, 0, 0, false, [], [], zeros16⟩ (.slice none 0 0) (.slice none 0 0) = G at *
 generalize frC f vd vr = C at *
 go_enter Tryz.func97, Tryz.ntmps97
 go_wp2_with (first
  | ((with_reducible refine wpList_build_c ?_ 52 [(1, .tmp 4), (2, .tmp 6)] ?_ [(1, .int .u64 (f.id : Int)), (2, .int .u64 (f.a : Int))] ?_ G HBU.out ?_); (iterate 3 exact rfl))
  | ((with_reducible refine wpList_store_blk ?_ 52 (.tmp 2) (.tmp 7) ?_ (w.heap.size + 1) ?_ frZ G ?_ 52 (new2 _ _ _ _) HSZ.out HSS.out HONE.out ?_); (iterate 4 exact rfl); intro w1 hB hM)
  | fail)
 have hl := blk_loadVar (P := Tryz.prog) hB Tryz.underlying52 rfl HSZ.out
 refine bodyPost_ret (v := .agg G) ?_ rfl ⟨rfl, (((Mod.refl (fun _ => False) w).alloc _).alloc _).trans' hM (fun i hi e => by omega)⟩
 exact results_cell Tryz.results97 _ rfl hl
set_option maxRecDepth 10000 in
theorem has7 {w : World} {f : Fr} {vd vr : Value} (hv : FrV w f vd vr) : Calls Tryz.prog 98 #[frV f vd vr] w fun e w' => e = .returned (frV ⟨0, 0, f.a, 0, 0, f.fl, [], [], zeros16⟩ (.slice none 0 0) (.slice none 0 0)) ∧ Mod (fun _ => False) w w' := by
 have HB := FrB.new w f vd vr hv.t
 have e0 : (frC f vd vr)[0]? = some (.int .i64 f.k) := rfl
 have e1 : (frC f vd vr)[1]? = some (.int .u64 (f.id : Int)) := rfl
 have e2 : (frC f vd vr)[2]? = some (.int .u64 (f.a : Int)) := rfl
 have e3 : (frC f vd vr)[3]? = some (.int .u64 (f.b : Int)) := rfl
 have e4 : (frC f vd vr)[4]? = some (.int .u64 (f.c : Int)) := rfl
 have e5 : (frC f vd vr)[5]? = some (.bool f.fl) := rfl
 have e6 : (frC f vd vr)[6]? = some vd := rfl
 have e7 : (frC f vd vr)[7]? = some vr := rfl
 have HG : Hid (FrV w ⟨0, 0, f.a, 0, 0, f.fl, [], [], zeros16⟩ (.slice none 0 0) (.slice none 0 0)) := ⟨Sl.nil _ _, Sl.nil _ _, rfl, by first | exact hv.dl | simp, by first | exact hv.rl | simp⟩
 obtain ⟨da, dc, hvd, _⟩ := byts_val hv.d
 obtain ⟨ra, rc, hvr, _⟩ := rg_val hv.r
 have hbu : Tryz.prog.built 52 [(2, .int .u64 (f.a : Int)), (5, .bool f.fl)] = some (frC ⟨0, 0, f.a, 0, 0, f.fl, [], [], zeros16⟩ (.slice none 0 0) (.slice none 0 0)) := by
  kernel_rfl
 have HBU := Lib.hid hbu
 have HONE := Lib.hid (frC_one HG.out)
 have HSZ := Lib.hid (sizeFr ⟨0, 0, f.a, 0, 0, f.fl, [], [], zeros16⟩ (.slice none 0 0) (.slice none 0 0) HG.out.t)
 have HSS : Hid (frZ.size = (frC ⟨0, 0, f.a, 0, 0, f.fl, [], [], zeros16⟩ (.slice none 0 0) (.slice none 0 0)).size) := (frC_size ⟨0, 0, f.a, 0, 0, f.fl, [], [], zeros16⟩ (.slice none 0 0) (.slice none 0 0) HG.out.t).symm
 unfold frV
 clear HB hbu HG hv hvd hvr
 generalize frC ⟨0, 0, f.a, 0, 0, f.fl, [], [], zeros16⟩ (.slice none 0 0) (.slice none 0 0) = G at *
 generalize frC f vd vr = C at *
 go_enter Tryz.func98, Tryz.ntmps98
 go_wp2_with (first
  | ((with_reducible refine wpList_build_c ?_ 52 [(2, .tmp 4), (5, .tmp 6)] ?_ [(2, .int .u64 (f.a : Int)), (5, .bool f.fl)] ?_ G HBU.out ?_); (iterate 3 exact rfl))
  | ((with_reducible refine wpList_store_blk ?_ 52 (.tmp 2) (.tmp 7) ?_ (w.heap.size + 1) ?_ frZ G ?_ 52 (new2 _ _ _ _) HSZ.out HSS.out HONE.out ?_); (iterate 4 exact rfl); intro w1 hB hM)
  | fail)
 have hl := blk_loadVar (P := Tryz.prog) hB Tryz.underlying52 rfl HSZ.out
 refine bodyPost_ret (v := .agg G) ?_ rfl ⟨rfl, (((Mod.refl (fun _ => False) w).alloc _).alloc _).trans' hM (fun i hi e => by omega)⟩
 exact results_cell Tryz.results98 _ rfl hl
set_option maxRecDepth 10000 in
theorem has8 {w : World} {f : Fr} {vd vr : Value} (hv : FrV w f vd vr) : Calls Tryz.prog 99 #[frV f vd vr] w fun e w' => e = .returned (frV ⟨0, 0, 0, 0, 0, false, f.d, [], zeros16⟩ vd (.slice none 0 0)) ∧ Mod (fun _ => False) w w' := by
 have HB := FrB.new w f vd vr hv.t
 have e0 : (frC f vd vr)[0]? = some (.int .i64 f.k) := rfl
 have e1 : (frC f vd vr)[1]? = some (.int .u64 (f.id : Int)) := rfl
 have e2 : (frC f vd vr)[2]? = some (.int .u64 (f.a : Int)) := rfl
 have e3 : (frC f vd vr)[3]? = some (.int .u64 (f.b : Int)) := rfl
 have e4 : (frC f vd vr)[4]? = some (.int .u64 (f.c : Int)) := rfl
 have e5 : (frC f vd vr)[5]? = some (.bool f.fl) := rfl
 have e6 : (frC f vd vr)[6]? = some vd := rfl
 have e7 : (frC f vd vr)[7]? = some vr := rfl
 have HG : Hid (FrV w ⟨0, 0, 0, 0, 0, false, f.d, [], zeros16⟩ vd (.slice none 0 0)) := ⟨hv.d, Sl.nil _ _, rfl, by first | exact hv.dl | simp, by first | exact hv.rl | simp⟩
 obtain ⟨da, dc, hvd, _⟩ := byts_val hv.d
 obtain ⟨ra, rc, hvr, _⟩ := rg_val hv.r
 have hbu : Tryz.prog.built 52 [(6, vd)] = some (frC ⟨0, 0, 0, 0, 0, false, f.d, [], zeros16⟩ vd (.slice none 0 0)) := by
  rw [hvd]; kernel_rfl
 have HBU := Lib.hid hbu
 have HONE := Lib.hid (frC_one HG.out)
 have HSZ := Lib.hid (sizeFr ⟨0, 0, 0, 0, 0, false, f.d, [], zeros16⟩ vd (.slice none 0 0) HG.out.t)
 have HSS : Hid (frZ.size = (frC ⟨0, 0, 0, 0, 0, false, f.d, [], zeros16⟩ vd (.slice none 0 0)).size) := (frC_size ⟨0, 0, 0, 0, 0, false, f.d, [], zeros16⟩ vd (.slice none 0 0) HG.out.t).symm
 unfold frV
 clear HB hbu HG hv hvd hvr
 generalize frC ⟨0, 0, 0, 0, 0, false, f.d, [], zeros16⟩ vd (.slice none 0 0) = G at *
 generalize frC f vd vr = C at *
 go_enter Tryz.func99, Tryz.ntmps99
 go_wp2_with (first
  | ((with_reducible refine wpList_build_c ?_ 52 [(6, .tmp 4)] ?_ [(6, vd)] ?_ G HBU.out ?_); (iterate 3 exact rfl))
  | ((with_reducible refine wpList_store_blk ?_ 52 (.tmp 2) (.tmp 5) ?_ (w.heap.size + 1) ?_ frZ G ?_ 52 (new2 _ _ _ _) HSZ.out HSS.out HONE.out ?_); (iterate 4 exact rfl); intro w1 hB hM)
  | fail)
 have hl := blk_loadVar (P := Tryz.prog) hB Tryz.underlying52 rfl HSZ.out
 refine bodyPost_ret (v := .agg G) ?_ rfl ⟨rfl, (((Mod.refl (fun _ => False) w).alloc _).alloc _).trans' hM (fun i hi e => by omega)⟩
 exact results_cell Tryz.results99 _ rfl hl
set_option maxRecDepth 10000 in
theorem has9 {w : World} {f : Fr} {vd vr : Value} (hv : FrV w f vd vr) : Calls Tryz.prog 100 #[frV f vd vr] w fun e w' => e = .returned (frV ⟨0, 0, 0, 0, 0, false, [], [], zeros16⟩ (.slice none 0 0) (.slice none 0 0)) ∧ Mod (fun _ => False) w w' := by
 have HB := FrB.new w f vd vr hv.t
 have e0 : (frC f vd vr)[0]? = some (.int .i64 f.k) := rfl
 have e1 : (frC f vd vr)[1]? = some (.int .u64 (f.id : Int)) := rfl
 have e2 : (frC f vd vr)[2]? = some (.int .u64 (f.a : Int)) := rfl
 have e3 : (frC f vd vr)[3]? = some (.int .u64 (f.b : Int)) := rfl
 have e4 : (frC f vd vr)[4]? = some (.int .u64 (f.c : Int)) := rfl
 have e5 : (frC f vd vr)[5]? = some (.bool f.fl) := rfl
 have e6 : (frC f vd vr)[6]? = some vd := rfl
 have e7 : (frC f vd vr)[7]? = some vr := rfl
 have HG : Hid (FrV w ⟨0, 0, 0, 0, 0, false, [], [], zeros16⟩ (.slice none 0 0) (.slice none 0 0)) := ⟨Sl.nil _ _, Sl.nil _ _, rfl, by first | exact hv.dl | simp, by first | exact hv.rl | simp⟩
 obtain ⟨da, dc, hvd, _⟩ := byts_val hv.d
 obtain ⟨ra, rc, hvr, _⟩ := rg_val hv.r
 have hbu : Tryz.prog.built 52 [] = some (frC ⟨0, 0, 0, 0, 0, false, [], [], zeros16⟩ (.slice none 0 0) (.slice none 0 0)) := by
  kernel_rfl
 have HBU := Lib.hid hbu
 have HONE := Lib.hid (frC_one HG.out)
 have HSZ := Lib.hid (sizeFr ⟨0, 0, 0, 0, 0, false, [], [], zeros16⟩ (.slice none 0 0) (.slice none 0 0) HG.out.t)
 have HSS : Hid (frZ.size = (frC ⟨0, 0, 0, 0, 0, false, [], [], zeros16⟩ (.slice none 0 0) (.slice none 0 0)).size) := (frC_size ⟨0, 0, 0, 0, 0, false, [], [], zeros16⟩ (.slice none 0 0) (.slice none 0 0) HG.out.t).symm
 unfold frV
 clear HB hbu HG hv hvd hvr
 generalize frC ⟨0, 0, 0, 0, 0, false, [], [], zeros16⟩ (.slice none 0 0) (.slice none 0 0) = G at *
 generalize frC f vd vr = C at *
 go_enter Tryz.func100, Tryz.ntmps100
 go_wp2_with (first
  | ((with_reducible refine wpList_build_c ?_ 52 [] ?_ [] ?_ G HBU.out ?_); (iterate 3 exact rfl))
  | ((with_reducible refine wpList_store_blk ?_ 52 (.tmp 2) (.tmp 3) ?_ (w.heap.size + 1) ?_ frZ G ?_ 52 (new2 _ _ _ _) HSZ.out HSS.out HONE.out ?_); (iterate 4 exact rfl); intro w1 hB hM)
  | fail)
 have hl := blk_loadVar (P := Tryz.prog) hB Tryz.underlying52 rfl HSZ.out
 refine bodyPost_ret (v := .agg G) ?_ rfl ⟨rfl, (((Mod.refl (fun _ => False) w).alloc _).alloc _).trans' hM (fun i hi e => by omega)⟩
 exact results_cell Tryz.results100 _ rfl hl
set_option maxRecDepth 10000 in
theorem has18 {w : World} {f : Fr} {vd vr : Value} (hv : FrV w f vd vr) : Calls Tryz.prog 110 #[frV f vd vr] w fun e w' => e = .returned (frV ⟨0, 0, 0, f.b, 0, false, [], f.rs, zeros16⟩ (.slice none 0 0) vr) ∧ Mod (fun _ => False) w w' := by
 have HB := FrB.new w f vd vr hv.t
 have e0 : (frC f vd vr)[0]? = some (.int .i64 f.k) := rfl
 have e1 : (frC f vd vr)[1]? = some (.int .u64 (f.id : Int)) := rfl
 have e2 : (frC f vd vr)[2]? = some (.int .u64 (f.a : Int)) := rfl
 have e3 : (frC f vd vr)[3]? = some (.int .u64 (f.b : Int)) := rfl
 have e4 : (frC f vd vr)[4]? = some (.int .u64 (f.c : Int)) := rfl
 have e5 : (frC f vd vr)[5]? = some (.bool f.fl) := rfl
 have e6 : (frC f vd vr)[6]? = some vd := rfl
 have e7 : (frC f vd vr)[7]? = some vr := rfl
 have HG : Hid (FrV w ⟨0, 0, 0, f.b, 0, false, [], f.rs, zeros16⟩ (.slice none 0 0) vr) := ⟨Sl.nil _ _, hv.r, rfl, by first | exact hv.dl | simp, by first | exact hv.rl | simp⟩
 obtain ⟨da, dc, hvd, _⟩ := byts_val hv.d
 obtain ⟨ra, rc, hvr, _⟩ := rg_val hv.r
 have hbu : Tryz.prog.built 52 [(3, .int .u64 (f.b : Int)), (7, vr)] = some (frC ⟨0, 0, 0, f.b, 0, false, [], f.rs, zeros16⟩ (.slice none 0 0) vr) := by
  rw [hvr]; kernel_rfl
 have HBU := Lib.hid hbu
 have HONE := Lib.hid (frC_one HG.out)
 have HSZ := Lib.hid (sizeFr ⟨0, 0, 0, f.b, 0, false, [], f.rs, zeros16⟩ (.slice none 0 0) vr HG.out.t)
 have HSS : Hid (frZ.size = (frC ⟨0, 0, 0, f.b, 0, false, [], f.rs, zeros16⟩ (.slice none 0 0) vr).size) := (frC_size ⟨0, 0, 0, f.b, 0, false, [], f.rs, zeros16⟩ (.slice none 0 0) vr HG.out.t).symm
 unfold frV
 clear HB hbu HG hv hvd hvr
 generalize frC ⟨0, 0, 0, f.b, 0, false, [], f.rs, zeros16⟩ (.slice none 0 0) vr = G at *
 generalize frC f vd vr = C at *
 go_enter Tryz.func110, Tryz.ntmps110
 go_wp2_with (first
  | ((with_reducible refine wpList_build_c ?_ 52 [(3, .tmp 4), (7, .tmp 6)] ?_ [(3, .int .u64 (f.b : Int)), (7, vr)] ?_ G HBU.out ?_); (iterate 3 exact rfl))
  | ((with_reducible refine wpList_store_blk ?_ 52 (.tmp 2) (.tmp 7) ?_ (w.heap.size + 1) ?_ frZ G ?_ 52 (new2 _ _ _ _) HSZ.out HSS.out HONE.out ?_); (iterate 4 exact rfl); intro w1 hB hM)
  | fail)
 have hl := blk_loadVar (P := Tryz.prog) hB Tryz.underlying52 rfl HSZ.out
 refine bodyPost_ret (v := .agg G) ?_ rfl ⟨rfl, (((Mod.refl (fun _ => False) w).alloc _).alloc _).trans' hM (fun i hi e => by omega)⟩
 exact results_cell Tryz.results110 _ rfl hl
set_option maxRecDepth 10000 in
theorem has19 {w : World} {f : Fr} {vd vr : Value} (hv : FrV w f vd vr) : Calls Tryz.prog 114 #[frV f vd vr] w fun e w' => e = .returned (frV ⟨0, f.id, f.a, 0, f.c, false, [], [], zeros16⟩ (.slice none 0 0) (.slice none 0 0)) ∧ Mod (fun _ => False) w w' := by
 have HB := FrB.new w f vd vr hv.t
 have e0 : (frC f vd vr)[0]? = some (.int .i64 f.k) := rfl
 have e1 : (frC f vd vr)[1]? = some (.int .u64 (f.id : Int)) := rfl
 have e2 : (frC f vd vr)[2]? = some (.int .u64 (f.a : Int)) := rfl
 have e3 : (frC f vd vr)[3]? = some (.int .u64 (f.b : Int)) := rfl
 have e4 : (frC f vd vr)[4]? = some (.int .u64 (f.c : Int)) := rfl
 have e5 : (frC f vd vr)[5]? = some (.bool f.fl) := rfl
 have e6 : (frC f vd vr)[6]? = some vd := rfl
 have e7 : (frC f vd vr)[7]? = some vr := rfl
 have HG : Hid (FrV w ⟨0, f.id, f.a, 0, f.c, false, [], [], zeros16⟩ (.slice none 0 0) (.slice none 0 0)) := ⟨Sl.nil _ _, Sl.nil _ _, rfl, by first | exact hv.dl | simp, by first | exact hv.rl | simp⟩
 obtain ⟨da, dc, hvd, _⟩ := byts_val hv.d
 obtain ⟨ra, rc, hvr, _⟩ := rg_val hv.r
 have hbu : Tryz.prog.built 52 [(1, .int .u64 (f.id : Int)), (4, .int .u64 (f.c : Int)), (2, .int .u64 (f.a : Int))] = some (frC ⟨0, f.id, f.a, 0, f.c, false, [], [], zeros16⟩ (.slice none 0 0) (.slice none 0 0)) := by
  kernel_rfl
 have HBU := Lib.hid hbu
 have HONE := Lib.hid (frC_one HG.out)
 have HSZ := Lib.hid (sizeFr ⟨0, f.id, f.a, 0, f.c, false, [], [], zeros16⟩ (.slice none 0 0) (.slice none 0 0) HG.out.t)
 have HSS : Hid (frZ.size = (frC ⟨0, f.id, f.a, 0, f.c, false, [], [], zeros16⟩ (.slice none 0 0) (.slice none 0 0)).size) := (frC_size ⟨0, f.id, f.a, 0, f.c, false, [], [], zeros16⟩ (.slice none 0 0) (.slice none 0 0) HG.out.t).symm
 unfold frV
 clear HB hbu HG hv hvd hvr
 generalize frC ⟨0, f.id, f.a, 0, f.c, false, [], [], zeros16⟩ (.slice none 0 0) (.slice none 0 0) = G at *
 generalize frC f vd vr = C at *
 go_enter Tryz.func114, Tryz.ntmps114
 go_wp2_with (first
  | ((with_reducible refine wpList_build_c ?_ 52 [(1, .tmp 4), (4, .tmp 6), (2, .tmp 8)] ?_ [(1, .int .u64 (f.id : Int)), (4, .int .u64 (f.c : Int)), (2, .int .u64 (f.a : Int))] ?_ G HBU.out ?_); (iterate 3 exact rfl))
  | ((with_reducible refine wpList_store_blk ?_ 52 (.tmp 2) (.tmp 9) ?_ (w.heap.size + 1) ?_ frZ G ?_ 52 (new2 _ _ _ _) HSZ.out HSS.out HONE.out ?_); (iterate 4 exact rfl); intro w1 hB hM)
  | fail)
 have hl := blk_loadVar (P := Tryz.prog) hB Tryz.underlying52 rfl HSZ.out
 refine bodyPost_ret (v := .agg G) ?_ rfl ⟨rfl, (((Mod.refl (fun _ => False) w).alloc _).alloc _).trans' hM (fun i hi e => by omega)⟩
 exact results_cell Tryz.results114 _ rfl hl
set_option maxRecDepth 10000 in
theorem has22 {w : World} {f : Fr} {vd vr : Value} (hv : FrV w f vd vr) : Calls Tryz.prog 117 #[frV f vd vr] w fun e w' => e = .returned (frV ⟨0, f.id, 0, 0, f.c, false, [], [], zeros16⟩ (.slice none 0 0) (.slice none 0 0)) ∧ Mod (fun _ => False) w w' := by
 have HB := FrB.new w f vd vr hv.t
 have e0 : (frC f vd vr)[0]? = some (.int .i64 f.k) := rfl
 have e1 : (frC f vd vr)[1]? = some (.int .u64 (f.id : Int)) := rfl
 have e2 : (frC f vd vr)[2]? = some (.int .u64 (f.a : Int)) := rfl
 have e3 : (frC f vd vr)[3]? = some (.int .u64 (f.b : Int)) := rfl
 have e4 : (frC f vd vr)[4]? = some (.int .u64 (f.c : Int)) := rfl
 have e5 : (frC f vd vr)[5]? = some (.bool f.fl) := rfl
 have e6 : (frC f vd vr)[6]? = some vd := rfl
 have e7 : (frC f vd vr)[7]? = some vr := rfl
 have HG : Hid (FrV w ⟨0, f.id, 0, 0, f.c, false, [], [], zeros16⟩ (.slice none 0 0) (.slice none 0 0)) := ⟨Sl.nil _ _, Sl.nil _ _, rfl, by first | exact hv.dl | simp, by first | exact hv.rl | simp⟩
 obtain ⟨da, dc, hvd, _⟩ := byts_val hv.d
 obtain ⟨ra, rc, hvr, _⟩ := rg_val hv.r
 have hbu : Tryz.prog.built 52 [(1, .int .u64 (f.id : Int)), (4, .int .u64 (f.c : Int))] = some (frC ⟨0, f.id, 0, 0, f.c, false, [], [], zeros16⟩ (.slice none 0 0) (.slice none 0 0)) := by
  kernel_rfl
 have HBU := Lib.hid hbu
 have HONE := Lib.hid (frC_one HG.out)
 have HSZ := Lib.hid (sizeFr ⟨0, f.id, 0, 0, f.c, false, [], [], zeros16⟩ (.slice none 0 0) (.slice none 0 0) HG.out.t)
 have HSS : Hid (frZ.size = (frC ⟨0, f.id, 0, 0, f.c, false, [], [], zeros16⟩ (.slice none 0 0) (.slice none 0 0)).size) := (frC_size ⟨0, f.id, 0, 0, f.c, false, [], [], zeros16⟩ (.slice none 0 0) (.slice none 0 0) HG.out.t).symm
 unfold frV
 clear HB hbu HG hv hvd hvr
 generalize frC ⟨0, f.id, 0, 0, f.c, false, [], [], zeros16⟩ (.slice none 0 0) (.slice none 0 0) = G at *
 generalize frC f vd vr = C at *
 go_enter Tryz.func117, Tryz.ntmps117
 go_wp2_with (first
  | ((with_reducible refine wpList_build_c ?_ 52 [(1, .tmp 4), (4, .tmp 6)] ?_ [(1, .int .u64 (f.id : Int)), (4, .int .u64 (f.c : Int))] ?_ G HBU.out ?_); (iterate 3 exact rfl))
  | ((with_reducible refine wpList_store_blk ?_ 52 (.tmp 2) (.tmp 7) ?_ (w.heap.size + 1) ?_ frZ G ?_ 52 (new2 _ _ _ _) HSZ.out HSS.out HONE.out ?_); (iterate 4 exact rfl); intro w1 hB hM)
  | fail)
 have hl := blk_loadVar (P := Tryz.prog) hB Tryz.underlying52 rfl HSZ.out
 refine bodyPost_ret (v := .agg G) ?_ rfl ⟨rfl, (((Mod.refl (fun _ => False) w).alloc _).alloc _).trans' hM (fun i hi e => by omega)⟩
 exact results_cell Tryz.results117 _ rfl hl
set_option maxRecDepth 10000 in
theorem has25 {w : World} {f : Fr} {vd vr : Value} (hv : FrV w f vd vr) : Calls Tryz.prog 120 #[frV f vd vr] w fun e w' => e = .returned (frV ⟨0, 0, f.a, 0, 0, false, f.d, [], zeros16⟩ vd (.slice none 0 0)) ∧ Mod (fun _ => False) w w' := by
 have HB := FrB.new w f vd vr hv.t
 have e0 : (frC f vd vr)[0]? = some (.int .i64 f.k) := rfl
 have e1 : (frC f vd vr)[1]? = some (.int .u64 (f.id : Int)) := rfl
 have e2 : (frC f vd vr)[2]? = some (.int .u64 (f.a : Int)) := rfl
 have e3 : (frC f vd vr)[3]? = some (.int .u64 (f.b : Int)) := rfl
 have e4 : (frC f vd vr)[4]? = some (.int .u64 (f.c : Int)) := rfl
 have e5 : (frC f vd vr)[5]? = some (.bool f.fl) := rfl
 have e6 : (frC f vd vr)[6]? = some vd := rfl
 have e7 : (frC f vd vr)[7]? = some vr := rfl
 have HG : Hid (FrV w ⟨0, 0, f.a, 0, 0, false, f.d, [], zeros16⟩ vd (.slice none 0 0)) := ⟨hv.d, Sl.nil _ _, rfl, by first | exact hv.dl | simp, by first | exact hv.rl | simp⟩
 obtain ⟨da, dc, hvd, _⟩ := byts_val hv.d
 obtain ⟨ra, rc, hvr, _⟩ := rg_val hv.r
 have hbu : Tryz.prog.built 52 [(2, .int .u64 (f.a : Int)), (6, vd)] = some (frC ⟨0, 0, f.a, 0, 0, false, f.d, [], zeros16⟩ vd (.slice none 0 0)) := by
  rw [hvd]; kernel_rfl
 have HBU := Lib.hid hbu
 have HONE := Lib.hid (frC_one HG.out)
 have HSZ := Lib.hid (sizeFr ⟨0, 0, f.a, 0, 0, false, f.d, [], zeros16⟩ vd (.slice none 0 0) HG.out.t)
 have HSS : Hid (frZ.size = (frC ⟨0, 0, f.a, 0, 0, false, f.d, [], zeros16⟩ vd (.slice none 0 0)).size) := (frC_size ⟨0, 0, f.a, 0, 0, false, f.d, [], zeros16⟩ vd (.slice none 0 0) HG.out.t).symm
 unfold frV
 clear HB hbu HG hv hvd hvr
 generalize frC ⟨0, 0, f.a, 0, 0, false, f.d, [], zeros16⟩ vd (.slice none 0 0) = G at *
 generalize frC f vd vr = C at *
 go_enter Tryz.func120, Tryz.ntmps120
 go_wp2_with (first
  | ((with_reducible refine wpList_build_c ?_ 52 [(2, .tmp 4), (6, .tmp 6)] ?_ [(2, .int .u64 (f.a : Int)), (6, vd)] ?_ G HBU.out ?_); (iterate 3 exact rfl))
  | ((with_reducible refine wpList_store_blk ?_ 52 (.tmp 2) (.tmp 7) ?_ (w.heap.size + 1) ?_ frZ G ?_ 52 (new2 _ _ _ _) HSZ.out HSS.out HONE.out ?_); (iterate 4 exact rfl); intro w1 hB hM)
  | fail)
 have hl := blk_loadVar (P := Tryz.prog) hB Tryz.underlying52 rfl HSZ.out
 refine bodyPost_ret (v := .agg G) ?_ rfl ⟨rfl, (((Mod.refl (fun _ => False) w).alloc _).alloc _).trans' hM (fun i hi e => by omega)⟩
 exact results_cell Tryz.results120 _ rfl hl
set_option maxRecDepth 10000 in
theorem has31 {w : World} {f : Fr} {vd vr : Value} (hv : FrV w f vd vr) : Calls Tryz.prog 128 #[frV f vd vr] w fun e w' => e = .returned (frV ⟨0, f.id, f.a, 0, 0, f.fl, f.d, [], zeros16⟩ vd (.slice none 0 0)) ∧ Mod (fun _ => False) w w' := by
 have HB := FrB.new w f vd vr hv.t
 have e0 : (frC f vd vr)[0]? = some (.int .i64 f.k) := rfl
 have e1 : (frC f vd vr)[1]? = some (.int .u64 (f.id : Int)) := rfl
 have e2 : (frC f vd vr)[2]? = some (.int .u64 (f.a : Int)) := rfl
 have e3 : (frC f vd vr)[3]? = some (.int .u64 (f.b : Int)) := rfl
 have e4 : (frC f vd vr)[4]? = some (.int .u64 (f.c : Int)) := rfl
 have e5 : (frC f vd vr)[5]? = some (.bool f.fl) := rfl
 have e6 : (frC f vd vr)[6]? = some vd := rfl
 have e7 : (frC f vd vr)[7]? = some vr := rfl
 have HG : Hid (FrV w ⟨0, f.id, f.a, 0, 0, f.fl, f.d, [], zeros16⟩ vd (.slice none 0 0)) := ⟨hv.d, Sl.nil _ _, rfl, by first | exact hv.dl | simp, by first | exact hv.rl | simp⟩
 obtain ⟨da, dc, hvd, _⟩ := byts_val hv.d
 obtain ⟨ra, rc, hvr, _⟩ := rg_val hv.r
 have hbu : Tryz.prog.built 52 [(1, .int .u64 (f.id : Int)), (2, .int .u64 (f.a : Int)), (5, .bool f.fl), (6, vd)] = some (frC ⟨0, f.id, f.a, 0, 0, f.fl, f.d, [], zeros16⟩ vd (.slice none 0 0)) := by
  rw [hvd]; kernel_rfl
 have HBU := Lib.hid hbu
 have HONE := Lib.hid (frC_one HG.out)
 have HSZ := Lib.hid (sizeFr ⟨0, f.id, f.a, 0, 0, f.fl, f.d, [], zeros16⟩ vd (.slice none 0 0) HG.out.t)
 have HSS : Hid (frZ.size = (frC ⟨0, f.id, f.a, 0, 0, f.fl, f.d, [], zeros16⟩ vd (.slice none 0 0)).size) := (frC_size ⟨0, f.id, f.a, 0, 0, f.fl, f.d, [], zeros16⟩ vd (.slice none 0 0) HG.out.t).symm
 unfold frV
 clear HB hbu HG hv hvd hvr
 generalize frC ⟨0, f.id, f.a, 0, 0, f.fl, f.d, [], zeros16⟩ vd (.slice none 0 0) = G at *
 generalize frC f vd vr = C at *
 go_enter Tryz.func128, Tryz.ntmps128
 go_wp2_with (first
  | ((with_reducible refine wpList_build_c ?_ 52 [(1, .tmp 4), (2, .tmp 6), (5, .tmp 8), (6, .tmp 10)] ?_ [(1, .int .u64 (f.id : Int)), (2, .int .u64 (f.a : Int)), (5, .bool f.fl), (6, vd)] ?_ G HBU.out ?_); (iterate 3 exact rfl))
  | ((with_reducible refine wpList_store_blk ?_ 52 (.tmp 2) (.tmp 11) ?_ (w.heap.size + 1) ?_ frZ G ?_ 52 (new2 _ _ _ _) HSZ.out HSS.out HONE.out ?_); (iterate 4 exact rfl); intro w1 hB hM)
  | fail)
 have hl := blk_loadVar (P := Tryz.prog) hB Tryz.underlying52 rfl HSZ.out
 refine bodyPost_ret (v := .agg G) ?_ rfl ⟨rfl, (((Mod.refl (fun _ => False) w).alloc _).alloc _).trans' hM (fun i hi e => by omega)⟩
 exact results_cell Tryz.results128 _ rfl hl
set_option maxRecDepth 10000 in
theorem has32 {w : World} {f : Fr} {vd vr : Value} (hv : FrV w f vd vr) : Calls Tryz.prog 130 #[frV f vd vr] w fun e w' => e = .returned (frV ⟨0, f.id, f.a, 0, 0, false, f.d, [], f.t⟩ vd (.slice none 0 0)) ∧ Mod (fun _ => False) w w' := by
 have HB := FrB.new w f vd vr hv.t
 have e0 : (frC f vd vr)[0]? = some (.int .i64 f.k) := rfl
 have e1 : (frC f vd vr)[1]? = some (.int .u64 (f.id : Int)) := rfl
 have e2 : (frC f vd vr)[2]? = some (.int .u64 (f.a : Int)) := rfl
 have e3 : (frC f vd vr)[3]? = some (.int .u64 (f.b : Int)) := rfl
 have e4 : (frC f vd vr)[4]? = some (.int .u64 (f.c : Int)) := rfl
 have e5 : (frC f vd vr)[5]? = some (.bool f.fl) := rfl
 have e6 : (frC f vd vr)[6]? = some vd := rfl
 have e7 : (frC f vd vr)[7]? = some vr := rfl
 have HG : Hid (FrV w ⟨0, f.id, f.a, 0, 0, false, f.d, [], f.t⟩ vd (.slice none 0 0)) := ⟨hv.d, Sl.nil _ _, hv.t, by first | exact hv.dl | simp, by first | exact hv.rl | simp⟩
 obtain ⟨da, dc, hvd, _⟩ := byts_val hv.d
 obtain ⟨ra, rc, hvr, _⟩ := rg_val hv.r
 have LT : Hid (∀ Z, (Instr.loadAt 27 (.pointer (some ⟨w.heap.size, 8, none⟩))).run Tryz.prog ((w.alloc (.cells (frC f vd vr) 52)).alloc (.cells Z 52)) = .ok (.agg (f.t.map bv).toArray) ((w.alloc (.cells (frC f vd vr) 52)).alloc (.cells Z 52))) := fun Z => (HB.kept ((Mod.refl (fun _ => False) _).alloc _)).loadTok
 have hbu : Tryz.prog.built 52 [(1, .int .u64 (f.id : Int)), (2, .int .u64 (f.a : Int)), (6, vd), (8, .agg (f.t.map bv).toArray)] = some (frC ⟨0, f.id, f.a, 0, 0, false, f.d, [], f.t⟩ vd (.slice none 0 0)) := by
  obtain ⟨x0, x1, x2, x3, x4, x5, x6, x7, x8, x9, xa, xb, xc, xd, xe, xf, ht⟩ := list16 _ hv.t
  simp only [ht]
  rw [hvd]; kernel_rfl
 have HBU := Lib.hid hbu
 have HONE := Lib.hid (frC_one HG.out)
 have HSZ := Lib.hid (sizeFr ⟨0, f.id, f.a, 0, 0, false, f.d, [], f.t⟩ vd (.slice none 0 0) HG.out.t)
 have HSS : Hid (frZ.size = (frC ⟨0, f.id, f.a, 0, 0, false, f.d, [], f.t⟩ vd (.slice none 0 0)).size) := (frC_size ⟨0, f.id, f.a, 0, 0, false, f.d, [], f.t⟩ vd (.slice none 0 0) HG.out.t).symm
 unfold frV
 clear HB hbu HG hv hvd hvr
 generalize frC ⟨0, f.id, f.a, 0, 0, false, f.d, [], f.t⟩ vd (.slice none 0 0) = G at *
 generalize frC f vd vr = C at *
 generalize (f.t.map bv).toArray = K at *
 go_enter Tryz.func130, Tryz.ntmps130
 go_wp2_with (first
  | ((with_reducible refine wpList_load_v 27 (.tmp 9) ?_ ?_ (.pointer (some ⟨w.heap.size, 8, none⟩)) (.agg K) ?_ (LT.out _) ?_); (iterate 3 exact rfl))
  | ((with_reducible refine wpList_build_c ?_ 52 [(1, .tmp 4), (2, .tmp 6), (6, .tmp 8), (8, .tmp 10)] ?_ [(1, .int .u64 (f.id : Int)), (2, .int .u64 (f.a : Int)), (6, vd), (8, .agg K)] ?_ G HBU.out ?_); (iterate 3 exact rfl))
  | ((with_reducible refine wpList_store_blk ?_ 52 (.tmp 2) (.tmp 11) ?_ (w.heap.size + 1) ?_ frZ G ?_ 52 (new2 _ _ _ _) HSZ.out HSS.out HONE.out ?_); (iterate 4 exact rfl); intro w1 hB hM)
  | fail)
 have hl := blk_loadVar (P := Tryz.prog) hB Tryz.underlying52 rfl HSZ.out
 refine bodyPost_ret (v := .agg G) ?_ rfl ⟨rfl, (((Mod.refl (fun _ => False) w).alloc _).alloc _).trans' hM (fun i hi e => by omega)⟩
 exact results_cell Tryz.results130 _ rfl hl
set_option maxRecDepth 10000 in
theorem has36 {w : World} {f : Fr} {vd vr : Value} (hv : FrV w f vd vr) : Calls Tryz.prog 136 #[frV f vd vr] w fun e w' => e = .returned (frV ⟨0, f.id, 0, 0, 0, false, [], [], zeros16⟩ (.slice none 0 0) (.slice none 0 0)) ∧ Mod (fun _ => False) w w' := by
 have HB := FrB.new w f vd vr hv.t
 have e0 : (frC f vd vr)[0]? = some (.int .i64 f.k) := rfl
 have e1 : (frC f vd vr)[1]? = some (.int .u64 (f.id : Int)) := rfl
 have e2 : (frC f vd vr)[2]? = some (.int .u64 (f.a : Int)) := rfl
 have e3 : (frC f vd vr)[3]? = some (.int .u64 (f.b : Int)) := rfl
 have e4 : (frC f vd vr)[4]? = some (.int .u64 (f.c : Int)) := rfl
 have e5 : (frC f vd vr)[5]? = some (.bool f.fl) := rfl
 have e6 : (frC f vd vr)[6]? = some vd := rfl
 have e7 : (frC f vd vr)[7]? = some vr := rfl
 have HG : Hid (FrV w ⟨0, f.id, 0, 0, 0, false, [], [], zeros16⟩ (.slice none 0 0) (.slice none 0 0)) := ⟨Sl.nil _ _, Sl.nil _ _, rfl, by first | exact hv.dl | simp, by first | exact hv.rl | simp⟩
 obtain ⟨da, dc, hvd, _⟩ := byts_val hv.d
 obtain ⟨ra, rc, hvr, _⟩ := rg_val hv.r
 have hbu : Tryz.prog.built 52 [(1, .int .u64 (f.id : Int))] = some (frC ⟨0, f.id, 0, 0, 0, false, [], [], zeros16⟩ (.slice none 0 0) (.slice none 0 0)) := by
  kernel_rfl
 have HBU := Lib.hid hbu
 have HONE := Lib.hid (frC_one HG.out)
 have HSZ := Lib.hid (sizeFr ⟨0, f.id, 0, 0, 0, false, [], [], zeros16⟩ (.slice none 0 0) (.slice none 0 0) HG.out.t)
 have HSS : Hid (frZ.size = (frC ⟨0, f.id, 0, 0, 0, false, [], [], zeros16⟩ (.slice none 0 0) (.slice none 0 0)).size) := (frC_size ⟨0, f.id, 0, 0, 0, false, [], [], zeros16⟩ (.slice none 0 0) (.slice none 0 0) HG.out.t).symm
 unfold frV
 clear HB hbu HG hv hvd hvr
 generalize frC ⟨0, f.id, 0, 0, 0, false, [], [], zeros16⟩ (.slice none 0 0) (.slice none 0 0) = G at *
 generalize frC f vd vr = C at *
 go_enter Tryz.func136, Tryz.ntmps136
 go_wp2_with (first
  | ((with_reducible refine wpList_build_c ?_ 52 [(1, .tmp 4)] ?_ [(1, .int .u64 (f.id : Int))] ?_ G HBU.out ?_); (iterate 3 exact rfl))
  | ((with_reducible refine wpList_store_blk ?_ 52 (.tmp 2) (.tmp 5) ?_ (w.heap.size + 1) ?_ frZ G ?_ 52 (new2 _ _ _ _) HSZ.out HSS.out HONE.out ?_); (iterate 4 exact rfl); intro w1 hB hM)
  | fail)
 have hl := blk_loadVar (P := Tryz.prog) hB Tryz.underlying52 rfl HSZ.out
 refine bodyPost_ret (v := .agg G) ?_ rfl ⟨rfl, (((Mod.refl (fun _ => False) w).alloc _).alloc _).trans' hM (fun i hi e => by omega)⟩
 exact results_cell Tryz.results136 _ rfl hl
set_option maxRecDepth 10000 in
theorem has38 {w : World} {f : Fr} {vd vr : Value} (hv : FrV w f vd vr) : Calls Tryz.prog 138 #[frV f vd vr] w fun e w' => e = .returned (frV ⟨0, 0, f.a, 0, f.c, f.fl, f.d, [], zeros16⟩ vd (.slice none 0 0)) ∧ Mod (fun _ => False) w w' := by
 have HB := FrB.new w f vd vr hv.t
 have e0 : (frC f vd vr)[0]? = some (.int .i64 f.k) := rfl
 have e1 : (frC f vd vr)[1]? = some (.int .u64 (f.id : Int)) := rfl
 have e2 : (frC f vd vr)[2]? = some (.int .u64 (f.a : Int)) := rfl
 have e3 : (frC f vd vr)[3]? = some (.int .u64 (f.b : Int)) := rfl
 have e4 : (frC f vd vr)[4]? = some (.int .u64 (f.c : Int)) := rfl
 have e5 : (frC f vd vr)[5]? = some (.bool f.fl) := rfl
 have e6 : (frC f vd vr)[6]? = some vd := rfl
 have e7 : (frC f vd vr)[7]? = some vr := rfl
 have HG : Hid (FrV w ⟨0, 0, f.a, 0, f.c, f.fl, f.d, [], zeros16⟩ vd (.slice none 0 0)) := ⟨hv.d, Sl.nil _ _, rfl, by first | exact hv.dl | simp, by first | exact hv.rl | simp⟩
 obtain ⟨da, dc, hvd, _⟩ := byts_val hv.d
 obtain ⟨ra, rc, hvr, _⟩ := rg_val hv.r
 have hbu : Tryz.prog.built 52 [(4, .int .u64 (f.c : Int)), (2, .int .u64 (f.a : Int)), (5, .bool f.fl), (6, vd)] = some (frC ⟨0, 0, f.a, 0, f.c, f.fl, f.d, [], zeros16⟩ vd (.slice none 0 0)) := by
  rw [hvd]; kernel_rfl
 have HBU := Lib.hid hbu
 have HONE := Lib.hid (frC_one HG.out)
 have HSZ := Lib.hid (sizeFr ⟨0, 0, f.a, 0, f.c, f.fl, f.d, [], zeros16⟩ vd (.slice none 0 0) HG.out.t)
 have HSS : Hid (frZ.size = (frC ⟨0, 0, f.a, 0, f.c, f.fl, f.d, [], zeros16⟩ vd (.slice none 0 0)).size) := (frC_size ⟨0, 0, f.a, 0, f.c, f.fl, f.d, [], zeros16⟩ vd (.slice none 0 0) HG.out.t).symm
 unfold frV
 clear HB hbu HG hv hvd hvr
 generalize frC ⟨0, 0, f.a, 0, f.c, f.fl, f.d, [], zeros16⟩ vd (.slice none 0 0) = G at *
 generalize frC f vd vr = C at *
 go_enter Tryz.func138, Tryz.ntmps138
 go_wp2_with (first
  | ((with_reducible refine wpList_build_c ?_ 52 [(4, .tmp 4), (2, .tmp 6), (5, .tmp 8), (6, .tmp 10)] ?_ [(4, .int .u64 (f.c : Int)), (2, .int .u64 (f.a : Int)), (5, .bool f.fl), (6, vd)] ?_ G HBU.out ?_); (iterate 3 exact rfl))
  | ((with_reducible refine wpList_store_blk ?_ 52 (.tmp 2) (.tmp 11) ?_ (w.heap.size + 1) ?_ frZ G ?_ 52 (new2 _ _ _ _) HSZ.out HSS.out HONE.out ?_); (iterate 4 exact rfl); intro w1 hB hM)
  | fail)
 have hl := blk_loadVar (P := Tryz.prog) hB Tryz.underlying52 rfl HSZ.out
 refine bodyPost_ret (v := .agg G) ?_ rfl ⟨rfl, (((Mod.refl (fun _ => False) w).alloc _).alloc _).trans' hM (fun i hi e => by omega)⟩
 exact results_cell Tryz.results138 _ rfl hl
end Go.Proofs.YtolgeghdkoodnaaGreatDoor
