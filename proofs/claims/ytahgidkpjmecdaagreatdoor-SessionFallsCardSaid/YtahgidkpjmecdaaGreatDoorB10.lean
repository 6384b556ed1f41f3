/- Parts of the proof: StB StC StD StE SoH. -/
import Derived.Test.YtahgidkpjmecdaaGreatDoorB08
import Derived.Test.YtahgidkpjmecdaaGreatDoorB09
import Derived.Laws.BitsLemmas
import Derived.Laws.Bits64
set_option maxRecDepth 100000
namespace Go.Proofs.YtahgidkpjmecdaaGreatDoor
open Go.RowKit Go.Maps
def tailL (mb : Nat) (T : Tb) : List Value := [.map (some mb), .int .u64 (T.op0 : Int), .int .u64 (T.op1 : Int), .int .u64 (T.op2 : Int), .int .u64 (T.op3 : Int), .int .u64 (T.lim0 : Int), .int .u64 (T.lim1 : Int), .int .u64 (T.stream : Int), .int .u64 (T.data : Int), .int .u64 (T.read : Int), .bool T.tell]
theorem pmL_len {p : Pm} (h : p.t.length = 16) : (pmL p).length = 21 := by simp [pmL, h]
theorem tbC_at {mb : Nat} {T : Tb} (h : T.own.t.length = 16) (j : Nat) : (tbC mb T)[22 + j]? = (tailL mb T)[j]? := by
 show ((Value.bool T.client :: (pmL T.own ++ tailL mb T)).toArray)[22 + j]? = _
 rw [List.getElem?_toArray, show 22 + j = (21 + j) + 1 by omega, List.getElem?_cons_succ, List.getElem?_append_right (by rw [pmL_len h]; omega), pmL_len h]
 congr 1
 omega
theorem tbC_set {mb : Nat} {T : Tb} (h : T.own.t.length = 16) (j : Nat) (v : Value) : (tbC mb T).setIfInBounds (22 + j) v = (Value.bool T.client :: (pmL T.own ++ (tailL mb T).set j v)).toArray := by
 apply Array.toList_inj.1
 rw [Array.toList_setIfInBounds]
 show (Value.bool T.client :: (pmL T.own ++ tailL mb T)).set (22 + j) v = _
 rw [show 22 + j = (21 + j) + 1 by omega, List.set_cons_succ, List.set_append, if_neg (by rw [pmL_len h]; omega), pmL_len h, show 21 + j - 21 = j by omega]
theorem TBuf.cell {B : Nat} {w : World} {tb mb : Nat} {G : Int → SM} {T : Tb} (q : TBuf B w tb mb G T) (j : Nat) {v : Value} (hv : (tailL mb T)[j]? = some v) : w.cell? ⟨tb, 22 + j, none⟩ = some v := q.blk.cellAt (22 + j) ((tbC_at q.tok j).trans hv)
theorem TBuf.mapc {B : Nat} {w : World} {tb mb : Nat} {G : Int → SM} {T : Tb} (q : TBuf B w tb mb G T) : w.cell? ⟨tb, 22, none⟩ = some (.map (some mb)) := q.cell 0 rfl
theorem zero_st (w : World) : (zeroValue 104).run Tryz.prog w = .ok (.pointer none) w := by kernel_rfl
def okId (id : Nat) : Prop := (id : Int) ≤ 9223372036854775807
theorem TBuf.look {B : Nat} {w : World} {tb mb : Nat} {G : Int → SM} {T : Tb} (q : TBuf B w tb mb G T) {id : Nat} (hi : okId id) :
  (Instr.lookup 99 (.map (some mb)) (.int .u64 (id : Int)) false).run Tryz.prog w = .ok (if (id : Int) ∈ T.dom then .pointer (some ⟨(G id).sb, 0, none⟩) else .pointer none) w :=
 q.map.look Tryz.underlying34 (u64_wf hi) Tryz.underlying99 (zero_st w)
theorem sbit_any (b : Bool) (w : World) : Calls Tryz.prog 41 #[.bool b] w fun e w' => w = w' ∧ e = .returned (.int .u64 (if b then 1 else 0)) := by
 cases b <;> (
  go_enter Tryz.func41, Tryz.ntmps41
  go_wp2_with fail
  go_ret
  exact ⟨rfl, rfl⟩)
def mineB (client : Bool) (id : Nat) : Bool := (id % 2 == 0) == client
theorem wraps63 (n : Int) (h0 : 0 ≤ n) (h1 : n < 2 ^ 63) : IntKind.u64.wrap n = n := IntWalk.u64_in _ (by omega)
theorem and1 {id : Nat} (h : okId id) : bits .and .u64 (id : Int) 1 = ((id % 2 : Nat) : Int) := by
 unfold okId at h
 have e := (bits_nat .u64 63 (by decide) wraps63 id 1 (by omega) (by decide)).1
 rw [Nat.and_one_is_mod] at e
 exact e
theorem and2 {id : Nat} (h : okId id) : bits .and .u64 (id : Int) 2 = ((id % 4 &&& 2 : Nat) : Int) := by
 unfold okId at h
 have e := (bits_nat .u64 63 (by decide) wraps63 id 2 (by omega) (by decide)).1
 have e2 : id &&& 2 = id % 4 &&& 2 := by
  have e3 : (2 : Nat) = (2 ^ 2 - 1) &&& 2 := by decide
  conv => lhs; rw [e3, ← Nat.and_assoc, Nat.and_two_pow_sub_one_eq_mod]
 rw [e2] at e
 exact e
def oneWay (id : Nat) : Bool := decide (2 ≤ id % 4)
theorem and2_cases (id : Nat) : ((id % 4 &&& 2 : Nat) = 0 ∧ oneWay id = false) ∨ ((id % 4 &&& 2 : Nat) = 2 ∧ oneWay id = true) := by
 unfold oneWay
 have h : id % 4 = 0 ∨ id % 4 = 1 ∨ id % 4 = 2 ∨ id % 4 = 3 := by omega
 rcases h with h | h | h | h <;> (rw [h]; decide)
theorem mine_any {B : Nat} {w : World} {tb mb : Nat} {G : Int → SM} {T : Tb} (q : TBuf B w tb mb G T) {id : Nat} (hi : okId id) :
  Calls Tryz.prog 72 #[.pointer (some ⟨tb, 0, none⟩), .int .u64 (id : Int)] w fun e w' => w = w' ∧ e = .returned (.bool (mineB T.client id)) := by
 have c0 : w.cell? ⟨tb, 0, none⟩ = some (.bool T.client) := q.blk.cellAt 0 rfl
 have HA : Hid ((bits .and .u64 (id : Int) 1 == 0) = (id % 2 == 0)) := Lib.hid (by rw [and1 hi, Bool.eq_iff_iff]; simp; omega)
 clear q
 go_enter Tryz.func72, Tryz.ntmps72
 go_wp2_with fail
 go_ret
 refine ⟨rfl, ?_⟩
 unfold mineB
 rw [← HA.out]
 rfl
def outPartE (T : Tb) (id : Nat) : Int := if (id : Int) ∈ T.dom ∧ (T.m id).out.isSome = true then (if (T.m id).reset then 8 else 0) else 6
theorem outPart_any {B : Nat} {w : World} {tb mb : Nat} {G : Int → SM} {T : Tb} (q : TBuf B w tb mb G T) {id : Nat} (hi : okId id) :
  Calls Tryz.prog 43 #[.pointer (some ⟨tb, 0, none⟩), .int .u64 (id : Int)] w fun e w' => w = w' ∧ e = .returned (.tuple #[if outPartE T id = 0 then .pointer (some ⟨(G id).sb, 0, none⟩) else .pointer none, .int .i64 (outPartE T id)]) := by
 have cm := q.mapc
 have hl := q.look hi
 by_cases hd : (id : Int) ∈ T.dom
 ·rw [if_pos hd] at hl
  have hs := q.strs _ hd
  have cb : w.cell? ⟨(G id).sb, 0, none⟩ = some (ptrO (G id).ob (T.m id).out) := hs.blk.cellAt 0 rfl
  have cr : w.cell? ⟨(G id).sb, 4, none⟩ = some (.bool (T.m id).reset) := hs.blk.cellAt 4 rfl
  cases ho : (T.m id).out with
  | none =>
   have HE : Hid (outPartE T id = 6) := Lib.hid (by unfold outPartE; rw [if_neg]; rintro ⟨_, h⟩; rw [ho] at h; cases h)
   rw [ho] at cb
   unfold ptrO at cb
   rw [HE.out, if_neg (by decide)]
   clear hs ho hd q
   go_enter Tryz.func43, Tryz.ntmps43
   go_wp2_with fail
   go_ret2
   exact ⟨rfl, rfl⟩
  | some o =>
   rw [ho] at cb
   unfold ptrO at cb
   cases hr : (T.m id).reset with
   | true =>
    have HE : Hid (outPartE T id = 8) := Lib.hid (by unfold outPartE; rw [if_pos ⟨hd, by rw [ho]; rfl⟩, if_pos hr])
    rw [hr] at cr
    rw [HE.out, if_neg (by decide)]
    clear hs ho hd q hr
    go_enter Tryz.func43, Tryz.ntmps43
    go_wp2_with fail
    go_ret2
    exact ⟨rfl, rfl⟩
   | false =>
    have HE : Hid (outPartE T id = 0) := Lib.hid (by unfold outPartE; rw [if_pos ⟨hd, by rw [ho]; rfl⟩, if_neg (by rw [hr]; decide)])
    rw [hr] at cr
    rw [HE.out, if_pos rfl]
    clear hs ho hd q hr
    go_enter Tryz.func43, Tryz.ntmps43
    go_wp2_with fail
    go_ret2
    exact ⟨rfl, rfl⟩
 ·rw [if_neg hd] at hl
  have HE : Hid (outPartE T id = 6) := Lib.hid (by unfold outPartE; rw [if_neg]; exact fun h => hd h.1)
  rw [HE.out, if_neg (by decide)]
  clear hd q
  go_enter Tryz.func43, Tryz.ntmps43
  go_wp2_with fail
  go_ret2
  exact ⟨rfl, rfl⟩
def inPartE (T : Tb) (id : Nat) : Int := if (id : Int) ∈ T.dom ∧ (T.m id).inn.isSome = true then (if (T.m id).over then 8 else 0) else 6
theorem inPart_any {B : Nat} {w : World} {tb mb : Nat} {G : Int → SM} {T : Tb} (q : TBuf B w tb mb G T) {id : Nat} (hi : okId id) :
  Calls Tryz.prog 114 #[.pointer (some ⟨tb, 0, none⟩), .int .u64 (id : Int)] w fun e w' => w = w' ∧ e = .returned (.tuple #[if inPartE T id = 0 then .pointer (some ⟨(G id).sb, 0, none⟩) else .pointer none, .int .i64 (inPartE T id)]) := by
 have cm := q.mapc
 have hl := q.look hi
 by_cases hd : (id : Int) ∈ T.dom
 ·rw [if_pos hd] at hl
  have hs := q.strs _ hd
  have cb : w.cell? ⟨(G id).sb, 1, none⟩ = some (ptrI (G id).ib (T.m id).inn) := hs.blk.cellAt 1 rfl
  have cr : w.cell? ⟨(G id).sb, 5, none⟩ = some (.bool (T.m id).over) := hs.blk.cellAt 5 rfl
  cases ho : (T.m id).inn with
  | none =>
   have HE : Hid (inPartE T id = 6) := Lib.hid (by unfold inPartE; rw [if_neg]; rintro ⟨_, h⟩; rw [ho] at h; cases h)
   rw [ho] at cb
   unfold ptrI at cb
   rw [HE.out, if_neg (by decide)]
   clear hs ho hd q
   go_enter Tryz.func114, Tryz.ntmps114
   go_wp2_with fail
   go_ret2
   exact ⟨rfl, rfl⟩
  | some o =>
   rw [ho] at cb
   unfold ptrI at cb
   cases hr : (T.m id).over with
   | true =>
    have HE : Hid (inPartE T id = 8) := Lib.hid (by unfold inPartE; rw [if_pos ⟨hd, by rw [ho]; rfl⟩, if_pos hr])
    rw [hr] at cr
    rw [HE.out, if_neg (by decide)]
    clear hs ho hd q hr
    go_enter Tryz.func114, Tryz.ntmps114
    go_wp2_with fail
    go_ret2
    exact ⟨rfl, rfl⟩
   | false =>
    have HE : Hid (inPartE T id = 0) := Lib.hid (by unfold inPartE; rw [if_pos ⟨hd, by rw [ho]; rfl⟩, if_neg (by rw [hr]; decide)])
    rw [hr] at cr
    rw [HE.out, if_pos rfl]
    clear hs ho hd q hr
    go_enter Tryz.func114, Tryz.ntmps114
    go_wp2_with fail
    go_ret2
    exact ⟨rfl, rfl⟩
 ·rw [if_neg hd] at hl
  have HE : Hid (inPartE T id = 6) := Lib.hid (by unfold inPartE; rw [if_neg]; exact fun h => hd h.1)
  rw [HE.out, if_neg (by decide)]
  clear hd q
  go_enter Tryz.func114, Tryz.ntmps114
  go_wp2_with fail
  go_ret2
  exact ⟨rfl, rfl⟩
theorem outPart_no {B : Nat} {w : World} {tb mb : Nat} {G : Int → SM} {T : Tb} (q : TBuf B w tb mb G T) {id : Nat} (hi : okId id) (z : Int) (hz : outPartE T id = z) (h : z ≠ 0) :
  Calls Tryz.prog 43 #[.pointer (some ⟨tb, 0, none⟩), .int .u64 (id : Int)] w fun e w' => w = w' ∧ e = .returned (.tuple #[.pointer none, .int .i64 z]) := by
 subst hz
 have := outPart_any q hi
 rw [if_neg h] at this
 exact this
theorem outPart_ok {B : Nat} {w : World} {tb mb : Nat} {G : Int → SM} {T : Tb} (q : TBuf B w tb mb G T) {id : Nat} (hi : okId id) (h : outPartE T id = 0) :
  Calls Tryz.prog 43 #[.pointer (some ⟨tb, 0, none⟩), .int .u64 (id : Int)] w fun e w' => w = w' ∧ e = .returned (.tuple #[.pointer (some ⟨(G id).sb, 0, none⟩), .int .i64 0]) := by
 have := outPart_any q hi
 rw [if_pos h, h] at this
 exact this
theorem inPart_no {B : Nat} {w : World} {tb mb : Nat} {G : Int → SM} {T : Tb} (q : TBuf B w tb mb G T) {id : Nat} (hi : okId id) (z : Int) (hz : inPartE T id = z) (h : z ≠ 0) :
  Calls Tryz.prog 114 #[.pointer (some ⟨tb, 0, none⟩), .int .u64 (id : Int)] w fun e w' => w = w' ∧ e = .returned (.tuple #[.pointer none, .int .i64 z]) := by
 subst hz
 have := inPart_any q hi
 rw [if_neg h] at this
 exact this
theorem inPart_ok {B : Nat} {w : World} {tb mb : Nat} {G : Int → SM} {T : Tb} (q : TBuf B w tb mb G T) {id : Nat} (hi : okId id) (h : inPartE T id = 0) :
  Calls Tryz.prog 114 #[.pointer (some ⟨tb, 0, none⟩), .int .u64 (id : Int)] w fun e w' => w = w' ∧ e = .returned (.tuple #[.pointer (some ⟨(G id).sb, 0, none⟩), .int .i64 0]) := by
 have := inPart_any q hi
 rw [if_pos h, h] at this
 exact this
theorem outPartE_zero {T : Tb} {id : Nat} (h : outPartE T id = 0) : (id : Int) ∈ T.dom ∧ (∃ o, (T.m id).out = some o) ∧ (T.m id).reset = false := by
 unfold outPartE at h
 split at h
 ·rename_i hc
  refine ⟨hc.1, Option.isSome_iff_exists.1 hc.2, ?_⟩
  split at h
  ·cases h
  ·rename_i hr
   simpa using hr
 ·cases h
theorem inPartE_zero {T : Tb} {id : Nat} (h : inPartE T id = 0) : (id : Int) ∈ T.dom ∧ (∃ o, (T.m id).inn = some o) ∧ (T.m id).over = false := by
 unfold inPartE at h
 split at h
 ·rename_i hc
  refine ⟨hc.1, Option.isSome_iff_exists.1 hc.2, ?_⟩
  split at h
  ·cases h
  ·rename_i hr
   simpa using hr
 ·cases h
def SC (B : Nat) (w w' : World) (g g' : SM) (s s' : St) : Prop := SBuf B w' g' s' ∧ g'.sb = g.sb ∧ (∀ k, SS g' s' k → SS g s k ∨ (w.heap.size ≤ k ∧ k < w'.heap.size)) ∧ Mod (SS g s) w w'
theorem SC.trans {B : Nat} {w w1 w2 : World} {g g1 g2 : SM} {s s1 s2 : St} (h : SC B w w1 g g1 s s1) (k : SC B w1 w2 g1 g2 s1 s2) : SC B w w2 g g2 s s2 := by
 refine ⟨k.1, k.2.1.trans h.2.1, fun j hj => ?_, h.2.2.2.trans' k.2.2.2 (fun i hi hs => ?_)⟩
 ·rcases k.2.2.1 j hj with e | e
  ·rcases h.2.2.1 j e with e | e
   ·exact .inl e
   ·exact .inr ⟨e.1, Nat.lt_of_lt_of_le e.2 k.2.2.2.size⟩
  ·exact .inr ⟨Nat.le_trans h.2.2.2.size e.1, e.2⟩
 ·rcases h.2.2.1 i hs with e | e
  ·exact e
  ·omega
theorem SC.table {B : Nat} {w w' : World} {tb mb : Nat} {G : Int → SM} {T : Tb} (q : TBuf B w tb mb G T) {z : Int} (hz : z ∈ T.dom) {g' : SM} {s' : St} (h : SC B w w' (G z) g' (T.m z) s') : TC B w w' tb mb G T { T with m := updM T.m z s' } :=
 ⟨_, q.upd hz h.1 h.2.1 h.2.2.1 h.2.2.2⟩
theorem SBuf.cell {B : Nat} {w : World} {g : SM} {s s' : St} (q : SBuf B w g s) (i : Nat) (v : Value) (hc : (stC g s).setIfInBounds i v = stC g s') (ho : s'.out = s.out) (hi : s'.inn = s.inn) (ht : ∀ z, tellF s' z = tellF s z) (hn : nat64 s'.max ∧ nat64 s'.given ∧ nat64 s'.code ∧ nat64 s'.in2 ∧ nat64 s'.stop ∧ nat64 s'.taken) :
  SC B w (w.setCell ⟨g.sb, i, none⟩ v) g g s s' := by
 have hM : Mod (fun k => k = g.sb) w (w.setCell ⟨g.sb, i, none⟩ v) := (Mod.refl (fun k => k = g.sb) _).setCell (p := ⟨g.sb, i, none⟩) (fun _ => rfl) _
 have hb := q.blk.set i v
 rw [hc] at hb
 have eo : SO g s' = SO g s := by unfold SO; rw [ho]
 have ei : SI g s' = SI g s := by unfold SI; rw [hi]
 have es : SS g s' = SS g s := by unfold SS; rw [eo, ei]
 refine ⟨⟨q.at0, q.att, hb, ?_, ?_, ?_, by rw [eo, ei]; exact q.oi, by rw [eo]; exact q.ot, by rw [ei]; exact q.it, q.ts, hn⟩, rfl, fun k hk => .inl (es ▸ hk), hM.mono (fun k _ e => .inl e)⟩
 ·rw [ho]
  exact fun o h => (q.out o h).kept hM (fun k hk e => (q.ot k ⟨by rw [h]; rfl, hk⟩).2 e)
 ·rw [hi]
  exact fun o h => (q.inn o h).kept hM (fun k hk e => (q.it k ⟨by rw [h]; rfl, hk⟩).2 e)
 ·obtain ⟨dom, b, h1, h2, h3⟩ := q.tell
  exact ⟨dom, b, h1.kept hM q.ts, h2, fun z => (h3 z).trans (ht z).symm⟩
theorem SBuf.outS {B : Nat} {w w' : World} {g : SM} {s : St} {o o' : OB} (q : SBuf B w g s) (ho : s.out = some o) (h : OC B w w' g.ob g.bv g.sv o') : ∃ g', SC B w w' g g' s { s with out := some o' } := by
 obtain ⟨vb, vs, hq, hsub, hM⟩ := h
 have e1 : ∀ k, OS g.ob g.bv g.sv k → SO g s k := fun k hk => ⟨by rw [ho]; rfl, hk⟩
 have hlt := q.lt
 have n1 : ∀ k, SO { g with bv := vb, sv := vs } { s with out := some o' } k → SO g s k ∨ (w.heap.size ≤ k ∧ k < w'.heap.size) := by
  rintro k ⟨-, hk⟩
  rcases hsub k hk with e | e
  ·exact .inl (e1 k e)
  ·exact .inr e
 refine ⟨{ g with bv := vb, sv := vs }, ⟨⟨q.at0, q.att, ?_, ?_, ?_, ?_, ?_, ?_, ?_, q.ts, q.num⟩, rfl, ?_, hM.mono (fun k _ hk => .inr (.inr (.inl (e1 k hk))))⟩⟩
 ·have hb : Blk w g.sb (stC g s) 109 := q.blk
  have hb' := hM.blk hb (fun hk => (q.ot _ (e1 _ hk)).2 rfl)
  have ec : stC { g with bv := vb, sv := vs } { s with out := some o' } = stC g s := by
   unfold stC
   rw [ho]
   rfl
  rw [ec]
  exact hb'
 ·intro o2 h2
  cases h2
  exact hq
 ·intro i hi
  exact (q.inn i hi).kept hM (fun k hk hk2 => q.oi k (e1 k hk2) ⟨by rw [show s.inn = some i from hi]; rfl, hk⟩)
 ·exact q.tell.kept hM (fun hk => (q.ot _ (e1 _ hk)).1 rfl)
 ·intro k hk hk2
  rcases n1 k hk with e | e
  ·exact q.oi k e hk2
  ·have := (hlt k (.inr (.inr (.inr hk2)))).2; omega
 ·intro k hk
  rcases n1 k hk with e | e
  ·exact q.ot k e
  ·have h1 := (hlt g.tb (.inr (.inl rfl))).2
   have h2 := (hlt g.sb (.inl rfl)).2
   exact ⟨by show k ≠ g.tb; omega, by show k ≠ g.sb; omega⟩
 ·exact q.it
 ·rintro k (e | e | e | e)
  ·exact .inl (.inl e)
  ·exact .inl (.inr (.inl e))
  ·rcases n1 k e with e | e
   ·exact .inl (.inr (.inr (.inl e)))
   ·exact .inr e
  ·exact .inl (.inr (.inr (.inr e)))
theorem SBuf.inS {B : Nat} {w w' : World} {g : SM} {s : St} {o o' : IB} (q : SBuf B w g s) (ho : s.inn = some o) (h : IC B w w' g.ib g.mb o') : SC B w w' g g s { s with inn := some o' } := by
 obtain ⟨hq, hM⟩ := h
 have e1 : ∀ k, IS g.ib g.mb k → SI g s k := fun k hk => ⟨by rw [ho]; rfl, hk⟩
 have e2 : ∀ k, SI g { s with inn := some o' } k → SI g s k := fun k hk => e1 k hk.2
 refine ⟨⟨q.at0, q.att, ?_, ?_, ?_, ?_, ?_, q.ot, ?_, q.ts, q.num⟩, rfl, ?_, hM.mono (fun k _ hk => .inr (.inr (.inr (e1 k hk))))⟩
 ·have hb' := hM.blk q.blk (fun hk => (q.it _ (e1 _ hk)).2 rfl)
  have ec : stC g { s with inn := some o' } = stC g s := by
   unfold stC
   rw [ho]
   rfl
  rw [ec]
  exact hb'
 ·intro i hi
  exact (q.out i hi).kept hM (fun k hk hk2 => q.oi k ⟨by rw [show s.out = some i from hi]; rfl, hk⟩ (e1 k hk2))
 ·intro o2 h2
  cases h2
  exact hq
 ·exact q.tell.kept hM (fun hk => (q.it _ (e1 _ hk)).1 rfl)
 ·exact fun k hk hk2 => q.oi k hk (e2 k hk2)
 ·exact fun k hk => q.it k (e2 k hk)
 ·rintro k (e | e | e | e)
  ·exact .inl (.inl e)
  ·exact .inl (.inr (.inl e))
  ·exact .inl (.inr (.inr (.inl e)))
  ·exact .inl (.inr (.inr (.inr (e2 k e))))
theorem SBuf.stay {B : Nat} {w w' : World} {g : SM} {s : St} (q : SBuf B w g s) (hM : Mod (fun _ => False) w w') : SC B w w' g g s s := ⟨q.still hM, rfl, fun _ h => .inl h, hM.mono (fun _ _ h => h.elim)⟩
def setTell (s : St) (z : Int) (b : Bool) : St := if z = 4 then { s with tR := b } else if z = 5 then { s with tS := b } else if z = 17 then { s with tM := b } else s
def tellK (z : Int) : Prop := z = 4 ∨ z = 5 ∨ z = 17
theorem setTell_f {s : St} {z : Int} (hz : tellK z) (b : Bool) (y : Int) : tellF (setTell s z b) y = if y = z then b else tellF s y := by
 unfold tellF setTell
 rcases hz with rfl | rfl | rfl
 ·by_cases h : y = 4
  ·subst h; simp
  ·by_cases h5 : y = 5
   ·subst h5; simp
   ·simp [h, h5]
 ·by_cases h : y = 5
  ·subst h; simp
  ·by_cases h4 : y = 4
   ·subst h4; simp
   ·simp [h, h4]
 ·by_cases h : y = 17
  ·subst h; simp
  ·by_cases h4 : y = 4
   ·subst h4; simp
   ·by_cases h5 : y = 5
    ·subst h5; simp
    ·simp [h, h4, h5]
theorem setTell_same {s : St} {z : Int} (b : Bool) : (setTell s z b).out = s.out ∧ (setTell s z b).inn = s.inn ∧ (∀ g, stC g (setTell s z b) = stC g s) ∧ (nat64 s.max ∧ nat64 s.given ∧ nat64 s.code ∧ nat64 s.in2 ∧ nat64 s.stop ∧ nat64 s.taken → nat64 (setTell s z b).max ∧ nat64 (setTell s z b).given ∧ nat64 (setTell s z b).code ∧ nat64 (setTell s z b).in2 ∧ nat64 (setTell s z b).stop ∧ nat64 (setTell s z b).taken) := by
 unfold setTell
 split
 ·exact ⟨rfl, rfl, fun _ => rfl, fun h => h⟩
 ·split
  ·exact ⟨rfl, rfl, fun _ => rfl, fun h => h⟩
  ·split
   ·exact ⟨rfl, rfl, fun _ => rfl, fun h => h⟩
   ·exact ⟨rfl, rfl, fun _ => rfl, fun h => h⟩
theorem TellM.size {w : World} {tb : Nat} {dom : List Int} {f : Int → Value} (h : IMap 3 .i64 w tb dom f) (h2 : ∀ z ∈ dom, (4 : Int) ≤ z ∧ z < 18) : dom.length < maxLen := by
 have := nodup_range 14 4 dom h.nodup (fun z hz => by have := h2 z hz; omega)
 unfold maxLen
 omega
theorem SBuf.tellS {B : Nat} {w w' : World} {g : SM} {s : St} {z : Int} {b : Bool} (q : SBuf B w g s) (hz : tellK z) {dom : List Int} {f : Int → Bool} (h2 : ∀ z ∈ dom, (4 : Int) ≤ z ∧ z < 18) (h3 : ∀ z, (decide (z ∈ dom) && f z) = tellF s z)
  (hI : IMap 3 .i64 w' g.tb (putD z dom) (putF z (.bool b) (fun z => .bool (f z)))) (hM : Mod (fun k => k = g.tb) w w') : SC B w w' g g s (setTell s z b) := by
 obtain ⟨e1, e2, e3, e4⟩ := setTell_same (s := s) (z := z) b
 have eo : SO g (setTell s z b) = SO g s := by unfold SO; rw [e1]
 have ei : SI g (setTell s z b) = SI g s := by unfold SI; rw [e2]
 have es : SS g (setTell s z b) = SS g s := by unfold SS; rw [eo, ei]
 refine ⟨⟨q.at0, q.att, by rw [e3]; exact hM.blk q.blk (fun e => q.ts e.symm), ?_, ?_, ?_, by rw [eo, ei]; exact q.oi, by rw [eo]; exact q.ot, by rw [ei]; exact q.it, q.ts, e4 q.num⟩, rfl, fun k hk => .inl (es ▸ hk), hM.mono (fun k _ e => .inr (.inl e))⟩
 ·rw [e1]
  exact fun o h => (q.out o h).kept hM (fun k hk e => (q.ot k ⟨by rw [h]; rfl, hk⟩).1 e)
 ·rw [e2]
  exact fun o h => (q.inn o h).kept hM (fun k hk e => (q.it k ⟨by rw [h]; rfl, hk⟩).1 e)
 ·refine ⟨putD z dom, fun y => if y = z then b else f y, ?_, ?_, ?_⟩
  ·have e : (fun y => Value.bool (if y = z then b else f y)) = putF z (.bool b) (fun z => .bool (f z)) := by
    funext y
    unfold putF
    split <;> rfl
   rw [e]
   exact hI
  ·intro y hy
   rcases mem_putD.1 hy with rfl | hy
   ·rcases hz with rfl | rfl | rfl <;> omega
   ·exact h2 y hy
  ·intro y
   rw [setTell_f hz]
   dsimp only
   by_cases h : y = z
   ·rw [if_pos h, if_pos h, decide_eq_true (mem_putD.2 (.inl h))]
    rfl
   ·rw [if_neg h, if_neg h, ← h3 y]
    congr 1
    rw [Bool.eq_iff_iff]
    simp [mem_putD, h]
theorem exec_entry {w w' : World} {a : Act} {op : Oper} {m x : Operand} {t : TypeId} (ho : op.op = .mapEntry t m x) {mv k v : Value} (hm : a.eval m = mv) (hx : a.eval x = k) (hr : (Instr.mapEntry t mv k).run Tryz.prog w = .ok v w') : (execOp a.eval op).run Tryz.prog w = .ok (.value v) w' := by
 unfold execOp
 simp only [ho, hm, hx, Sem.run_bind, Sem.run_pure, Result.andThen_ok, hr]
theorem exec_estore {w w' : World} {a : Act} {op : Oper} {m x v : Operand} {t : TypeId} (ho : op.op = .entryStore t m x v) {mv k e : Value} (hm : a.eval m = mv) (hx : a.eval x = k) (hv : a.eval v = e) (hr : (Instr.entryStore t mv k e).run Tryz.prog w = .ok () w') : (execOp a.eval op).run Tryz.prog w = .ok .skip w' := by
 unfold execOp
 simp only [ho, hm, hx, hv, Sem.run_bind, Sem.run_pure, Result.andThen_ok, hr]
theorem zero_bool (w : World) : (zeroValue 4).run Tryz.prog w = .ok (.bool false) w := by kernel_rfl
theorem i64_wf {z : Int} (h : tellK z) : (Lit.int .i64 z).wf = true := by
 rcases h with rfl | rfl | rfl <;> decide
def wrE (T : Tb) (id : Nat) : Int := if outPartE T id ≠ 0 then outPartE T id else if (T.m id).finished then 8 else 0
def wrN (T : Tb) (id : Nat) (data : List UInt8) : Nat := if wrE T id = 0 then ((T.m id).out.map (fun o => writeN o data)).getD 0 else 0
def wrT (T : Tb) (id : Nat) (data : List UInt8) : Tb := if wrE T id = 0 then { T with m := updM T.m id { T.m id with out := (T.m id).out.map (fun o => writeO o data) } } else T
def TWrite (B : Nat) (w w' : World) (tb mb : Nat) (G : Int → SM) (T : Tb) (id : Nat) (data : List UInt8) (e : Ending) : Prop := e = .returned (.tuple #[.int .i64 (wrN T id data : Int), .int .i64 (wrE T id)]) ∧ TC B w w' tb mb G T (wrT T id data)
theorem twrite_any {B : Nat} {w : World} {tb mb : Nat} {G : Int → SM} {T : Tb} (q : TBuf B w tb mb G T) {id : Nat} (hi : okId id) {dv : Value} {data : List UInt8} (hd : Byts w dv data) (hdl : data.length ≤ 1000000000) :
  Calls Tryz.prog 26 #[.pointer (some ⟨tb, 0, none⟩), .int .u64 (id : Int), dv] w fun e w' => TWrite B w w' tb mb G T id data e := by
 by_cases h0 : outPartE T id = 0
 ·obtain ⟨hz, ⟨o, ho⟩, -⟩ := outPartE_zero h0
  have hs := q.strs _ hz
  have c9 : w.cell? ⟨(G id).sb, 9, none⟩ = some (.bool (T.m id).finished) := hs.blk.cellAt 9 rfl
  have c0 : w.cell? ⟨(G id).sb, 0, none⟩ = some (ptrO (G id).ob (T.m id).out) := hs.blk.cellAt 0 rfl
  rw [ho] at c0
  unfold ptrO at c0
  have HP := Lib.hid (outPart_ok q hi h0)
  have HQ := Lib.hid q
  cases hf : (T.m id).finished with
  | true =>
   rw [hf] at c9
   have HE : Hid (wrE T id = 8) := Lib.hid (by unfold wrE; rw [if_neg (by simpa using h0), if_pos hf])
   clear hs hf ho hz h0 q hd
   go_enter Tryz.func26, Tryz.ntmps26
   go_wp2_with (first
    | (go_at_call 43; (with_reducible refine HP.out.mono ?_); rintro e w1 ⟨rfl, rfl⟩)
    | fail)
   go_ret2
   unfold TWrite wrN wrT
   rw [HE.out, if_neg (by decide), if_neg (by decide)]
   exact ⟨rfl, HQ.out.tc (Mod.refl _ _)⟩
  | false =>
   rw [hf] at c9
   have HE : Hid (wrE T id = 0) := Lib.hid (by unfold wrE; rw [if_neg (by simpa using h0), if_neg (by rw [hf]; decide)])
   have HW := Lib.hid (owrite_any (hs.out o ho) hd hdl)
   have HO := Lib.hid ho
   have HZ := Lib.hid hz
   clear hs hf ho hz h0 q hd
   go_enter Tryz.func26, Tryz.ntmps26
   go_wp2_with (first
    | (go_at_call 43; (with_reducible refine HP.out.mono ?_); rintro e w1 ⟨rfl, rfl⟩)
    | (go_at_call 44; (with_reducible refine HW.out.mono ?_); rintro e w1 ⟨rfl, hoc⟩; have HOC := Lib.hid hoc; clear hoc)
    | fail)
   go_ret2
   obtain ⟨g', hsc⟩ := (HQ.out.strs _ HZ.out).outS HO.out HOC.out
   unfold TWrite wrN wrT
   rw [HE.out, if_pos rfl, if_pos rfl, HO.out]
   exact ⟨rfl, hsc.table HQ.out HZ.out⟩
 ·have HE : Hid (wrE T id = outPartE T id) := Lib.hid (by unfold wrE; rw [if_pos h0])
  have HN : Hid (¬ outPartE T id = 0) := Lib.hid h0
  obtain ⟨z, hz⟩ : ∃ z, outPartE T id = z := ⟨_, rfl⟩
  have HP := Lib.hid (outPart_no q hi z hz (by rw [← hz]; exact h0))
  have t0 : (z != 0) = true := by rw [← hz]; simpa using h0
  have HQ := Lib.hid q
  have HZ := Lib.hid hz
  clear q h0 hd hz
  go_enter Tryz.func26, Tryz.ntmps26
  go_wp2_with (first
   | (go_at_call 43; (with_reducible refine HP.out.mono ?_); rintro e w1 ⟨rfl, rfl⟩)
   | fail)
  go_ret2
  unfold TWrite wrN wrT
  rw [HE.out, if_neg HN.out, if_neg HN.out, HZ.out]
  exact ⟨rfl, HQ.out.tc (Mod.refl _ _)⟩
def fnE (T : Tb) (id : Nat) : Int := if outPartE T id ≠ 0 then outPartE T id else if ((T.m id).out.map (fun o => o.fin)).getD false then 8 else 0
def fnT (T : Tb) (id : Nat) : Tb := if fnE T id = 0 then { T with m := updM T.m id { T.m id with out := (T.m id).out.map (fun o => { o with fin := true }), finished := true } } else T
def TErr (B : Nat) (w w' : World) (tb mb : Nat) (G : Int → SM) (T T' : Tb) (z : Int) (e : Ending) : Prop := e = .returned (.int .i64 z) ∧ TC B w w' tb mb G T T'
theorem updM_twice {f : Int → St} {z : Int} {s t : St} : updM (updM f z s) z t = updM f z t := by
 funext y
 unfold updM
 split <;> rfl
theorem TBuf.congr {B : Nat} {w : World} {tb mb : Nat} {G : Int → SM} {T T' : Tb} (q : TBuf B w tb mb G T) (h : T = T') : TBuf B w tb mb G T' := h ▸ q
theorem tfinish_any {B : Nat} {w : World} {tb mb : Nat} {G : Int → SM} {T : Tb} (q : TBuf B w tb mb G T) {id : Nat} (hi : okId id) :
  Calls Tryz.prog 29 #[.pointer (some ⟨tb, 0, none⟩), .int .u64 (id : Int)] w fun e w' => TErr B w w' tb mb G T (fnT T id) (fnE T id) e := by
 by_cases h0 : outPartE T id = 0
 ·obtain ⟨hz, ⟨o, ho⟩, -⟩ := outPartE_zero h0
  have hs := q.strs _ hz
  have c0 : w.cell? ⟨(G id).sb, 0, none⟩ = some (ptrO (G id).ob (T.m id).out) := hs.blk.cellAt 0 rfl
  rw [ho] at c0
  unfold ptrO at c0
  have HP := Lib.hid (outPart_ok q hi h0)
  have HQ := Lib.hid q
  have HW := Lib.hid (ofinish_any (hs.out o ho))
  have HO := Lib.hid ho
  have HZ := Lib.hid hz
  have HF : Hid (∀ w1, OC B w w1 (G id).ob (G id).bv (G id).sv { o with fin := true } → ∃ g', SC B w w1 (G id) g' (T.m id) { T.m id with out := some { o with fin := true } } ∧ w1.frozen? ⟨(G id).sb, 9, none⟩ = false ∧ (w1.cell? ⟨(G id).sb, 9, none⟩) = some (.bool (T.m id).finished)) := Lib.hid (fun w1 h => by
   obtain ⟨g', hsc⟩ := hs.outS ho h
   refine ⟨g', hsc, ?_, ?_⟩
   ·rw [← hsc.2.1]; exact hsc.1.blk.free 9
   ·rw [← hsc.2.1]; exact hsc.1.blk.cellAt 9 rfl)
  cases hf : o.fin with
  | true =>
   have HE : Hid (fnE T id = 8) := Lib.hid (by unfold fnE; rw [if_neg (by simpa using h0), ho, if_pos (by simpa using hf)])
   rw [hf] at HW
   have HOF : Hid ({ o with fin := true } = o) := Lib.hid (by cases o; simp at hf; subst hf; rfl)
   clear hs hf ho hz h0 q
   go_enter Tryz.func29, Tryz.ntmps29
   go_wp2_with (first
    | (go_at_call 43; (with_reducible refine HP.out.mono ?_); rintro e w1 ⟨rfl, rfl⟩)
    | (go_at_call 51; (with_reducible refine HW.out.mono ?_); rintro e w1 ⟨rfl, hoc⟩; have HOC := Lib.hid hoc; clear hoc)
    | fail)
   go_ret
   obtain ⟨g', hsc, -⟩ := HF.out _ HOC.out
   have ht := hsc.table HQ.out HZ.out
   have e1 : ({ T with m := updM T.m id { T.m id with out := some { o with fin := true } } } : Tb) = T := by
    rw [HOF.out, ← HO.out]
    have : updM T.m id (T.m id) = T.m := by
     funext y
     unfold updM
     split
     ·rename_i h; rw [h]
     ·rfl
    rw [this]
   rw [e1] at ht
   unfold TErr fnT
   rw [HE.out, if_neg (by decide)]
   exact ⟨rfl, ht⟩
  | false =>
   have HE : Hid (fnE T id = 0) := Lib.hid (by unfold fnE; rw [if_neg (by simpa using h0), ho, if_neg (by simp [hf])])
   rw [hf] at HW
   clear hs hf ho hz h0 q
   go_enter Tryz.func29, Tryz.ntmps29
   go_wp2_with (first
    | (go_at_call 43; (with_reducible refine HP.out.mono ?_); rintro e w1 ⟨rfl, rfl⟩)
    | (go_at_call 51; (with_reducible refine HW.out.mono ?_); rintro e w1 ⟨rfl, hoc⟩; obtain ⟨g', hsc, f9, k9⟩ := HF.out _ hoc; have HSC := Lib.hid hsc; clear hoc hsc)
    | fail)
   go_ret
   have h9 := HSC.out.1.cell 9 (.bool true) (s' := { T.m id with out := some { o with fin := true }, finished := true }) rfl rfl rfl (fun _ => rfl) HSC.out.1.num
   rw [HSC.out.2.1] at h9
   have ht := (HSC.out.trans h9).table HQ.out HZ.out
   unfold TErr fnT
   rw [HE.out, if_pos rfl, HO.out]
   exact ⟨rfl, ht⟩
 ·have HE : Hid (fnE T id = outPartE T id) := Lib.hid (by unfold fnE; rw [if_pos h0])
  have HN : Hid (¬ outPartE T id = 0) := Lib.hid h0
  obtain ⟨z, hz⟩ : ∃ z, outPartE T id = z := ⟨_, rfl⟩
  have HP := Lib.hid (outPart_no q hi z hz (by rw [← hz]; exact h0))
  have t0 : (z != 0) = true := by rw [← hz]; simpa using h0
  have HQ := Lib.hid q
  have HZ := Lib.hid hz
  clear q h0 hz
  go_enter Tryz.func29, Tryz.ntmps29
  go_wp2_with (first
   | (go_at_call 43; (with_reducible refine HP.out.mono ?_); rintro e w1 ⟨rfl, rfl⟩)
   | fail)
  go_ret
  unfold TErr fnT
  rw [HE.out, if_neg HN.out, HZ.out]
  exact ⟨rfl, HQ.out.tc (Mod.refl _ _)⟩
def inOf (T : Tb) (id : Nat) : IB := ((T.m id).inn).getD (newI 0)
def rdB (T : Tb) (id : Nat) (n : Int) : List UInt8 := if inPartE T id = 0 then readB (inOf T id) n else []
def rdD (T : Tb) (id : Nat) (n : Int) : Bool := if inPartE T id = 0 then doneI (readI (inOf T id) n) else false
def rdS (s : St) (o : IB) (k : Nat) : St := if k = 0 then { s with inn := some o } else { s with inn := some o, taken := s.taken + k, tM := true }
def rdT (T : Tb) (id : Nat) (n : Int) : Tb :=
 if inPartE T id = 0 then
  if (rdB T id n).length = 0 then { T with m := updM T.m id (rdS (T.m id) (readI (inOf T id) n) 0) }
  else { T with m := updM T.m id (rdS (T.m id) (readI (inOf T id) n) (rdB T id n).length), read := T.read + (rdB T id n).length, tell := true }
 else T
theorem cnt_le (dom : List Int) : ∀ (m read : Nat), cntI dom read m ≤ m
 | 0, _ => Nat.le_refl _
 | m + 1, read => by
  unfold cntI
  split
  ·have := cnt_le dom m (read + 1); omega
  ·omega
theorem OwnB.keptT {C : Nat} {w1 w2 : World} {v : Value} {l : List UInt8} {S : Nat → Prop} (h : OwnB w1 C v l) (hM : Mod S w1 w2) (hS : ∀ k, S k → k < C) : OwnB w2 C v l := h.keptM hM (fun g hg hs => by
 have := (h.lt g hg).1
 have := hS g hs
 omega)
theorem updG_self (G : Int → SM) (z : Int) : updG G z (G z) = G := by
 funext y
 unfold updG
 split
 ·rename_i h; rw [h]
 ·rfl
def TT (B : Nat) (w w' : World) (tb mb : Nat) (G G' : Int → SM) (T T' : Tb) : Prop := TBuf B w' tb mb G' T' ∧ (∀ k, TS tb mb G' T' k → TS tb mb G T k ∨ (w.heap.size ≤ k ∧ k < w'.heap.size)) ∧ Mod (TS tb mb G T) w w'
def TRead (B : Nat) (w w' : World) (tb mb : Nat) (G : Int → SM) (T : Tb) (id : Nat) (n : Int) (e : Ending) : Prop :=
 ∃ v, e = .returned (.tuple #[v, .bool (rdD T id n), .int .i64 (inPartE T id)]) ∧ OwnB w' w.heap.size v (rdB T id n) ∧ TT B w w' tb mb G G T (rdT T id n)
theorem TT.tc {B : Nat} {w w' : World} {tb mb : Nat} {G G' : Int → SM} {T T' : Tb} (h : TT B w w' tb mb G G' T T') : TC B w w' tb mb G T T' := ⟨G', h⟩
theorem TT.trans {B : Nat} {w w1 w2 : World} {tb mb : Nat} {G G1 G2 : Int → SM} {T T1 T2 : Tb} (h1 : TT B w w1 tb mb G G1 T T1) (h2 : TT B w1 w2 tb mb G1 G2 T1 T2) : TT B w w2 tb mb G G2 T T2 := by
 obtain ⟨-, ha, hm⟩ := h1
 obtain ⟨q2, hb, hm2⟩ := h2
 refine ⟨q2, fun k hk => ?_, hm.trans' hm2 (fun i hi h => ?_)⟩
 ·rcases hb k hk with h | h
  ·rcases ha k h with h | h
   ·exact .inl h
   ·exact .inr ⟨h.1, Nat.lt_of_lt_of_le h.2 hm2.size⟩
  ·exact .inr ⟨Nat.le_trans hm.size h.1, h.2⟩
 ·rcases ha i h with h | h
  ·exact h
  ·exact absurd hi (Nat.not_lt.2 h.1)
theorem TBuf.stay {B : Nat} {w w' : World} {tb mb : Nat} {G : Int → SM} {T : Tb} (q : TBuf B w tb mb G T) (hM : Mod (fun _ => False) w w') : TT B w w' tb mb G G T T := ⟨q.still hM, fun _ h => .inl h, hM.mono (fun _ _ h => h.elim)⟩
theorem SC.tt {B : Nat} {w w' : World} {tb mb : Nat} {G : Int → SM} {T : Tb} (q : TBuf B w tb mb G T) {z : Int} (hz : z ∈ T.dom) {s' : St} (h : SC B w w' (G z) (G z) (T.m z) s') : TT B w w' tb mb G G T { T with m := updM T.m z s' } := by
 have := q.upd hz h.1 h.2.1 h.2.2.1 h.2.2.2
 rw [updG_self] at this
 exact this
theorem TBuf.setTT {B : Nat} {w : World} {tb mb : Nat} {G : Int → SM} {T : Tb} (q : TBuf B w tb mb G T) (T' : Tb) (j : Nat) (v : Value) (hd : T'.dom = T.dom) (hm : T'.m = T.m) (ho : T'.own = T.own) (hcl : T'.client = T.client) (hc : (tailL mb T).set j v = tailL mb T') (hn : T'.own.i ≤ 4611686018427387904 ∧ T'.own.d ≤ 100000 ∧ T'.own.s ≤ 100000 ∧ T'.own.n ≤ 1152921504606846976 ∧ T'.op0 ≤ 40 ∧ T'.op1 ≤ 40 ∧ T'.op2 ≤ 40 ∧ T'.op3 ≤ 40 ∧ T'.lim0 ≤ 40 ∧ T'.lim1 ≤ 40 ∧ nat64 T'.stream ∧ nat64 T'.data ∧ nat64 T'.read) :
  TT B w (w.setCell ⟨tb, 22 + j, none⟩ v) tb mb G G T T' := by
 obtain ⟨h1, h2, h3⟩ := q.setT (T' := T') (22 + j) v hd hm (by rw [ho]; exact q.tok) (by
  rw [tbC_set q.tok, hc, ← ho, ← hcl]
  rfl) hn
 exact ⟨h1, fun k hk => .inl (h3 ▸ hk), h2.mono (fun k _ e => .inl e)⟩
theorem read_some {B : Nat} {w w1 : World} {tb mb : Nat} {G : Int → SM} {T : Tb} (q : TBuf B w tb mb G T) {z : Int} (hz : z ∈ T.dom) {o o' : IB} (ho : (T.m z).inn = some o) (h : IC B w w1 (G z).ib (G z).mb o') {L : Nat} (hL : L ≤ 1000000000) (hr1 : T.read ≤ 2000000000) (hr2 : (T.m z).taken ≤ 2000000000) :
  TT B w (w1.setCell ⟨(G z).sb, 13, none⟩ (.int .u64 (((T.m z).taken + L : Nat) : Int))) tb mb G G T { T with m := updM T.m z { T.m z with inn := some o', taken := (T.m z).taken + L } } ∧
  ∃ (v0 : Value) (st : Int) (wm wd : World), (Instr.mapEntry 107 (.map (some (G z).tb)) (.int .i64 17)).run Tryz.prog ((w1.setCell ⟨(G z).sb, 13, none⟩ (.int .u64 (((T.m z).taken + L : Nat) : Int))).setCell ⟨tb, 31, none⟩ (.int .u64 ((T.read + L : Nat) : Int))) = .ok (.tuple #[v0, .int .i64 st]) wm ∧
   (Instr.entryStore 107 (.map (some (G z).tb)) (.int .i64 st) (.bool true)).run Tryz.prog wm = .ok () wd ∧
   TT B w wd tb mb G G T { T with m := updM T.m z { T.m z with inn := some o', taken := (T.m z).taken + L, tM := true }, read := T.read + L } ∧
   TT B w (wd.setCell ⟨tb, 32, none⟩ (.bool true)) tb mb G G T { T with m := updM T.m z { T.m z with inn := some o', taken := (T.m z).taken + L, tM := true }, read := T.read + L, tell := true } ∧ Mod (TS tb mb G T) w1 (wd.setCell ⟨tb, 32, none⟩ (.bool true)) := by
 have hs := q.strs z hz
 have hn := hs.num
 have s1 := hs.inS ho h
 have s2 := s1.1.cell 13 (.int .u64 (((T.m z).taken + L : Nat) : Int)) (s' := { T.m z with inn := some o', taken := (T.m z).taken + L }) rfl rfl rfl (fun _ => rfl) ⟨hn.1, hn.2.1, hn.2.2.1, hn.2.2.2.1, hn.2.2.2.2.1, by show (((T.m z).taken + L : Nat) : Int) ≤ 4611686018427387904; omega⟩
 have t2 := (s1.trans s2).tt q hz
 have qn := q.num
 have t3 := t2.1.setTT { T with m := updM T.m z { T.m z with inn := some o', taken := (T.m z).taken + L }, read := T.read + L } 9 (.int .u64 ((T.read + L : Nat) : Int)) rfl rfl rfl rfl rfl ⟨qn.1, qn.2.1, qn.2.2.1, qn.2.2.2.1, qn.2.2.2.2.1, qn.2.2.2.2.2.1, qn.2.2.2.2.2.2.1, qn.2.2.2.2.2.2.2.1, qn.2.2.2.2.2.2.2.2.1, qn.2.2.2.2.2.2.2.2.2.1, qn.2.2.2.2.2.2.2.2.2.2.1, qn.2.2.2.2.2.2.2.2.2.2.2.1, by show ((T.read + L : Nat) : Int) ≤ 4611686018427387904; omega⟩
 have t23 := t2.trans t3
 have s3 := t23.1.strs z hz
 have e3 : (updM T.m z { T.m z with inn := some o', taken := (T.m z).taken + L }) z = { T.m z with inn := some o', taken := (T.m z).taken + L } := updM_same _ _ _
 have s3' : SBuf B ((w1.setCell ⟨(G z).sb, 13, none⟩ (.int .u64 (((T.m z).taken + L : Nat) : Int))).setCell ⟨tb, 31, none⟩ (.int .u64 ((T.read + L : Nat) : Int))) (G z) { T.m z with inn := some o', taken := (T.m z).taken + L } := by
  rw [← e3]
  exact s3
 obtain ⟨dom, b, ht1, ht2, ht3⟩ := s3'.tell
 obtain ⟨v0, st, wm, wd, hr1, hr2, hI, hM1, hM3⟩ := ht1.entry (z := 17) Tryz.underlying3 (.bool true) (i64_wf (.inr (.inr rfl))) (TellM.size ht1 ht2) Tryz.underlying107 zero_bool
 have s4 := s3'.tellS (z := 17) (b := true) (.inr (.inr rfl)) ht2 ht3 hI hM3
 have t4 := SC.tt (s' := { T.m z with inn := some o', taken := (T.m z).taken + L, tM := true }) t23.1 (z := z) hz (by
  show SC _ _ _ _ _ (updM T.m z { T.m z with inn := some o', taken := (T.m z).taken + L } z) _
  rw [e3]
  exact s4)
 have t5 := t23.trans t4
 have em : ({ ({ T with m := updM T.m z { T.m z with inn := some o', taken := (T.m z).taken + L }, read := T.read + L } : Tb) with m := updM (updM T.m z { T.m z with inn := some o', taken := (T.m z).taken + L }) z { T.m z with inn := some o', taken := (T.m z).taken + L, tM := true } } : Tb) = { T with m := updM T.m z { T.m z with inn := some o', taken := (T.m z).taken + L, tM := true }, read := T.read + L } := by
  rw [updM_twice]
 rw [em] at t5
 refine ⟨t2, v0, st, wm, wd, hr1, hr2, t5, t5.trans (t5.1.setTT { T with m := updM T.m z { T.m z with inn := some o', taken := (T.m z).taken + L, tM := true }, read := T.read + L, tell := true } 10 (.bool true) rfl rfl rfl rfl rfl t5.1.num), ?_⟩
 exact ((((Mod.refl (TS tb mb G T) w1).setCell (p := ⟨(G z).sb, 13, none⟩) (fun _ => .inr (.inr ⟨z, hz, .inl rfl⟩)) _).setCell (p := ⟨tb, 31, none⟩) (fun _ => .inl rfl) _).trans (hM3.mono (fun k _ e => .inr (.inr ⟨z, hz, .inr (.inl e)⟩)))).setCell (p := ⟨tb, 32, none⟩) (fun _ => .inl rfl) _
theorem stIn {B : Nat} {w : World} {tb mb : Nat} {G : Int → SM} {T : Tb} {z : Int} {o : IB} (q : TBuf B w tb mb G T) (hz : z ∈ T.dom) (ho : (T.m z).inn = some o) : w.cell? ⟨(G z).sb, 1, none⟩ = some (.pointer (some ⟨(G z).ib, 0, none⟩)) ∧ IBuf B w (G z).ib (G z).mb o := by
 have h := q.strs z hz
 have c : w.cell? ⟨(G z).sb, 1, none⟩ = some (ptrI (G z).ib (T.m z).inn) := h.blk.cellAt 1 rfl
 rw [ho] at c
 exact ⟨c, h.inn o ho⟩
theorem updM_inn (f : Int → St) (z : Int) (s : St) (o : IB) (h : s.inn = some o) : (updM f z s z).inn = some o := by rw [updM_same]; exact h
set_option maxHeartbeats 2000000 in
theorem tread_any {B : Nat} {w : World} {tb mb : Nat} {G : Int → SM} {T : Tb} (q : TBuf B w tb mb G T) {id : Nat} (hi : okId id) (n : Int) (hn : n ≤ 1000000000) (hr1 : T.read ≤ 2000000000) (hr2 : (T.m id).taken ≤ 2000000000) :
  Calls Tryz.prog 68 #[.pointer (some ⟨tb, 0, none⟩), .int .u64 (id : Int), .int .i64 n] w fun e w' => TRead B w w' tb mb G T id n e := by
 by_cases h0 : inPartE T id = 0
 ·obtain ⟨hz, ⟨o, ho⟩, -⟩ := inPartE_zero h0
  have hs := q.strs _ hz
  have c0 : w.cell? ⟨(G id).sb, 1, none⟩ = some (ptrI (G id).ib (T.m id).inn) := hs.blk.cellAt 1 rfl
  rw [ho] at c0
  unfold ptrI at c0
  have HP := Lib.hid (inPart_ok q hi h0)
  have HQ := Lib.hid q
  have HW := Lib.hid (iread_any (hs.inn o ho) n hn)
  have HO := Lib.hid ho
  have HZ := Lib.hid hz
  have HIO : Hid (inOf T id = o) := Lib.hid (by unfold inOf; rw [ho]; rfl)
  have HBE : Hid (rdB T id n = readB o n ∧ rdD T id n = doneI (readI o n) ∧ inPartE T id = 0) := Lib.hid ⟨by unfold rdB; rw [if_pos h0, HIO.out], by unfold rdD; rw [if_pos h0, HIO.out], h0⟩
  have hbl : (readB o n).length ≤ n.toNat := by
   unfold readB
   rw [rowB_len]
   exact cnt_le _ _ _
  have HBL : Hid ((readB o n).length ≤ 1000000000) := Lib.hid (by omega)
  have HLT : Hid (∀ k, TS tb mb G T k → k < w.heap.size) := Lib.hid (fun k hk => (q.lt k hk).2)
  have HIN : Hid (∀ w1, IC B w w1 (G id).ib (G id).mb (readI o n) → TBuf B w1 tb mb (updG G id (G id)) { T with m := updM T.m id { T.m id with inn := some (readI o n) } } ∧ SC B w w1 (G id) (G id) (T.m id) { T.m id with inn := some (readI o n) }) := Lib.hid (fun w1 h => by
   have hsc := hs.inS ho h
   exact ⟨(q.upd hz hsc.1 hsc.2.1 hsc.2.2.1 hsc.2.2.2).1, hsc⟩)
  have HRS := Lib.hid (fun w1 (h : IC B w w1 (G id).ib (G id).mb (readI o n)) => read_some q hz ho h HBL.out hr1 hr2)
  have HNE : Hid (¬ (G id).sb = tb) := Lib.hid (fun e => (q.tops _ hz _ (.inl rfl)).1 e)
  by_cases hL : (readB o n).length = 0
  ·have HL := Lib.hid hL
   have HDN := Lib.hid (fun w1 (h : IC B w w1 (G id).ib (G id).mb (readI o n)) => idone_any h.1)
   clear hs ho hz h0 q hbl hr1 hr2 hn
   go_enter Tryz.func68, Tryz.ntmps68
   go_wp2_with (first
    | (go_at_call 114; (with_reducible refine HP.out.mono ?_); rintro e w1 ⟨rfl, rfl⟩)
    | (go_at_call 116; (with_reducible refine HW.out.mono ?_); rintro e w1 ⟨v, rfl, hv, hic⟩; obtain ⟨va, vc, rfl, -⟩ := Sl.val hv.byts; rw [hL]; have HV := Lib.hid (And.intro hv hic); have k1 : w1.cell? ⟨(G id).sb, 1, none⟩ = some (.pointer (some ⟨(G id).ib, 0, none⟩)) := (HIN.out _ hic).2.1.blk.cellAt 1 rfl; clear hv hic)
    | (go_at_call 115; (with_reducible refine (HDN.out _ HV.out.2).mono ?_); rintro e w2 ⟨rfl, hM2⟩; have HM2 := Lib.hid hM2; clear hM2)
    | fail)
   go_ret3
   refine ⟨.slice va 0 vc, ?_, ?_, ?_⟩
   ·rw [HBE.out.2.1, HBE.out.2.2]
    rfl
   ·rw [HBE.out.1]
    have := HV.out.1.keptM HM2.out (fun _ _ h => h)
    rw [HL.out] at this
    exact this
   ·unfold rdT rdS
    rw [if_pos HBE.out.2.2, HBE.out.1, if_pos HL.out, if_pos rfl, HIO.out]
    exact (HIN.out _ HV.out.2).2.tt HQ.out HZ.out |>.trans (((HIN.out _ HV.out.2).2.tt HQ.out HZ.out).1.stay HM2.out)
  ·have HL := Lib.hid hL
   have t1 : decide ((0 : Int) < ((readB o n).length : Int)) = true := decide_eq_true (by omega)
   have t1' : decide (0 < (readB o n).length) = true := decide_eq_true (by omega)
   have u1 : IntKind.u64.wrap ((readB o n).length : Int) = ((readB o n).length : Int) := IntWalk.u64_in _ (by have := HBL.out; omega)
   have u2 : IntKind.u64.wrap (((T.m id).taken : Int) + ((readB o n).length : Int)) = (((T.m id).taken + (readB o n).length : Nat) : Int) := by rw [IntWalk.u64_in _ (by have := HBL.out; omega)]; omega
   have u3 : IntKind.u64.wrap ((T.read : Int) + ((readB o n).length : Int)) = ((T.read + (readB o n).length : Nat) : Int) := by rw [IntWalk.u64_in _ (by have := HBL.out; omega)]; omega
   have ne1 := HNE.out
   have ne2 : ¬ tb = (G id).sb := fun e => HNE.out e.symm
   obtain ⟨z1, hz1⟩ : ∃ z1 : Int, z1 = (((T.m id).taken + (readB o n).length : Nat) : Int) := ⟨_, rfl⟩
   obtain ⟨z2, hz2⟩ : ∃ z2 : Int, z2 = ((T.read + (readB o n).length : Nat) : Int) := ⟨_, rfl⟩
   rw [← hz1] at u2
   rw [← hz2] at u3
   rw [← hz1, ← hz2] at HRS
   clear hs ho hz h0 q hbl hr1 hr2 hn hz1 hz2
   generalize hm : (readB o n).length = m at *
   have HMM := Lib.hid hm
   clear hm
   go_enter Tryz.func68, Tryz.ntmps68
   go_wp2_with (first
    | (go_at_call 114; (with_reducible refine HP.out.mono ?_); rintro e w1 ⟨rfl, rfl⟩)
    | (go_at_call 116; (with_reducible refine HW.out.mono ?_); rintro e w1 ⟨v, rfl, hv, hic⟩; obtain ⟨va, vc, rfl, -⟩ := Sl.val hv.byts; rw [HMM.out]; have k13 : w1.cell? ⟨(G id).sb, 13, none⟩ = some (.int .u64 ((T.m id).taken : Int)) := (HIN.out _ hic).2.1.blk.cellAt 13 rfl; have f13 : w1.frozen? ⟨(G id).sb, 13, none⟩ = false := (HIN.out _ hic).2.1.blk.free 13; have k11 : w1.cell? ⟨(G id).sb, 11, none⟩ = some (.map (some (G id).tb)) := (HIN.out _ hic).2.1.blk.cellAt 11 rfl; have l31 : w1.cell? ⟨tb, 31, none⟩ = some (.int .u64 (T.read : Int)) := (HIN.out _ hic).1.cell 9 rfl; have g31 : w1.frozen? ⟨tb, 31, none⟩ = false := (HIN.out _ hic).1.blk.free 31; obtain ⟨-, v0, st, wm, wd, hx1, hx2, htd, hte, hmo⟩ := HRS.out _ hic; have HX1 := Lib.hid hx1; have HX2 := Lib.hid hx2; have HTE := Lib.hid hte; have k32 : wd.cell? ⟨tb, 32, none⟩ = some (.bool T.tell) := htd.1.cell 10 rfl; have g32 : wd.frozen? ⟨tb, 32, none⟩ = false := htd.1.blk.free 32; have k1 : wd.cell? ⟨(G id).sb, 1, none⟩ = some (.pointer (some ⟨(G id).ib, 0, none⟩)) := (stIn htd.1 HZ.out (updM_inn _ _ _ _ rfl)).1; have HDN := Lib.hid (idone_any (stIn hte.1 HZ.out (updM_inn _ _ _ _ rfl)).2); have HV := Lib.hid (And.intro hv hmo); clear hv hic hx1 hx2 htd hte hmo)
    | ((with_reducible refine wpList_val ?_ (exec_entry (m := .tmp 53) (x := .const (.int .i64 17)) ?_ ?_ ?_ HX1.out) ?_); (iterate 4 exact rfl))
    | ((with_reducible refine wpList_skipr ?_ (exec_estore (m := .tmp 53) (x := .tmp 56) (v := .const (.bool true)) ?_ ?_ ?_ ?_ HX2.out) ?_); (iterate 5 exact rfl))
    | (go_at_call 115; (with_reducible refine HDN.out.mono ?_); rintro e w2 ⟨rfl, hM2⟩; have HM2 := Lib.hid hM2; clear hM2)
    | fail)
   go_ret3
   refine ⟨.slice va m vc, ?_, ?_, ?_⟩
   ·rw [HBE.out.2.1, HBE.out.2.2]
    rfl
   ·rw [HBE.out.1]
    have := (HV.out.1.keptT HV.out.2 HLT.out).keptM HM2.out (fun _ _ h => h)
    rw [HMM.out] at this
    exact this
   ·unfold rdT rdS
    rw [if_pos HBE.out.2.2, HBE.out.1, HMM.out, if_neg HL.out, if_neg HL.out, HIO.out]
    exact HTE.out.trans (HTE.out.1.stay HM2.out)
 ·have HE : Hid (¬ inPartE T id = 0) := Lib.hid h0
  obtain ⟨z, hz⟩ : ∃ z, inPartE T id = z := ⟨_, rfl⟩
  have HP := Lib.hid (inPart_no q hi z hz (by rw [← hz]; exact h0))
  have t0 : (z != 0) = true := by rw [← hz]; simpa using h0
  have HQ := Lib.hid q
  have HZ := Lib.hid hz
  clear q h0 hz
  go_enter Tryz.func68, Tryz.ntmps68
  go_wp2_with (first
   | (go_at_call 114; (with_reducible refine HP.out.mono ?_); rintro e w1 ⟨rfl, rfl⟩)
   | fail)
  go_ret3
  refine ⟨.slice none 0 0, ?_, ?_, ?_⟩
  ·unfold rdD
   rw [if_neg HE.out, HZ.out]
   rfl
  ·unfold rdB
   rw [if_neg HE.out]
   exact OwnB.nilI _ _
  ·unfold rdT
   rw [if_neg HE.out]
   exact HQ.out.stay (Mod.refl _ _)
end Go.Proofs.YtahgidkpjmecdaaGreatDoor
set_option maxRecDepth 100000
namespace Go.Proofs.YtahgidkpjmecdaaGreatDoor
open Go.RowKit
theorem ackf_any (x : UInt8) (w : World) : Calls Tryz.prog 111 #[.int .u8 (x.toNat : Int)] w fun e w' => w = w' ∧ e = .returned (.int .u8 ((ackF x).toNat : Int)) := by
 by_cases h : x = 0
 ·subst h
  go_enter Tryz.func111, Tryz.ntmps111
  go_wp2_with fail
  go_ret
  exact ⟨rfl, rfl⟩
 ·have HR : Hid (((ackF x).toNat : Int) = 3) := Lib.hid (by unfold ackF; rw [if_neg h]; rfl)
  have t : ((x.toNat : Int) == 0) = false := by
   simp only [beq_eq_false_iff_ne, ne_eq]
   exact fun e => h (UInt8.toNat_inj.1 (by show x.toNat = 0; omega))
  generalize (x.toNat : Int) = z at *
  go_enter Tryz.func111, Tryz.ntmps111
  go_wp2_with fail
  go_ret
  exact ⟨rfl, by rw [HR.out]; rfl⟩
theorem mapR_over (f : UInt8 → UInt8) (a t : Nat) (s : List UInt8) : mapR f a (min t s.length) s = mapR f a t s := by
 apply List.ext_getElem?
 intro i
 rw [mapR_get, mapR_get]
 cases h : s[i]? with
 | none => rfl
 | some x =>
  have hi := (List.getElem?_eq_some_iff.1 h).1
  rw [Option.map_some, Option.map_some]
  by_cases c : a ≤ i ∧ i < t
  ·rw [if_pos c, if_pos ⟨c.1, by omega⟩]
  ·rw [if_neg c, if_neg (by omega)]
set_option maxHeartbeats 1000000 in
theorem turn_acked {B : Nat} {w : World} {ob : Nat} {bv sv : Value} {o : OB} (q : OBuf B w ob bv sv o) (off n : Nat) (en : Bool) (hn : (n : Int) ≤ 1000000000) :
  Calls Tryz.prog 110 #[.pointer (some ⟨ob, 0, none⟩), .int .u64 (off : Int), .int .i64 (n : Int), .bool en, .func (.func 111) #[] #[]] w fun e w' => e = .returned (.tuple #[]) ∧ OBuf B w' ob bv sv (turnO ackF off n en o) ∧ Mod (OS ob bv sv) w w' := by
 obtain ⟨sa, cap, rfl, hcap, hcm, -⟩ := Sl.val q.s.byts
 have hlen : o.s.length ≤ 2000 := by rw [q.len]; exact q.most
 obtain ⟨A, hA⟩ : ∃ A, A = min off o.s.length := ⟨_, rfl⟩
 obtain ⟨M, hM⟩ : ∃ M, M = min (A + n) o.s.length := ⟨_, rfl⟩
 have HQ := Lib.hid q
 have HT : Hid (turnO ackF off n en o = { o with s := mapR ackF A M o.s, e := if en && o.fin then ackF o.e else o.e }) := Lib.hid (by unfold turnO; rw [hM, mapR_over, hA])
 have c1 : w.cell? ⟨ob, 1, none⟩ = some (.slice sa o.s.length cap) := q.blk.cellAt 1 rfl
 have h1 : IntKind.u64.wrap (o.s.length : Int) = (o.s.length : Int) := IntWalk.u64_in _ (by omega)
 have h2 : min (off : Int) (o.s.length : Int) = (A : Int) := by omega
 have h3 : IntKind.i64.wrap (A : Int) = (A : Int) := IntWalk.i64_in _ (by omega)
 have HL := Lib.hid (And.intro hlen (And.intro hcap (And.intro hA hM)))
 have n1 : (A : Int) ≤ 2000 := by omega
 have n2 : (0 : Int) ≤ (A : Int) := by omega
 have n3 : (o.s.length : Int) ≤ 2000 := by omega
 clear q hlen hcap hcm hA hM
 go_enter Tryz.func110, Tryz.ntmps110
 go_wp2_with fail
 clear h1 h2 h3
 go_loopw [11] (fun i wr => ∃ k : Nat, (A ≤ k ∧ k ≤ M) ∧ i = .int .i64 (k : Int) ∧ Hid (OBuf B wr ob bv (.slice sa o.s.length cap) { o with s := mapR ackF A k o.s } ∧ Mod (OS ob bv (.slice sa o.s.length cap)) w wr)) (fun i _ => M - (intOf i).toNat)
 case atStart =>
  refine ⟨A, ⟨Nat.le_refl _, by have := HL.out; omega⟩, rfl, Lib.hid ⟨?_, Mod.refl _ _⟩⟩
  rw [mapR_nil _ _ _ _ (Nat.le_refl _)]
  exact HQ.out
 case round =>
  obtain ⟨k, hk, rfl, HI⟩ := hrel
  have HK := Lib.hid hk
  have k0 : (0 : Int) ≤ (k : Int) := by omega
  have k1 : (k : Int) ≤ 2000 := by have := HL.out; omega
  have k2 : IntKind.i64.wrap ((k : Int) - (A : Int)) = (k : Int) - (A : Int) := IntWalk.i64_in _ (by omega)
  have c1 : wr.cell? ⟨ob, 1, none⟩ = some (.slice sa o.s.length cap) := HI.out.1.blk.cellAt 1 rfl
  by_cases hkt : k < M
  ·have hkn : k < o.s.length := by have := HL.out; omega
   obtain ⟨g, hg⟩ : ∃ g, sa = some ⟨g, 0, none⟩ := by
    rcases HI.out.1.s.2 with ⟨-, h⟩ | ⟨g, cap', cur, he, _⟩
    ·have h' : (mapR ackF A k o.s).length = 0 := h
     rw [mapR_len] at h'
     omega
    ·simp only [Value.slice.injEq] at he
     exact ⟨g, he.1⟩
   subst hg
   obtain ⟨x, hx⟩ : ∃ x, o.s[k]? = some x := ⟨_, List.getElem?_eq_getElem hkn⟩
   have hp := HI.out.1.s.place (i := k) (x := x) (by dsimp only; rw [mapR_at]; exact hx)
   have HX := Lib.hid hx
   have z1 : (k : Int) < (o.s.length : Int) := by omega
   have z2 : decide ((k : Int) - (A : Int) < (n : Int)) = true := by have := HL.out; simp; omega
   have HMD : Hid (Mod (fun _ => False) wr wr.drew) := Lib.hid (Mod.refl _ _).drew
   have d1 := HMD.out.cellAt c1 (fun e => e)
   have HG : Hid (wr.drew.heap = wr.heap) := Lib.hid rfl
   have p1 := HMD.out.cellAt hp.1 (fun e => e)
   have HF := Lib.hid (HI.out.1.still HMD.out)
   have p2 := (HF.out.s.place (i := k) (x := x) (by dsimp only; rw [mapR_at]; exact hx)).2
   have CF := Lib.hid (fun X => ackf_any x X)
   have HMW := Lib.hid (HI.out.2.trans (HMD.out.mono (fun _ _ h => h.elim)))
   have HKT := Lib.hid hkt
   clear hx hk hkn hp hkt
   generalize o.s.length = n' at *
   generalize (x.toNat : Int) = z at *
   go_upto_region 5 with fail
   clear c1 HI
   refine wp_region_last (S := fun X => wr.drew = X) 15 (by kernel_rfl) rfl (fun hS => ?_)
   generalize wr.drew = Y at *
   refine' tkL 0 _ (some 40) rfl rfl (by kernel_rfl) (fun _ _ _ => id) (Or.inl ⟨by rfl, fun X hX => ?_⟩) hS ?_; rotate_left
   ·go_simp; exact rfl
   (try go_frame); refine' tkL 1 _ (some 41) rfl rfl (by kernel_rfl) (fun _ _ _ => id) (Or.inl ⟨by rfl, fun X hX => ?_⟩) hS ?_; rotate_left
   ·go_simp; exact rfl
   (try go_frame); refine' tkL 2 _ (some 42) rfl rfl (by kernel_rfl) (fun _ _ _ => id) (Or.inl ⟨by rfl, fun X hX => ?_⟩) hS ?_; rotate_left
   ·go_simp; exact rfl
   (try go_frame); refine' tkL 3 _ (some 43) rfl rfl (by kernel_rfl) (fun _ _ _ => id) (Or.inl ⟨by rfl, fun X hX => ?_⟩) hS ?_; rotate_left
   ·have hX := (show Y = X from hX); subst hX; go_simp; exact rfl
   (try go_frame); refine' tkL 4 _ (some 44) rfl rfl (by kernel_rfl) (fun _ _ _ => id) (Or.inl ⟨by rfl, fun X hX => ?_⟩) hS ?_; rotate_left
   ·go_simp; exact rfl
   (try go_frame); refine' tkL 5 _ (some 45) rfl rfl (by kernel_rfl) (fun _ _ _ => id) (Or.inl ⟨by rfl, fun X hX => ?_⟩) hS ?_; rotate_left
   ·go_simp; exact rfl
   (try go_frame); refine' tkL 6 _ (some 46) rfl rfl (by kernel_rfl) (fun _ _ _ => id) (Or.inl ⟨by rfl, fun X hX => ?_⟩) hS ?_; rotate_left
   ·go_simp; exact rfl
   (try go_frame); refine' tkL 7 _ (some 47) rfl rfl (by kernel_rfl) (fun _ _ _ => id) (Or.inl ⟨by rfl, fun X hX => ?_⟩) hS ?_; rotate_left
   ·go_simp; exact rfl
   (try go_frame); refine' tkL 8 _ (some 48) rfl rfl (by kernel_rfl) (fun _ _ _ => id) (Or.inl ⟨by rfl, fun X hX => ?_⟩) hS ?_; rotate_left
   ·go_simp; exact rfl
   (try go_frame); refine' tkL 9 _ (some 49) rfl rfl (by kernel_rfl) (fun _ _ _ => id) (Or.inl ⟨by rfl, fun X hX => ?_⟩) hS ?_; rotate_left
   ·have hX := (show Y = X from hX); subst hX; go_simp; exact rfl
   (try go_frame); refine' tkL 10 _ (some 50) rfl rfl (by kernel_rfl) (fun _ _ _ => id) (Or.inl ⟨by rfl, fun X hX => ?_⟩) hS ?_; rotate_left
   ·go_simp; exact rfl
   (try go_frame); refine' tkL 11 _ (some 51) rfl rfl (by kernel_rfl) (fun _ _ _ => id) (Or.inl ⟨by rfl, fun X hX => ?_⟩) hS ?_; rotate_left
   ·go_simp; exact rfl
   (try go_frame); refine' tkL 12 _ (some 52) rfl rfl (by kernel_rfl) (fun _ _ _ => id) (Or.inl ⟨by rfl, fun X hX => ?_⟩) hS ?_; rotate_left
   ·have hX := (show Y = X from hX); subst hX; go_simp; exact rfl
   (try go_frame); refine wpAnyL.ready (rs := [13]) (by kernel_rfl) (by simp) ?_
   refine (AllReadyL.cons (o := ⟨some 53, _, _, _, _, none⟩) rfl (by decide) (fun K hK => ?_) AllReadyL.nil)
   go_simp
   refine (CF.out Y).mono ?_
   rintro e w2 ⟨rfl, rfl⟩
   refine hK.out _ _ rfl (fun hS => ?_)
   clear hK K
   refine' tkL 14 _ (some 54) rfl rfl (by kernel_rfl) (fun _ _ _ => id) (Or.inl ⟨by rfl, fun X hX => ?_⟩) hS ?_; rotate_left
   ·go_simp; exact rfl
   (try go_frame); refine wpAnyL.ready (rs := [15]) (by kernel_rfl) (by simp) ?_
   refine AllReadyL.closing (o := ⟨none, _, _, _, _, none⟩) rfl (fun K hK => ?_)
   go_simp
   refine hK.out _ _ ?_
   clear hK K
   refine wpAnyL.done (by kernel_rfl) ?_ _
   go_wp2_with fail
   go_roundw
   case rel =>
    exact ⟨k + 1, ⟨by have := HK.out; omega, HKT.out⟩, by go_num, Lib.hid ⟨HF.out.mark ackF A HK.out.1 rfl HX.out, HMW.out.setCell (p := ⟨g, k, none⟩) (fun _ => .inr (.inr rfl)) _⟩⟩
   case measure => have := HKT.out; simp [intOf]; omega
  ·obtain rfl : k = M := by omega
   have c2 : wr.cell? ⟨ob, 2, none⟩ = some (.bool o.fin) := HI.out.1.blk.cellAt 2 rfl
   have c3 : wr.cell? ⟨ob, 3, none⟩ = some (.int .u8 (o.e.toNat : Int)) := HI.out.1.blk.cellAt 3 rfl
   have f3 : wr.frozen? ⟨ob, 3, none⟩ = false := HI.out.1.blk.free 3
   have CF := Lib.hid (fun X => ackf_any o.e X)
   have HE := Lib.hid (HI.out.1.endE (ackF o.e))
   have HMS : Hid (∀ v, Mod (OS ob bv (.slice sa o.s.length cap)) w (wr.setCell ⟨ob, 3, none⟩ v)) := Lib.hid (fun v => HI.out.2.setCell (p := ⟨ob, 3, none⟩) (fun _ => .inl rfl) v)
   have t1 : decide ((k : Int) < (o.s.length : Int)) = true ∧ decide ((k : Int) - (A : Int) < (n : Int)) = false ∨ decide ((k : Int) < (o.s.length : Int)) = false := by
    by_cases h : k < o.s.length
    ·have := HL.out; exact .inl ⟨by simp; omega, by simp; omega⟩
    ·exact .inr (by simp; omega)
   have t2 : decide (k < o.s.length) = decide ((k : Int) < (o.s.length : Int)) := by simp
   have HTT := Lib.hid t2
   clear hk hkt t2
   rcases t1 with ⟨t1, t1'⟩ | t1
   all_goals (
    have t2 := HTT.out.trans t1
    cases en with
    | false =>
     go_wp2_with fail
     go_end0
     rw [HT.out]
     exact ⟨rfl, HI.out.1, HI.out.2⟩
    | true =>
     cases hf : o.fin with
     | false =>
      rw [hf] at c2
      have HH := Lib.hid hf
      clear hf
      go_wp2_with fail
      go_end0
      rw [HT.out, HH.out]
      exact ⟨rfl, by have := HI.out.1; rw [HH.out] at *; exact this, HI.out.2⟩
     | true =>
      rw [hf] at c2
      have HH := Lib.hid hf
      clear hf
      go_wp2_with (first
       | (go_at_call 111; (with_reducible refine (CF.out _).mono ?_); rintro e w2 ⟨rfl, rfl⟩)
       | fail)
      go_end0
      rw [HT.out, HH.out]
      exact ⟨rfl, by have := HE.out; rw [HH.out] at *; exact this, HMS.out _⟩)
theorem oacked_any {B : Nat} {w : World} {ob : Nat} {bv sv : Value} {o : OB} (q : OBuf B w ob bv sv o) (off n : Nat) (en : Bool) (hn : (n : Int) ≤ 1000000000) :
  Calls Tryz.prog 63 #[.pointer (some ⟨ob, 0, none⟩), .int .u64 (off : Int), .int .i64 (n : Int), .bool en] w fun e w' => e = .returned (.tuple #[]) ∧ OBuf B w' ob bv sv (turnO ackF off n en o) ∧ Mod (OS ob bv sv) w w' := by
 have HC := Lib.hid (turn_acked q off n en hn)
 clear q hn
 go_enter Tryz.func63, Tryz.ntmps63
 go_wp2_with (first
  | (go_at_call 110; (with_reducible refine HC.out.mono ?_); rintro e w2 ⟨rfl, hq, hM⟩; have HR := Lib.hid (And.intro hq hM); clear hq hM)
  | fail)
 go_end0
 exact ⟨rfl, HR.out.1, HR.out.2⟩
end Go.Proofs.YtahgidkpjmecdaaGreatDoor
