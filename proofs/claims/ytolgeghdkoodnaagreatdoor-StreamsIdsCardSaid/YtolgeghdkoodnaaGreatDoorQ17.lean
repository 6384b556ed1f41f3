/- Parts of the proof: StI StJ. -/
import Derived.Test.YtolgeghdkoodnaaGreatDoorQ16
set_option maxRecDepth 100000
namespace Go.Proofs.YtolgeghdkoodnaaGreatDoor
open Go.RowKit Go.Maps
theorem IBuf.base {B B' : Nat} {w : World} {ib mb : Nat} {o : IB} (q : IBuf B w ib mb o) (h : B' ≤ B) : IBuf B' w ib mb o := ⟨Nat.le_trans h q.at0, Nat.le_trans h q.at1, q.blk, q.map, q.doms, q.ok⟩
theorem OwnB.base {B B' : Nat} {w : World} {v : Value} {l : List UInt8} (q : OwnB w B v l) (h : B' ≤ B) : OwnB w B' v l := by
 rcases q with ⟨h1, h2 | ⟨g, cap, cur, h2, h3, h4⟩⟩
 ·exact ⟨h1, .inl h2⟩
 ·exact ⟨h1, .inr ⟨g, cap, cur, h2, by omega, h4⟩⟩
theorem OBuf.base {B B' : Nat} {w : World} {ob : Nat} {bv sv : Value} {o : OB} (q : OBuf B w ob bv sv o) (h : B' ≤ B) : OBuf B' w ob bv sv o := { q with at0 := Nat.le_trans h q.at0, b := q.b.base h, s := q.s.base h }
theorem SBuf.putOut {B : Nat} {w w1 : World} {g : SM} {s : St} {ob : Nat} {bv sv : Value} {o : OB} (q : SBuf B w g s) (hB : B ≤ w.heap.size) (hM : Mod (fun _ => False) w w1) (hO : OBuf w.heap.size w1 ob bv sv o) :
  SC B w (w1.setCell ⟨g.sb, 0, none⟩ (.pointer (some ⟨ob, 0, none⟩))) g { g with ob := ob, bv := bv, sv := sv } s { s with out := some o } := by
 have hM2 : Mod (fun k => k = g.sb) w (w1.setCell ⟨g.sb, 0, none⟩ (.pointer (some ⟨ob, 0, none⟩))) := (hM.mono (T := fun k => k = g.sb) (fun _ _ h => h.elim)).setCell (p := ⟨g.sb, 0, none⟩) (fun _ => rfl) _
 have hM1 : Mod (fun k => k = g.sb) w1 (w1.setCell ⟨g.sb, 0, none⟩ (.pointer (some ⟨ob, 0, none⟩))) := (Mod.refl (fun k => k = g.sb) _).setCell (p := ⟨g.sb, 0, none⟩) (fun _ => rfl) _
 have hlt := q.lt
 have hsb := (hlt g.sb (.inl rfl)).2
 have n1 : ∀ k, OS ob bv sv k → w.heap.size ≤ k ∧ k < w1.heap.size := fun k hk => hO.lt k hk
 have hs1 : w1.heap.size ≤ (w1.setCell ⟨g.sb, 0, none⟩ (.pointer (some ⟨ob, 0, none⟩))).heap.size := hM1.size
 refine ⟨⟨q.at0, q.att, ?_, ?_, ?_, ?_, ?_, ?_, ?_, q.ts, q.num⟩, rfl, ?_, hM2.mono (fun k _ e => .inl e)⟩
 ·exact (hM.blk q.blk (fun h => h)).set 0 _
 ·intro o2 h2
  cases h2
  exact (hO.base hB).kept hM1 (fun k hk e => by have := (n1 k hk).1; omega)
 ·intro i hi
  exact (q.inn i hi).kept hM2 (fun k hk e => (q.it k ⟨by rw [show s.inn = some i from hi]; rfl, hk⟩).2 e)
 ·exact q.tell.kept hM2 q.ts
 ·rintro k ⟨-, hk⟩ hk2
  have := (n1 k hk).1
  have := (hlt k (.inr (.inr (.inr hk2)))).2
  omega
 ·rintro k ⟨-, hk⟩
  have := (n1 k hk).1
  have h1 := (hlt g.tb (.inr (.inl rfl))).2
  exact ⟨by show k ≠ g.tb; omega, by show k ≠ g.sb; omega⟩
 ·exact q.it
 ·rintro k (e | e | ⟨-, e⟩ | e)
  ·exact .inl (.inl e)
  ·exact .inl (.inr (.inl e))
  ·exact .inr ⟨(n1 k e).1, Nat.lt_of_lt_of_le (n1 k e).2 hs1⟩
  ·exact .inl (.inr (.inr (.inr e)))
theorem SBuf.putIn {B : Nat} {w w1 : World} {g : SM} {s : St} {ib mb : Nat} {o : IB} (q : SBuf B w g s) (hM : Mod (fun _ => False) w w1) (hO : IBuf B w1 ib mb o) (hap : ∀ k, IS ib mb k → ¬ SS g s k) :
  SBuf B (w1.setCell ⟨g.sb, 1, none⟩ (.pointer (some ⟨ib, 0, none⟩))) { g with ib := ib, mb := mb } { s with inn := some o } ∧ Mod (fun k => k = g.sb) w (w1.setCell ⟨g.sb, 1, none⟩ (.pointer (some ⟨ib, 0, none⟩))) := by
 have hM2 : Mod (fun k => k = g.sb) w (w1.setCell ⟨g.sb, 1, none⟩ (.pointer (some ⟨ib, 0, none⟩))) := (hM.mono (T := fun k => k = g.sb) (fun _ _ h => h.elim)).setCell (p := ⟨g.sb, 1, none⟩) (fun _ => rfl) _
 have hM1 : Mod (fun k => k = g.sb) w1 (w1.setCell ⟨g.sb, 1, none⟩ (.pointer (some ⟨ib, 0, none⟩))) := (Mod.refl (fun k => k = g.sb) _).setCell (p := ⟨g.sb, 1, none⟩) (fun _ => rfl) _
 refine ⟨⟨q.at0, q.att, ?_, ?_, ?_, ?_, ?_, ?_, ?_, q.ts, q.num⟩, hM2⟩
 ·exact (hM.blk q.blk (fun h => h)).set 1 _
 ·intro o2 h2
  exact (q.out o2 h2).kept hM2 (fun k hk e => (q.ot k ⟨by rw [show s.out = some o2 from h2]; rfl, hk⟩).2 e)
 ·intro i hi
  cases hi
  exact hO.kept hM1 (fun k hk e => hap k hk (.inl e))
 ·exact q.tell.kept hM2 q.ts
 ·rintro k hk ⟨-, hk2⟩
  exact hap k hk2 (.inr (.inr (.inl hk)))
 ·exact q.ot
 ·rintro k ⟨-, hk⟩
  exact ⟨fun e => hap k hk (.inr (.inl e)), fun e => hap k hk (.inl e)⟩
theorem SBuf.putInS {B : Nat} {w w1 : World} {g : SM} {s : St} {ib mb : Nat} {o : IB} (q : SBuf B w g s) (hB : B ≤ w.heap.size) (hM : Mod (fun _ => False) w w1) (hO : IBuf w.heap.size w1 ib mb o) :
  SC B w (w1.setCell ⟨g.sb, 1, none⟩ (.pointer (some ⟨ib, 0, none⟩))) g { g with ib := ib, mb := mb } s { s with inn := some o } := by
 have hlt := q.lt
 obtain ⟨h1, h2⟩ := q.putIn hM (hO.base hB) (fun k hk hs => by have := (hO.lt k hk).1; have := (hlt k hs).2; omega)
 refine ⟨h1, rfl, ?_, h2.mono (fun k _ e => .inl e)⟩
 have hs1 : w1.heap.size ≤ (w1.setCell ⟨g.sb, 1, none⟩ (.pointer (some ⟨ib, 0, none⟩))).heap.size := by simp [World.setCell]
 rintro k (e | e | e | ⟨-, e⟩)
 ·exact .inl (.inl e)
 ·exact .inl (.inr (.inl e))
 ·exact .inl (.inr (.inr (.inl e)))
 ·exact .inr ⟨(hO.lt k e).1, Nat.lt_of_lt_of_le (hO.lt k e).2 hs1⟩
theorem TBuf.add {B : Nat} {w w1 w2 : World} {tb mb : Nat} {G : Int → SM} {T : Tb} (q : TBuf B w tb mb G T) {z : Int} (hz : z ∉ T.dom) (hid : 0 ≤ z ∧ z < 4611686018427387912) {g : SM} {s : St} (hM : Mod (fun _ => False) w w1) (hS : SBuf B w1 g s) (hf : ∀ k, SS g s k → w.heap.size ≤ k)
  (hI : IMap 26 .u64 w2 mb (putD z T.dom) (putF z (.pointer (some ⟨g.sb, 0, none⟩)) (fun z => .pointer (some ⟨(G z).sb, 0, none⟩)))) (hM2 : Mod (fun k => k = mb) w1 w2) :
  TT B w w2 tb mb G (updG G z g) T { T with dom := putD z T.dom, m := updM T.m z s } := by
 have hlt := q.lt
 have htb := (hlt tb (.inl rfl)).2
 have hmb := (hlt mb (.inr (.inl rfl))).2
 have q1 := q.still hM
 have hlt1 := hS.lt
 have eg : ∀ y, y ∈ T.dom → updG G z g y = G y := fun y hy => updG_other (fun e => hz (e ▸ hy))
 have em : ∀ y, y ∈ T.dom → updM T.m z s y = T.m y := fun y hy => updM_other (fun e => hz (e ▸ hy))
 have old : ∀ y, y ∈ T.dom → ∀ k, SS (G y) (T.m y) k → k < w.heap.size := fun y hy k hk => (hlt k (.inr (.inr ⟨y, hy, hk⟩))).2
 refine ⟨⟨q.at0, q.atm, hM2.blk q1.blk (fun e => q.mt e.symm), ?_, ?_, ?_, ?_, q.mt, q.tok, ?_, q.num⟩, ?_, ((hM.mono (T := fun k => k = mb) (fun _ _ h => h.elim)).trans hM2).mono (fun k _ e => .inr (.inl e))⟩
 ·have e : (fun y => Value.pointer (some ⟨(updG G z g y).sb, 0, none⟩)) = putF z (.pointer (some ⟨g.sb, 0, none⟩)) (fun z => .pointer (some ⟨(G z).sb, 0, none⟩)) := by
   funext y
   unfold putF updG
   split <;> rfl
  rw [e]
  exact hI
 ·intro y hy
  rcases mem_putD.1 hy with rfl | hyo
  ·rw [updG_same]
   show SBuf B w2 g (updM T.m y s y)
   rw [updM_same]
   exact hS.kept hM2 (fun k hk e => by have := hf k hk; omega)
  ·rw [eg y hyo]
   show SBuf B w2 (G y) (updM T.m z s y)
   rw [em y hyo]
   exact (q1.strs y hyo).kept hM2 (fun k hk e => (q.tops y hyo k hk).2 e)
 ·intro y hy y' hy' hne k hk hk'
  have hk1 : SS (updG G z g y) (updM T.m z s y) k := hk
  have hk2 : SS (updG G z g y') (updM T.m z s y') k := hk'
  rcases mem_putD.1 hy with rfl | hyo
  ·rcases mem_putD.1 hy' with rfl | hyo'
   ·exact hne rfl
   ·rw [updG_same, updM_same] at hk1
    rw [eg y' hyo', em y' hyo'] at hk2
    have := hf k hk1
    have := old y' hyo' k hk2
    omega
  ·rcases mem_putD.1 hy' with rfl | hyo'
   ·rw [updG_same, updM_same] at hk2
    rw [eg y hyo, em y hyo] at hk1
    have := hf k hk2
    have := old y hyo k hk1
    omega
   ·rw [eg y hyo, em y hyo] at hk1
    rw [eg y' hyo', em y' hyo'] at hk2
    exact q.apart y hyo y' hyo' hne k hk1 hk2
 ·intro y hy k hk
  have hk1 : SS (updG G z g y) (updM T.m z s y) k := hk
  rcases mem_putD.1 hy with rfl | hyo
  ·rw [updG_same, updM_same] at hk1
   have := hf k hk1
   exact ⟨by omega, by omega⟩
  ·rw [eg y hyo, em y hyo] at hk1
   exact q.tops y hyo k hk1
 ·intro y hy
  rcases mem_putD.1 hy with rfl | hyo
  ·exact hid
  ·exact q.ids y hyo
 ·rintro k (h | h | ⟨y, hy, hk⟩)
  ·exact .inl (.inl h)
  ·exact .inl (.inr (.inl h))
  ·have hk1 : SS (updG G z g y) (updM T.m z s y) k := hk
   rcases mem_putD.1 hy with rfl | hyo
   ·rw [updG_same, updM_same] at hk1
    exact .inr ⟨hf k hk1, Nat.lt_of_lt_of_le (hlt1 k hk1).2 hM2.size⟩
   ·rw [eg y hyo, em y hyo] at hk1
    exact .inl (.inr (.inr ⟨y, hyo, hk1⟩))
def hasOut (T : Tb) (id : Nat) : Bool := mineB T.client id || !oneWay id
def hasIn (T : Tb) (id : Nat) : Bool := !mineB T.client id || !oneWay id
def st0 (mx : Nat) : St := ⟨none, none, mx, 0, false, false, 0, 0, 0, false, false, false, false, false, false, 0⟩
def newS (T : Tb) (id : Nat) : St := { st0 T.stream with out := if hasOut T id then some (newO 0) else none, inn := if hasIn T id then some (newI T.own.s) else none }
def mkT (T : Tb) (id : Nat) : Tb := { T with dom := putD (id : Int) T.dom, m := updM T.m id (newS T id) }
theorem SBuf.fresh (B : Nat) (w : World) (hB : B ≤ w.heap.size) (mx : Nat) (hx : nat64 mx) : SBuf B ((w.alloc (.map #[] 0)).alloc (.cells (stC ⟨w.heap.size + 1, 0, .slice none 0 0, .slice none 0 0, 0, 0, w.heap.size⟩ (st0 mx)) 81)) ⟨w.heap.size + 1, 0, .slice none 0 0, .slice none 0 0, 0, 0, w.heap.size⟩ (st0 mx) := by
 have hb := Blk.new (w.alloc (.map #[] 0)) (stC ⟨w.heap.size + 1, 0, .slice none 0 0, .slice none 0 0, 0, 0, w.heap.size⟩ (st0 mx)) 81
 rw [World.size_alloc] at hb
 have hi := IMap.made 3 .i64 w (fun _ => .bool false)
 have z0 : nat64 0 := by unfold nat64; omega
 have no : ∀ g k, ¬ SO g (st0 mx) k := fun g k h => by have := h.1; cases this
 have ni : ∀ g k, ¬ SI g (st0 mx) k := fun g k h => by have := h.1; cases this
 refine ⟨by show B ≤ w.heap.size + 1; omega, hB, hb, fun o h => (by cases h), fun o h => (by cases h), ⟨[], fun _ => false, hi.kept (S := fun _ => False) ((Mod.refl _ _).alloc _) (fun h => h), fun z hz => (by cases hz), fun z => ?_⟩, fun k h => (no _ k h).elim, fun k h => (no _ k h).elim, fun k h => (ni _ k h).elim, by show w.heap.size ≠ w.heap.size + 1; omega, hx, z0, z0, z0, z0, z0⟩
 unfold tellF st0
 simp
end Go.Proofs.YtolgeghdkoodnaaGreatDoor
set_option maxRecDepth 100000
namespace Go.Proofs.YtolgeghdkoodnaaGreatDoor
open Go.RowKit Go.Maps
structure FR (B : Nat) (w W : World) (g : SM) (s : St) : Prop where
 mod : Mod (fun _ => False) w W
 buf : SBuf B W g s
 fr : ∀ k, SS g s k → w.heap.size ≤ k
 at0 : B ≤ W.heap.size
theorem FR.out {B : Nat} {w W w1 : World} {g : SM} {s : St} {ob : Nat} {bv sv : Value} {o : OB} (h : FR B w W g s) (hM : Mod (fun _ => False) W w1) (hO : OBuf W.heap.size w1 ob bv sv o) :
  FR B w (w1.setCell ⟨g.sb, 0, none⟩ (.pointer (some ⟨ob, 0, none⟩))) { g with ob := ob, bv := bv, sv := sv } { s with out := some o } := by
 have hsc := h.buf.putOut h.at0 hM hO
 refine ⟨h.mod.trans' hsc.2.2.2 (fun k hk e => by have := h.fr k e; omega), hsc.1, fun k hk => ?_, Nat.le_trans h.at0 hsc.2.2.2.size⟩
 rcases hsc.2.2.1 k hk with e | e
 ·exact h.fr k e
 ·have := h.mod.size; omega
theorem FR.inn {B : Nat} {w W w1 : World} {g : SM} {s : St} {ib mb : Nat} {o : IB} (h : FR B w W g s) (hM : Mod (fun _ => False) W w1) (hO : IBuf W.heap.size w1 ib mb o) :
  FR B w (w1.setCell ⟨g.sb, 1, none⟩ (.pointer (some ⟨ib, 0, none⟩))) { g with ib := ib, mb := mb } { s with inn := some o } := by
 have hsc := h.buf.putInS h.at0 hM hO
 refine ⟨h.mod.trans' hsc.2.2.2 (fun k hk e => by have := h.fr k e; omega), hsc.1, fun k hk => ?_, Nat.le_trans h.at0 hsc.2.2.2.size⟩
 rcases hsc.2.2.1 k hk with e | e
 ·exact h.fr k e
 ·have := h.mod.size; omega
theorem FR.put {B : Nat} {w W : World} {tb mb : Nat} {G : Int → SM} {T : Tb} {g : SM} {s : St} {id : Nat} (q : TBuf B w tb mb G T) (hz : (id : Int) ∉ T.dom) (hi : (id : Int) < 4611686018427387912) (hl : T.dom.length ≤ 1000) (h : FR B w W g s) :
  ∃ w', (Instr.mapUpdate 72 (.map (some mb)) (.int .u64 (id : Int)) (.pointer (some ⟨g.sb, 0, none⟩))).run Tryz.prog W = .ok () w' ∧ TT B w w' tb mb G (updG G id g) T { T with dom := putD (id : Int) T.dom, m := updM T.m id s } := by
 obtain ⟨w', hr, hI, hM⟩ := (q.still h.mod).map.put Tryz.underlying26 (t := 72) (e := 76) (z := (id : Int)) (.pointer (some ⟨g.sb, 0, none⟩)) (u64_wf (by omega)) (by unfold maxLen; omega) Tryz.underlying72
 exact ⟨w', hr, q.add hz ⟨by omega, hi⟩ h.mod h.buf h.fr hI hM⟩
def TMk (B : Nat) (w w' : World) (tb mb : Nat) (G : Int → SM) (T T' : Tb) (id : Nat) (e : Ending) : Prop := ∃ G', e = .returned (.pointer (some ⟨(G' (id : Int)).sb, 0, none⟩)) ∧ TT B w w' tb mb G G' T T'
theorem TBuf.own3 {B : Nat} {w : World} {tb mb : Nat} {G : Int → SM} {T : Tb} (q : TBuf B w tb mb G T) : w.cell? ⟨tb, 3, none⟩ = some (.int .u64 (T.own.s : Int)) ∧ w.cell? ⟨tb, 22, none⟩ = some (.map (some mb)) := ⟨q.blk.cellAt 3 rfl, q.mapc⟩
theorem SBuf.ptrs {B : Nat} {w : World} {g : SM} {s : St} (q : SBuf B w g s) : w.cell? ⟨g.sb, 0, none⟩ = some (ptrO g.ob s.out) ∧ w.cell? ⟨g.sb, 1, none⟩ = some (ptrI g.ib s.inn) ∧ w.frozen? ⟨g.sb, 0, none⟩ = false ∧ w.frozen? ⟨g.sb, 1, none⟩ = false := ⟨q.blk.cellAt 0 rfl, q.blk.cellAt 1 rfl, q.blk.free 0, q.blk.free 1⟩
theorem make_tt {B : Nat} {w : World} {tb mb : Nat} {G : Int → SM} {T : Tb} (q : TBuf B w tb mb G T) {id : Nat} (hi : (id : Int) < 4611686018427387912) (hz : (id : Int) ∉ T.dom) (hl : T.dom.length ≤ 1000) (hm : mineB T.client id = true) (hw : oneWay id = true) :
  Calls Tryz.prog 29 #[.pointer (some ⟨tb, 0, none⟩), .int .u64 (id : Int)] w fun e w' => TMk B w w' tb mb G T (mkT T id) id e := by
 have hok : okId id := by unfold okId; omega
 have hlt : tb < w.heap.size := q.blk.lt
 have hB : B ≤ w.heap.size := Nat.le_of_lt (Nat.lt_of_le_of_lt q.at0 hlt)
 have ne1 : ¬ w.heap.size + 1 = tb := by omega
 have ne2 : ¬ tb = w.heap.size + 1 := by omega
 have c5 : w.cell? ⟨tb, 29, none⟩ = some (.int .u64 (T.stream : Int)) := q.cell 7 rfl
 have hmm := @run_makeMap Tryz.prog
 have hb2 : bits .and .u64 (id : Int) 2 = 2 := by
  rw [and2 hok]
  rcases and2_cases id with ⟨h1, h2⟩ | ⟨h1, h2⟩
  ·rw [h2] at hw; cases hw
  ·rw [h1]; rfl
 have HMI : Hid (∀ W, Mod (fun _ => False) w W → Calls Tryz.prog 56 #[.pointer (some ⟨tb, 0, none⟩), .int .u64 (id : Int)] W fun e w' => W = w' ∧ e = .returned (.bool true)) := Lib.hid (fun W hW => by
  have := mine_any (q.still hW) hok
  rw [hm] at this
  exact this)
 have HN : Hid (newS T id = { st0 T.stream with out := some (newO 0), inn := none }) := Lib.hid (by unfold newS hasOut hasIn; rw [hm, hw]; rfl)
 have HS0 : Hid (FR B w ((w.alloc (.map #[] 0)).alloc (.cells #[.pointer none, .pointer none, .int .u64 (T.stream : Int), .int .u64 0, .bool false, .bool false, .int .u64 0, .int .u64 0, .int .u64 0, .bool false, .bool false, .map (some w.heap.size), .bool false, .int .u64 0] 81)) (⟨w.heap.size + 1, 0, .slice none 0 0, .slice none 0 0, 0, 0, w.heap.size⟩ : SM) (st0 T.stream)) := Lib.hid (by
  refine ⟨((Mod.refl _ _).alloc _).alloc _, SBuf.fresh B w hB _ q.num.2.2.2.2.2.2.2.2.2.2.1, ?_, by simp; omega⟩
  rintro k (e | e | e | e)
  ·have : k = w.heap.size + 1 := e
   omega
  ·have : k = w.heap.size := e
   omega
  ·cases e.1
  ·cases e.1)
 have us : IntKind.i64.wrap (T.own.s : Int) = (T.own.s : Int) := IntWalk.i64_in _ (by have := q.num.2.2.1; omega)
 have HIN := Lib.hid (fun W => inew_any W T.own.s (by have := q.num.2.2.1; omega))
 have HON : Hid (∀ W, Calls Tryz.prog 57 #[.int .u64 0] W fun e w' => e = .returned (.pointer (some ⟨W.heap.size, 0, none⟩)) ∧ OBuf W.heap.size w' W.heap.size (.slice none 0 0) (.slice none 0 0) (newO 0) ∧ Mod (fun _ => False) W w') := Lib.hid (fun W => onew_any W 0 (by decide))
 have HQ := Lib.hid q
 have HZ := Lib.hid (And.intro hz (And.intro hi hl))
 clear q hz hl hm hw hok hlt hB
 generalize hidz : (id : Int) = z at c5 hb2 HMI ⊢
 have HI := Lib.hid hidz
 clear hidz hi
 go_enter Tryz.func29, Tryz.ntmps29
 go_wp2_with (first
  | (go_at_call 56; (with_reducible refine (HMI.out _ ?_).mono ?_); (· exact ((Mod.refl _ _).alloc _).alloc _); rintro e w1 ⟨rfl, rfl⟩; generalize (w.alloc (.map #[] 0)).alloc (.cells #[.pointer none, .pointer none, .int .u64 (T.stream : Int), .int .u64 0, .bool false, .bool false, .int .u64 0, .int .u64 0, .int .u64 0, .bool false, .bool false, .map (some w.heap.size), .bool false, .int .u64 0] 81) = W at *; have k0 : W.cell? ⟨w.heap.size + 1, 0, none⟩ = some (.pointer none) := HS0.out.buf.ptrs.1; have k1 : W.cell? ⟨w.heap.size + 1, 1, none⟩ = some (.pointer none) := HS0.out.buf.ptrs.2.1; have f0 : W.frozen? ⟨w.heap.size + 1, 0, none⟩ = false := HS0.out.buf.ptrs.2.2.1; have f1 : W.frozen? ⟨w.heap.size + 1, 1, none⟩ = false := HS0.out.buf.ptrs.2.2.2; have m3 : W.cell? ⟨tb, 3, none⟩ = some (.int .u64 (T.own.s : Int)) := (HQ.out.still HS0.out.mod).own3.1; have m22 : W.cell? ⟨tb, 22, none⟩ = some (.map (some mb)) := (HQ.out.still HS0.out.mod).own3.2)
  | (go_at_call 57; (with_reducible refine (HON.out _).mono ?_); rintro e w3 ⟨rfl, hO, hM⟩; go_loud (have HF : Hid (FR B w (w3.setCell ⟨w.heap.size + 1, 0, none⟩ (.pointer (some ⟨W.heap.size, 0, none⟩))) { ((⟨w.heap.size + 1, 0, .slice none 0 0, .slice none 0 0, 0, 0, w.heap.size⟩ : SM)) with ob := W.heap.size, bv := .slice none 0 0, sv := .slice none 0 0 } { st0 T.stream with out := some (newO 0) }) := Lib.hid (HS0.out.out hM hO); have HM3 := Lib.hid hM; have k03 : w3.cell? ⟨w.heap.size + 1, 0, none⟩ = some (.pointer none) := hM.cellAt k0 (fun h => h); have f03 : w3.frozen? ⟨w.heap.size + 1, 0, none⟩ = false := (HS0.out.buf.still hM).ptrs.2.2.1; clear hO hM))
  | (go_at_call 56; (with_reducible refine (HMI.out _ HF.out.mod).mono ?_); rintro e w4 ⟨rfl, rfl⟩; generalize (w3.setCell ⟨w.heap.size + 1, 0, none⟩ (.pointer (some ⟨W.heap.size, 0, none⟩))) = W2 at *; have k1' : W2.cell? ⟨w.heap.size + 1, 1, none⟩ = some (.pointer none) := HF.out.buf.ptrs.2.1; have f1' : W2.frozen? ⟨w.heap.size + 1, 1, none⟩ = false := HF.out.buf.ptrs.2.2.2; have m3' : W2.cell? ⟨tb, 3, none⟩ = some (.int .u64 (T.own.s : Int)) := (HQ.out.still HF.out.mod).own3.1; have m22' : W2.cell? ⟨tb, 22, none⟩ = some (.map (some mb)) := (HQ.out.still HF.out.mod).own3.2; obtain ⟨wz, hr, hT⟩ := FR.put HQ.out HZ.out.1 HZ.out.2.1 HZ.out.2.2 HF.out; rw [HI.out] at hr; have HR : Hid ((Instr.mapUpdate 72 (.map (some mb)) (.int .u64 z) (.pointer (some ⟨w.heap.size + 1, 0, none⟩))).run Tryz.prog W2 = .ok () wz) := Lib.hid hr; have HTT := Lib.hid hT; clear hr hT)
  | ((with_reducible refine wpList_skipr ?_ (exec_iput (m := .tmp 47) (x := .tmp 48) (v := .tmp 49) ?_ ?_ ?_ ?_ HR.out) ?_); (· exact rfl); (· exact rfl); (· exact rfl); (· exact rfl); (· exact rfl))
  | fail)
 go_ret
 have hTT := HTT.out
 unfold mkT
 rw [HN.out, HI.out]
 rw [HI.out] at hTT
 refine ⟨_, ?_, hTT⟩
 rw [HI.out, updG_same]
 rfl
theorem make_tf {B : Nat} {w : World} {tb mb : Nat} {G : Int → SM} {T : Tb} (q : TBuf B w tb mb G T) {id : Nat} (hi : (id : Int) < 4611686018427387912) (hz : (id : Int) ∉ T.dom) (hl : T.dom.length ≤ 1000) (hm : mineB T.client id = true) (hw : oneWay id = false) :
  Calls Tryz.prog 29 #[.pointer (some ⟨tb, 0, none⟩), .int .u64 (id : Int)] w fun e w' => TMk B w w' tb mb G T (mkT T id) id e := by
 have hok : okId id := by unfold okId; omega
 have hlt : tb < w.heap.size := q.blk.lt
 have hB : B ≤ w.heap.size := Nat.le_of_lt (Nat.lt_of_le_of_lt q.at0 hlt)
 have ne1 : ¬ w.heap.size + 1 = tb := by omega
 have ne2 : ¬ tb = w.heap.size + 1 := by omega
 have c5 : w.cell? ⟨tb, 29, none⟩ = some (.int .u64 (T.stream : Int)) := q.cell 7 rfl
 have hmm := @run_makeMap Tryz.prog
 have hb2 : bits .and .u64 (id : Int) 2 = 0 := by
  rw [and2 hok]
  rcases and2_cases id with ⟨h1, h2⟩ | ⟨h1, h2⟩
  ·rw [h1]; rfl
  ·rw [h2] at hw; cases hw
 have HMI : Hid (∀ W, Mod (fun _ => False) w W → Calls Tryz.prog 56 #[.pointer (some ⟨tb, 0, none⟩), .int .u64 (id : Int)] W fun e w' => W = w' ∧ e = .returned (.bool true)) := Lib.hid (fun W hW => by
  have := mine_any (q.still hW) hok
  rw [hm] at this
  exact this)
 have HN : Hid (newS T id = { st0 T.stream with out := some (newO 0), inn := some (newI T.own.s) }) := Lib.hid (by unfold newS hasOut hasIn; rw [hm, hw]; rfl)
 have HS0 : Hid (FR B w ((w.alloc (.map #[] 0)).alloc (.cells #[.pointer none, .pointer none, .int .u64 (T.stream : Int), .int .u64 0, .bool false, .bool false, .int .u64 0, .int .u64 0, .int .u64 0, .bool false, .bool false, .map (some w.heap.size), .bool false, .int .u64 0] 81)) (⟨w.heap.size + 1, 0, .slice none 0 0, .slice none 0 0, 0, 0, w.heap.size⟩ : SM) (st0 T.stream)) := Lib.hid (by
  refine ⟨((Mod.refl _ _).alloc _).alloc _, SBuf.fresh B w hB _ q.num.2.2.2.2.2.2.2.2.2.2.1, ?_, by simp; omega⟩
  rintro k (e | e | e | e)
  ·have : k = w.heap.size + 1 := e
   omega
  ·have : k = w.heap.size := e
   omega
  ·cases e.1
  ·cases e.1)
 have us : IntKind.i64.wrap (T.own.s : Int) = (T.own.s : Int) := IntWalk.i64_in _ (by have := q.num.2.2.1; omega)
 have HIN := Lib.hid (fun W => inew_any W T.own.s (by have := q.num.2.2.1; omega))
 have HON : Hid (∀ W, Calls Tryz.prog 57 #[.int .u64 0] W fun e w' => e = .returned (.pointer (some ⟨W.heap.size, 0, none⟩)) ∧ OBuf W.heap.size w' W.heap.size (.slice none 0 0) (.slice none 0 0) (newO 0) ∧ Mod (fun _ => False) W w') := Lib.hid (fun W => onew_any W 0 (by decide))
 have HQ := Lib.hid q
 have HZ := Lib.hid (And.intro hz (And.intro hi hl))
 clear q hz hl hm hw hok hlt hB
 generalize hidz : (id : Int) = z at c5 hb2 HMI ⊢
 have HI := Lib.hid hidz
 clear hidz hi
 go_enter Tryz.func29, Tryz.ntmps29
 go_wp2_with (first
  | (go_at_call 56; (with_reducible refine (HMI.out _ ?_).mono ?_); (· exact ((Mod.refl _ _).alloc _).alloc _); rintro e w1 ⟨rfl, rfl⟩; generalize (w.alloc (.map #[] 0)).alloc (.cells #[.pointer none, .pointer none, .int .u64 (T.stream : Int), .int .u64 0, .bool false, .bool false, .int .u64 0, .int .u64 0, .int .u64 0, .bool false, .bool false, .map (some w.heap.size), .bool false, .int .u64 0] 81) = W at *; have k0 : W.cell? ⟨w.heap.size + 1, 0, none⟩ = some (.pointer none) := HS0.out.buf.ptrs.1; have k1 : W.cell? ⟨w.heap.size + 1, 1, none⟩ = some (.pointer none) := HS0.out.buf.ptrs.2.1; have f0 : W.frozen? ⟨w.heap.size + 1, 0, none⟩ = false := HS0.out.buf.ptrs.2.2.1; have f1 : W.frozen? ⟨w.heap.size + 1, 1, none⟩ = false := HS0.out.buf.ptrs.2.2.2; have m3 : W.cell? ⟨tb, 3, none⟩ = some (.int .u64 (T.own.s : Int)) := (HQ.out.still HS0.out.mod).own3.1; have m22 : W.cell? ⟨tb, 22, none⟩ = some (.map (some mb)) := (HQ.out.still HS0.out.mod).own3.2)
  | (go_at_call 57; (with_reducible refine (HON.out _).mono ?_); rintro e w3 ⟨rfl, hO, hM⟩; go_loud (have HF : Hid (FR B w (w3.setCell ⟨w.heap.size + 1, 0, none⟩ (.pointer (some ⟨W.heap.size, 0, none⟩))) { ((⟨w.heap.size + 1, 0, .slice none 0 0, .slice none 0 0, 0, 0, w.heap.size⟩ : SM)) with ob := W.heap.size, bv := .slice none 0 0, sv := .slice none 0 0 } { st0 T.stream with out := some (newO 0) }) := Lib.hid (HS0.out.out hM hO); have HM3 := Lib.hid hM; have k03 : w3.cell? ⟨w.heap.size + 1, 0, none⟩ = some (.pointer none) := hM.cellAt k0 (fun h => h); have f03 : w3.frozen? ⟨w.heap.size + 1, 0, none⟩ = false := (HS0.out.buf.still hM).ptrs.2.2.1; clear hO hM))
  | (go_at_call 56; (with_reducible refine (HMI.out _ HF.out.mod).mono ?_); rintro e w4 ⟨rfl, rfl⟩; generalize (w3.setCell ⟨w.heap.size + 1, 0, none⟩ (.pointer (some ⟨W.heap.size, 0, none⟩))) = W2 at *; have k1' : W2.cell? ⟨w.heap.size + 1, 1, none⟩ = some (.pointer none) := HF.out.buf.ptrs.2.1; have f1' : W2.frozen? ⟨w.heap.size + 1, 1, none⟩ = false := HF.out.buf.ptrs.2.2.2; have m3' : W2.cell? ⟨tb, 3, none⟩ = some (.int .u64 (T.own.s : Int)) := (HQ.out.still HF.out.mod).own3.1; have m22' : W2.cell? ⟨tb, 22, none⟩ = some (.map (some mb)) := (HQ.out.still HF.out.mod).own3.2)
  | (go_at_call 58; (with_reducible refine (HIN.out _).mono ?_); rintro e w5 ⟨ib, mbi, rfl, hO, hM⟩; have HF2 : Hid (FR B w (w5.setCell ⟨w.heap.size + 1, 1, none⟩ (.pointer (some ⟨ib, 0, none⟩))) { ((⟨w.heap.size + 1, 0, .slice none 0 0, .slice none 0 0, 0, 0, w.heap.size⟩ : SM)) with ob := W.heap.size, bv := .slice none 0 0, sv := .slice none 0 0, ib := ib, mb := mbi } { st0 T.stream with out := some (newO 0), inn := some (newI T.own.s) }) := Lib.hid (HF.out.inn hM hO); have k15 : w5.cell? ⟨w.heap.size + 1, 1, none⟩ = some (.pointer none) := hM.cellAt k1' (fun h => h); have f15 : w5.frozen? ⟨w.heap.size + 1, 1, none⟩ = false := (HF.out.buf.still hM).ptrs.2.2.2; have m225 : w5.cell? ⟨tb, 22, none⟩ = some (.map (some mb)) := hM.cellAt m22' (fun h => h); obtain ⟨wz, hr, hT⟩ := FR.put HQ.out HZ.out.1 HZ.out.2.1 HZ.out.2.2 HF2.out; rw [HI.out] at hr; have HR : Hid ((Instr.mapUpdate 72 (.map (some mb)) (.int .u64 z) (.pointer (some ⟨w.heap.size + 1, 0, none⟩))).run Tryz.prog (w5.setCell ⟨w.heap.size + 1, 1, none⟩ (.pointer (some ⟨ib, 0, none⟩))) = .ok () wz) := Lib.hid hr; have HTT := Lib.hid hT; clear hr hT; clear hO hM)
  | ((with_reducible refine wpList_skipr ?_ (exec_iput (m := .tmp 47) (x := .tmp 48) (v := .tmp 49) ?_ ?_ ?_ ?_ HR.out) ?_); (· exact rfl); (· exact rfl); (· exact rfl); (· exact rfl); (· exact rfl))
  | fail)
 go_ret
 have hTT := HTT.out
 unfold mkT
 rw [HN.out, HI.out]
 rw [HI.out] at hTT
 refine ⟨_, ?_, hTT⟩
 rw [HI.out, updG_same]
 rfl
theorem make_ft {B : Nat} {w : World} {tb mb : Nat} {G : Int → SM} {T : Tb} (q : TBuf B w tb mb G T) {id : Nat} (hi : (id : Int) < 4611686018427387912) (hz : (id : Int) ∉ T.dom) (hl : T.dom.length ≤ 1000) (hm : mineB T.client id = false) (hw : oneWay id = true) :
  Calls Tryz.prog 29 #[.pointer (some ⟨tb, 0, none⟩), .int .u64 (id : Int)] w fun e w' => TMk B w w' tb mb G T (mkT T id) id e := by
 have hok : okId id := by unfold okId; omega
 have hlt : tb < w.heap.size := q.blk.lt
 have hB : B ≤ w.heap.size := Nat.le_of_lt (Nat.lt_of_le_of_lt q.at0 hlt)
 have ne1 : ¬ w.heap.size + 1 = tb := by omega
 have ne2 : ¬ tb = w.heap.size + 1 := by omega
 have c5 : w.cell? ⟨tb, 29, none⟩ = some (.int .u64 (T.stream : Int)) := q.cell 7 rfl
 have hmm := @run_makeMap Tryz.prog
 have hb2 : bits .and .u64 (id : Int) 2 = 2 := by
  rw [and2 hok]
  rcases and2_cases id with ⟨h1, h2⟩ | ⟨h1, h2⟩
  ·rw [h2] at hw; cases hw
  ·rw [h1]; rfl
 have HMI : Hid (∀ W, Mod (fun _ => False) w W → Calls Tryz.prog 56 #[.pointer (some ⟨tb, 0, none⟩), .int .u64 (id : Int)] W fun e w' => W = w' ∧ e = .returned (.bool false)) := Lib.hid (fun W hW => by
  have := mine_any (q.still hW) hok
  rw [hm] at this
  exact this)
 have HN : Hid (newS T id = { st0 T.stream with out := none, inn := some (newI T.own.s) }) := Lib.hid (by unfold newS hasOut hasIn; rw [hm, hw]; rfl)
 have HS0 : Hid (FR B w ((w.alloc (.map #[] 0)).alloc (.cells #[.pointer none, .pointer none, .int .u64 (T.stream : Int), .int .u64 0, .bool false, .bool false, .int .u64 0, .int .u64 0, .int .u64 0, .bool false, .bool false, .map (some w.heap.size), .bool false, .int .u64 0] 81)) (⟨w.heap.size + 1, 0, .slice none 0 0, .slice none 0 0, 0, 0, w.heap.size⟩ : SM) (st0 T.stream)) := Lib.hid (by
  refine ⟨((Mod.refl _ _).alloc _).alloc _, SBuf.fresh B w hB _ q.num.2.2.2.2.2.2.2.2.2.2.1, ?_, by simp; omega⟩
  rintro k (e | e | e | e)
  ·have : k = w.heap.size + 1 := e
   omega
  ·have : k = w.heap.size := e
   omega
  ·cases e.1
  ·cases e.1)
 have us : IntKind.i64.wrap (T.own.s : Int) = (T.own.s : Int) := IntWalk.i64_in _ (by have := q.num.2.2.1; omega)
 have HIN := Lib.hid (fun W => inew_any W T.own.s (by have := q.num.2.2.1; omega))
 have HON : Hid (∀ W, Calls Tryz.prog 57 #[.int .u64 0] W fun e w' => e = .returned (.pointer (some ⟨W.heap.size, 0, none⟩)) ∧ OBuf W.heap.size w' W.heap.size (.slice none 0 0) (.slice none 0 0) (newO 0) ∧ Mod (fun _ => False) W w') := Lib.hid (fun W => onew_any W 0 (by decide))
 have HQ := Lib.hid q
 have HZ := Lib.hid (And.intro hz (And.intro hi hl))
 clear q hz hl hm hw hok hlt hB
 generalize hidz : (id : Int) = z at c5 hb2 HMI ⊢
 have HI := Lib.hid hidz
 clear hidz hi
 go_enter Tryz.func29, Tryz.ntmps29
 go_wp2_with (first
  | (go_at_call 56; (with_reducible refine (HMI.out _ ?_).mono ?_); (· exact ((Mod.refl _ _).alloc _).alloc _); rintro e w1 ⟨rfl, rfl⟩; generalize (w.alloc (.map #[] 0)).alloc (.cells #[.pointer none, .pointer none, .int .u64 (T.stream : Int), .int .u64 0, .bool false, .bool false, .int .u64 0, .int .u64 0, .int .u64 0, .bool false, .bool false, .map (some w.heap.size), .bool false, .int .u64 0] 81) = W at *; have k0 : W.cell? ⟨w.heap.size + 1, 0, none⟩ = some (.pointer none) := HS0.out.buf.ptrs.1; have k1 : W.cell? ⟨w.heap.size + 1, 1, none⟩ = some (.pointer none) := HS0.out.buf.ptrs.2.1; have f0 : W.frozen? ⟨w.heap.size + 1, 0, none⟩ = false := HS0.out.buf.ptrs.2.2.1; have f1 : W.frozen? ⟨w.heap.size + 1, 1, none⟩ = false := HS0.out.buf.ptrs.2.2.2; have m3 : W.cell? ⟨tb, 3, none⟩ = some (.int .u64 (T.own.s : Int)) := (HQ.out.still HS0.out.mod).own3.1; have m22 : W.cell? ⟨tb, 22, none⟩ = some (.map (some mb)) := (HQ.out.still HS0.out.mod).own3.2)
  | (go_at_call 56; (with_reducible refine (HMI.out _ HS0.out.mod).mono ?_); rintro e w4 ⟨rfl, rfl⟩)
  | (go_at_call 58; (with_reducible refine (HIN.out _).mono ?_); rintro e w5 ⟨ib, mbi, rfl, hO, hM⟩; have HF2 : Hid (FR B w (w5.setCell ⟨w.heap.size + 1, 1, none⟩ (.pointer (some ⟨ib, 0, none⟩))) { ((⟨w.heap.size + 1, 0, .slice none 0 0, .slice none 0 0, 0, 0, w.heap.size⟩ : SM)) with ib := ib, mb := mbi } { st0 T.stream with inn := some (newI T.own.s) }) := Lib.hid (HS0.out.inn hM hO); have k15 : w5.cell? ⟨w.heap.size + 1, 1, none⟩ = some (.pointer none) := hM.cellAt k1 (fun h => h); have f15 : w5.frozen? ⟨w.heap.size + 1, 1, none⟩ = false := (HS0.out.buf.still hM).ptrs.2.2.2; have m225 : w5.cell? ⟨tb, 22, none⟩ = some (.map (some mb)) := hM.cellAt m22 (fun h => h); obtain ⟨wz, hr, hT⟩ := FR.put HQ.out HZ.out.1 HZ.out.2.1 HZ.out.2.2 HF2.out; rw [HI.out] at hr; have HR : Hid ((Instr.mapUpdate 72 (.map (some mb)) (.int .u64 z) (.pointer (some ⟨w.heap.size + 1, 0, none⟩))).run Tryz.prog (w5.setCell ⟨w.heap.size + 1, 1, none⟩ (.pointer (some ⟨ib, 0, none⟩))) = .ok () wz) := Lib.hid hr; have HTT := Lib.hid hT; clear hr hT; clear hO hM)
  | ((with_reducible refine wpList_skipr ?_ (exec_iput (m := .tmp 47) (x := .tmp 48) (v := .tmp 49) ?_ ?_ ?_ ?_ HR.out) ?_); (· exact rfl); (· exact rfl); (· exact rfl); (· exact rfl); (· exact rfl))
  | fail)
 go_ret
 have hTT := HTT.out
 unfold mkT
 rw [HN.out, HI.out]
 rw [HI.out] at hTT
 refine ⟨_, ?_, hTT⟩
 rw [HI.out, updG_same]
 rfl
theorem make_ff {B : Nat} {w : World} {tb mb : Nat} {G : Int → SM} {T : Tb} (q : TBuf B w tb mb G T) {id : Nat} (hi : (id : Int) < 4611686018427387912) (hz : (id : Int) ∉ T.dom) (hl : T.dom.length ≤ 1000) (hm : mineB T.client id = false) (hw : oneWay id = false) :
  Calls Tryz.prog 29 #[.pointer (some ⟨tb, 0, none⟩), .int .u64 (id : Int)] w fun e w' => TMk B w w' tb mb G T (mkT T id) id e := by
 have hok : okId id := by unfold okId; omega
 have hlt : tb < w.heap.size := q.blk.lt
 have hB : B ≤ w.heap.size := Nat.le_of_lt (Nat.lt_of_le_of_lt q.at0 hlt)
 have ne1 : ¬ w.heap.size + 1 = tb := by omega
 have ne2 : ¬ tb = w.heap.size + 1 := by omega
 have c5 : w.cell? ⟨tb, 29, none⟩ = some (.int .u64 (T.stream : Int)) := q.cell 7 rfl
 have hmm := @run_makeMap Tryz.prog
 have hb2 : bits .and .u64 (id : Int) 2 = 0 := by
  rw [and2 hok]
  rcases and2_cases id with ⟨h1, h2⟩ | ⟨h1, h2⟩
  ·rw [h1]; rfl
  ·rw [h2] at hw; cases hw
 have HMI : Hid (∀ W, Mod (fun _ => False) w W → Calls Tryz.prog 56 #[.pointer (some ⟨tb, 0, none⟩), .int .u64 (id : Int)] W fun e w' => W = w' ∧ e = .returned (.bool false)) := Lib.hid (fun W hW => by
  have := mine_any (q.still hW) hok
  rw [hm] at this
  exact this)
 have HN : Hid (newS T id = { st0 T.stream with out := some (newO 0), inn := some (newI T.own.s) }) := Lib.hid (by unfold newS hasOut hasIn; rw [hm, hw]; rfl)
 have HS0 : Hid (FR B w ((w.alloc (.map #[] 0)).alloc (.cells #[.pointer none, .pointer none, .int .u64 (T.stream : Int), .int .u64 0, .bool false, .bool false, .int .u64 0, .int .u64 0, .int .u64 0, .bool false, .bool false, .map (some w.heap.size), .bool false, .int .u64 0] 81)) (⟨w.heap.size + 1, 0, .slice none 0 0, .slice none 0 0, 0, 0, w.heap.size⟩ : SM) (st0 T.stream)) := Lib.hid (by
  refine ⟨((Mod.refl _ _).alloc _).alloc _, SBuf.fresh B w hB _ q.num.2.2.2.2.2.2.2.2.2.2.1, ?_, by simp; omega⟩
  rintro k (e | e | e | e)
  ·have : k = w.heap.size + 1 := e
   omega
  ·have : k = w.heap.size := e
   omega
  ·cases e.1
  ·cases e.1)
 have us : IntKind.i64.wrap (T.own.s : Int) = (T.own.s : Int) := IntWalk.i64_in _ (by have := q.num.2.2.1; omega)
 have HIN := Lib.hid (fun W => inew_any W T.own.s (by have := q.num.2.2.1; omega))
 have HON : Hid (∀ W, Calls Tryz.prog 57 #[.int .u64 0] W fun e w' => e = .returned (.pointer (some ⟨W.heap.size, 0, none⟩)) ∧ OBuf W.heap.size w' W.heap.size (.slice none 0 0) (.slice none 0 0) (newO 0) ∧ Mod (fun _ => False) W w') := Lib.hid (fun W => onew_any W 0 (by decide))
 have HQ := Lib.hid q
 have HZ := Lib.hid (And.intro hz (And.intro hi hl))
 clear q hz hl hm hw hok hlt hB
 generalize hidz : (id : Int) = z at c5 hb2 HMI ⊢
 have HI := Lib.hid hidz
 clear hidz hi
 go_enter Tryz.func29, Tryz.ntmps29
 go_wp2_with (first
  | (go_at_call 56; (with_reducible refine (HMI.out _ ?_).mono ?_); (· exact ((Mod.refl _ _).alloc _).alloc _); rintro e w1 ⟨rfl, rfl⟩; generalize (w.alloc (.map #[] 0)).alloc (.cells #[.pointer none, .pointer none, .int .u64 (T.stream : Int), .int .u64 0, .bool false, .bool false, .int .u64 0, .int .u64 0, .int .u64 0, .bool false, .bool false, .map (some w.heap.size), .bool false, .int .u64 0] 81) = W at *; have k0 : W.cell? ⟨w.heap.size + 1, 0, none⟩ = some (.pointer none) := HS0.out.buf.ptrs.1; have k1 : W.cell? ⟨w.heap.size + 1, 1, none⟩ = some (.pointer none) := HS0.out.buf.ptrs.2.1; have f0 : W.frozen? ⟨w.heap.size + 1, 0, none⟩ = false := HS0.out.buf.ptrs.2.2.1; have f1 : W.frozen? ⟨w.heap.size + 1, 1, none⟩ = false := HS0.out.buf.ptrs.2.2.2; have m3 : W.cell? ⟨tb, 3, none⟩ = some (.int .u64 (T.own.s : Int)) := (HQ.out.still HS0.out.mod).own3.1; have m22 : W.cell? ⟨tb, 22, none⟩ = some (.map (some mb)) := (HQ.out.still HS0.out.mod).own3.2)
  | (go_at_call 57; (with_reducible refine (HON.out _).mono ?_); rintro e w3 ⟨rfl, hO, hM⟩; go_loud (have HF : Hid (FR B w (w3.setCell ⟨w.heap.size + 1, 0, none⟩ (.pointer (some ⟨W.heap.size, 0, none⟩))) { ((⟨w.heap.size + 1, 0, .slice none 0 0, .slice none 0 0, 0, 0, w.heap.size⟩ : SM)) with ob := W.heap.size, bv := .slice none 0 0, sv := .slice none 0 0 } { st0 T.stream with out := some (newO 0) }) := Lib.hid (HS0.out.out hM hO); have HM3 := Lib.hid hM; have k03 : w3.cell? ⟨w.heap.size + 1, 0, none⟩ = some (.pointer none) := hM.cellAt k0 (fun h => h); have f03 : w3.frozen? ⟨w.heap.size + 1, 0, none⟩ = false := (HS0.out.buf.still hM).ptrs.2.2.1; clear hO hM))
  | (go_at_call 56; (with_reducible refine (HMI.out _ HF.out.mod).mono ?_); rintro e w4 ⟨rfl, rfl⟩; generalize (w3.setCell ⟨w.heap.size + 1, 0, none⟩ (.pointer (some ⟨W.heap.size, 0, none⟩))) = W2 at *; have k1' : W2.cell? ⟨w.heap.size + 1, 1, none⟩ = some (.pointer none) := HF.out.buf.ptrs.2.1; have f1' : W2.frozen? ⟨w.heap.size + 1, 1, none⟩ = false := HF.out.buf.ptrs.2.2.2; have m3' : W2.cell? ⟨tb, 3, none⟩ = some (.int .u64 (T.own.s : Int)) := (HQ.out.still HF.out.mod).own3.1; have m22' : W2.cell? ⟨tb, 22, none⟩ = some (.map (some mb)) := (HQ.out.still HF.out.mod).own3.2)
  | (go_at_call 58; (with_reducible refine (HIN.out _).mono ?_); rintro e w5 ⟨ib, mbi, rfl, hO, hM⟩; have HF2 : Hid (FR B w (w5.setCell ⟨w.heap.size + 1, 1, none⟩ (.pointer (some ⟨ib, 0, none⟩))) { ((⟨w.heap.size + 1, 0, .slice none 0 0, .slice none 0 0, 0, 0, w.heap.size⟩ : SM)) with ob := W.heap.size, bv := .slice none 0 0, sv := .slice none 0 0, ib := ib, mb := mbi } { st0 T.stream with out := some (newO 0), inn := some (newI T.own.s) }) := Lib.hid (HF.out.inn hM hO); have k15 : w5.cell? ⟨w.heap.size + 1, 1, none⟩ = some (.pointer none) := hM.cellAt k1' (fun h => h); have f15 : w5.frozen? ⟨w.heap.size + 1, 1, none⟩ = false := (HF.out.buf.still hM).ptrs.2.2.2; have m225 : w5.cell? ⟨tb, 22, none⟩ = some (.map (some mb)) := hM.cellAt m22' (fun h => h); obtain ⟨wz, hr, hT⟩ := FR.put HQ.out HZ.out.1 HZ.out.2.1 HZ.out.2.2 HF2.out; rw [HI.out] at hr; have HR : Hid ((Instr.mapUpdate 72 (.map (some mb)) (.int .u64 z) (.pointer (some ⟨w.heap.size + 1, 0, none⟩))).run Tryz.prog (w5.setCell ⟨w.heap.size + 1, 1, none⟩ (.pointer (some ⟨ib, 0, none⟩))) = .ok () wz) := Lib.hid hr; have HTT := Lib.hid hT; clear hr hT; clear hO hM)
  | ((with_reducible refine wpList_skipr ?_ (exec_iput (m := .tmp 47) (x := .tmp 48) (v := .tmp 49) ?_ ?_ ?_ ?_ HR.out) ?_); (· exact rfl); (· exact rfl); (· exact rfl); (· exact rfl); (· exact rfl))
  | fail)
 go_ret
 have hTT := HTT.out
 unfold mkT
 rw [HN.out, HI.out]
 rw [HI.out] at hTT
 refine ⟨_, ?_, hTT⟩
 rw [HI.out, updG_same]
 rfl
theorem make_any {B : Nat} {w : World} {tb mb : Nat} {G : Int → SM} {T : Tb} (q : TBuf B w tb mb G T) {id : Nat} (hi : (id : Int) < 4611686018427387912) (hz : (id : Int) ∉ T.dom) (hl : T.dom.length ≤ 1000) :
  Calls Tryz.prog 29 #[.pointer (some ⟨tb, 0, none⟩), .int .u64 (id : Int)] w fun e w' => TMk B w w' tb mb G T (mkT T id) id e := by
 cases hm : mineB T.client id <;> cases hw : oneWay id
 ·exact make_ff q hi hz hl hm hw
 ·exact make_ft q hi hz hl hm hw
 ·exact make_tf q hi hz hl hm hw
 ·exact make_tt q hi hz hl hm hw
end Go.Proofs.YtolgeghdkoodnaaGreatDoor
