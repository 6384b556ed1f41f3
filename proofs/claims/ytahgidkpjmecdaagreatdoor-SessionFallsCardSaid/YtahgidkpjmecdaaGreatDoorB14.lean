/- Parts of the proof: StQ StR SuA StS StT SuB. -/
import Derived.Test.YtahgidkpjmecdaaGreatDoorB02
import Derived.Test.YtahgidkpjmecdaaGreatDoorB06
import Derived.Test.YtahgidkpjmecdaaGreatDoorB13
import Derived.Great.BuildSlice
import Derived.Deep.RegionWith
set_option maxRecDepth 100000
namespace Go.Proofs.YtahgidkpjmecdaaGreatDoor
open Go.RowKit Go.Maps
theorem TBuf.updF {B : Nat} {w w' : World} {tb mb : Nat} {G : Int → SM} {T : Tb} (q : TBuf B w tb mb G T) {z : Int} (hz : z ∈ T.dom) {g' : SM} {s' : St} (hq : SBuf B w' g' s') (hsb : g'.sb = (G z).sb) (hsub : ∀ k, SS g' s' k → SS (G z) (T.m z) k ∨ ¬ TS tb mb G T k) (hM : Mod (SS (G z) (T.m z)) w w') :
  TBuf B w' tb mb (updG G z g') { T with m := updM T.m z s' } ∧ (∀ k, TS tb mb (updG G z g') { T with m := updM T.m z s' } k → TS tb mb G T k ∨ SS g' s' k) ∧ Mod (TS tb mb G T) w w' := by
 refine ⟨⟨q.at0, q.atm, hM.blk q.blk (fun h => (q.tops z hz tb h).1 rfl), ?_, ?_, ?_, ?_, q.mt, q.tok, q.ids, q.num⟩, ?_, hM.mono (fun k _ h => .inr (.inr ⟨z, hz, h⟩))⟩
 ·have e : (fun y => Value.pointer (some ⟨(updG G z g' y).sb, 0, none⟩)) = (fun y => Value.pointer (some ⟨(G y).sb, 0, none⟩)) := by
   funext y
   by_cases h : y = z
   ·rw [h, updG_same, hsb]
   ·rw [updG_other h]
  rw [e]
  exact q.map.kept hM (fun h => (q.tops z hz mb h).2 rfl)
 ·intro y hy
  by_cases h : y = z
  ·rw [h, updG_same]
   show SBuf B w' g' (updM T.m z s' z)
   rw [updM_same]
   exact hq
  ·rw [updG_other h]
   show SBuf B w' (G y) (updM T.m z s' y)
   rw [updM_other h]
   exact (q.strs y hy).kept hM (fun k hk hk2 => q.apart y hy z hz h k hk hk2)
 ·intro y hy y' hy' hne k hk hk'
  by_cases h : y = z
  ·have h' : y' ≠ z := fun e => hne (h.trans e.symm)
   rw [h, updG_same] at hk
   rw [updG_other h'] at hk'
   have hk1 : SS g' s' k := by simpa [updM_same] using hk
   have hk2 : SS (G y') (T.m y') k := by simpa [updM_other h'] using hk'
   rcases hsub k hk1 with e | e
   ·exact q.apart z hz y' hy' (fun e2 => h' e2.symm) k e hk2
   ·exact e (.inr (.inr ⟨y', hy', hk2⟩))
  ·rw [updG_other h] at hk
   have hk1 : SS (G y) (T.m y) k := by simpa [updM_other h] using hk
   by_cases h' : y' = z
   ·rw [h', updG_same] at hk'
    have hk2 : SS g' s' k := by simpa [updM_same] using hk'
    rcases hsub k hk2 with e | e
    ·exact q.apart y hy z hz h k hk1 e
    ·exact e (.inr (.inr ⟨y, hy, hk1⟩))
   ·rw [updG_other h'] at hk'
    have hk2 : SS (G y') (T.m y') k := by simpa [updM_other h'] using hk'
    exact q.apart y hy y' hy' hne k hk1 hk2
 ·intro y hy k hk
  by_cases h : y = z
  ·rw [h, updG_same] at hk
   have hk1 : SS g' s' k := by simpa [updM_same] using hk
   rcases hsub k hk1 with e | e
   ·exact q.tops z hz k e
   ·exact ⟨fun e2 => e (.inl e2), fun e2 => e (.inr (.inl e2))⟩
  ·rw [updG_other h] at hk
   exact q.tops y hy k (by simpa [updM_other h] using hk)
 ·rintro k (h | h | ⟨y, hy, hk⟩)
  ·exact .inl (.inl h)
  ·exact .inl (.inr (.inl h))
  ·by_cases h : y = z
   ·rw [h, updG_same] at hk
    have hk1 : SS g' s' k := by simpa [updM_same] using hk
    exact .inr hk1
   ·rw [updG_other h] at hk
    exact .inl (.inr (.inr ⟨y, hy, by simpa [updM_other h] using hk⟩))
theorem TT.putIn {B : Nat} {w w3 w4 : World} {tb mb : Nat} {G G4 : Int → SM} {T : Tb} {id : Nat} {ib mbi B2 : Nat} {o : IB} (q : TBuf B w tb mb G T) (hT : TT B w3 w4 tb mb G G4 T (mkT T id)) (hM3 : Mod (fun _ => False) w w3) (hI : IBuf B2 w3 ib mbi o) (hB : w.heap.size ≤ B2) :
  TT B w (w4.setCell ⟨(G4 (id : Int)).sb, 1, none⟩ (.pointer (some ⟨ib, 0, none⟩))) tb mb G (updG G4 id { G4 (id : Int) with ib := ib, mb := mbi }) T { mkT T id with m := updM (mkT T id).m id { (mkT T id).m id with inn := some o } } := by
 have hz : (id : Int) ∈ (mkT T id).dom := mem_putD.2 (.inl rfl)
 have hlt := q.lt
 have hBw : B ≤ w.heap.size := Nat.le_of_lt (Nat.lt_of_le_of_lt (hlt tb (.inl rfl)).1 (hlt tb (.inl rfl)).2)
 have hIl : ∀ k, IS ib mbi k → w.heap.size ≤ k ∧ k < w3.heap.size := fun k hk => ⟨Nat.le_trans hB (hI.lt k hk).1, (hI.lt k hk).2⟩
 have hno : ∀ k, IS ib mbi k → ¬ TS tb mb G4 (mkT T id) k := fun k hk ht => by
  have h1 := hIl k hk
  rcases hT.2.1 k ht with e | e
  ·have := (hlt k e).2; omega
  ·omega
 have hI4 : IBuf B w4 ib mbi o := (hI.base (Nat.le_trans hBw hB)).kept hT.2.2 (fun k hk ht => by have h1 := hIl k hk; have := (hlt k ht).2; omega)
 have hs := hT.1.strs _ hz
 obtain ⟨p1, p2⟩ := hs.putIn (Mod.refl _ _) hI4 (fun k hk h => hno k hk (.inr (.inr ⟨_, hz, h⟩)))
 have hsub : ∀ k, SS { G4 (id : Int) with ib := ib, mb := mbi } { (mkT T id).m id with inn := some o } k → SS (G4 id) ((mkT T id).m id) k ∨ IS ib mbi k := by
  rintro k (e | e | e | ⟨-, e⟩)
  ·exact .inl (.inl e)
  ·exact .inl (.inr (.inl e))
  ·exact .inl (.inr (.inr (.inl e)))
  ·exact .inr e
 obtain ⟨u1, u2, u3⟩ := hT.1.updF hz p1 rfl (fun k hk => (hsub k hk).imp_right (hno k)) (p2.mono (fun k _ e => .inl e))
 refine ⟨u1, fun k hk => ?_, ?_⟩
 ·have hs4 : w4.heap.size ≤ (w4.setCell ⟨(G4 (id : Int)).sb, 1, none⟩ (.pointer (some ⟨ib, 0, none⟩))).heap.size := p2.size
  have h34 := hT.2.2.size
  rcases u2 k hk with e | e
  ·rcases hT.2.1 k e with e | e
   ·exact .inl e
   ·exact .inr ⟨Nat.le_trans hM3.size e.1, Nat.lt_of_lt_of_le e.2 hs4⟩
  ·rcases hsub k e with e | e
   ·rcases hT.2.1 k (.inr (.inr ⟨_, hz, e⟩)) with e | e
    ·exact .inl e
    ·exact .inr ⟨Nat.le_trans hM3.size e.1, Nat.lt_of_lt_of_le e.2 hs4⟩
   ·have h1 := hIl k e
    exact .inr ⟨h1.1, by omega⟩
 ·have m4 : Mod (TS tb mb G T) w w4 := (hM3.mono (T := TS tb mb G T) (fun _ _ h => h.elim)).trans hT.2.2
  refine m4.trans' u3 (fun k hk e => ?_)
  rcases hT.2.1 k e with e | e
  ·exact e
  ·have := hM3.size; omega
def inO (T : Tb) (id : Nat) : IB := if (id : Int) ∈ T.dom then inOf T id else newI T.own.s
def comeT (T : Tb) (id off : Nat) (data : List UInt8) (last : Bool) : Tb :=
 if (id : Int) ∈ T.dom then { T with m := updM T.m id { T.m id with inn := some (putI (inO T id) off data last) } }
 else { mkT T id with m := updM (mkT T id).m id { (mkT T id).m id with inn := some (putI (inO T id) off data last) } }
structure ComeOk (T : Tb) (id off : Nat) (n : Nat) (last : Bool) : Prop where
 find : findE T id false = 0
 part : (id : Int) ∈ T.dom → (T.m id).over = false ∧ ∃ o, (T.m id).inn = some o
 fits : ((off + n : Nat) : Int) ≤ 4611686018427387903
 rises : risesB T (if (id : Int) ∈ T.dom then some (id : Int) else none) (off + n) = true
 put : putErr (inO T id) off n last = 0
structure Small (T : Tb) : Prop where
 len : T.dom.length ≤ 1000
 tops : ∀ z ∈ T.dom, topS (T.m z) ≤ 1000000
 givens : ∀ z ∈ T.dom, (T.m z).given ≤ 1000000
 read : T.read ≤ 2000000000
def TCome (B : Nat) (w w' : World) (tb mb : Nat) (G : Int → SM) (T T' : Tb) (id : Nat) (e : Ending) : Prop := ∃ G', e = .returned (.tuple #[.pointer (some ⟨(G' (id : Int)).sb, 0, none⟩), .int .i64 0]) ∧ TT B w w' tb mb G G' T T'
set_option maxHeartbeats 1000000 in
theorem come_old {B : Nat} {w : World} {tb mb : Nat} {G : Int → SM} {T : Tb} (q : TBuf B w tb mb G T) {f : Fr} {vd vr dv : Value} {data : List UInt8} {last : Bool} (h16 : f.t.length = 16) (hd : Byts w dv data) (hi : (f.id : Int) < 4611686018427387912) (hs : Small T) (hc : ComeOk T f.id f.a data.length last) (hz : (f.id : Int) ∈ T.dom) :
  Calls Tryz.prog 106 #[.pointer (some ⟨tb, 0, none⟩), .agg (frC f vd vr), dv, .bool last] w fun e w' => TCome B w w' tb mb G T (comeT T f.id f.a data last) f.id e := by
 obtain ⟨da, dc, rfl, -⟩ := Sl.val hd
 have hE : (f.a : Int) + (data.length : Int) = ((f.a + data.length : Nat) : Int) := by push_cast; rfl
 have hfit := hc.fits
 have HB := Lib.hid (FrB.new w f vd vr h16)
 have b1 : (w.alloc (.cells (frC f vd vr) 91)).cell? ⟨w.heap.size, 1, none⟩ = some (.int .u64 (f.id : Int)) := HB.out.cells.2.1
 have b2 : (w.alloc (.cells (frC f vd vr) 91)).cell? ⟨w.heap.size, 2, none⟩ = some (.int .u64 (f.a : Int)) := HB.out.cells.2.2.1
 have HM0 : Hid (Mod (fun _ => False) w (w.alloc (.cells (frC f vd vr) 91))) := Lib.hid ((Mod.refl _ _).alloc _)
 have u1 : IntKind.u64.wrap (data.length : Int) = (data.length : Int) := IntWalk.u64_in _ (by omega)
 have u2 : IntKind.u64.wrap (4611686018427387903 - (data.length : Int)) = 4611686018427387903 - (data.length : Int) := IntWalk.u64_in _ (by omega)
 have u3 : IntKind.u64.wrap ((f.a : Int) + (data.length : Int)) = ((f.a + data.length : Nat) : Int) := by rw [IntWalk.u64_in _ (by omega)]; exact hE
 have t1 : decide (4611686018427387903 - (data.length : Int) < (f.a : Int)) = false := decide_eq_false (by omega)
 have HQ := Lib.hid q
 have HQ0 := Lib.hid (q.still HM0.out)
 have HFI := Lib.hid (find_any (q.still HM0.out) (id := f.id) (by unfold okId; omega) false)
 obtain ⟨hov, o, ho⟩ := hc.part hz
 have hfv : findV G T f.id false = .pointer (some ⟨(G f.id).sb, 0, none⟩) := by unfold findV; rw [if_pos ⟨hc.find, hz⟩]
 have hri := hc.rises
 rw [if_pos hz] at hri
 have hin : inO T f.id = o := by unfold inO inOf; rw [if_pos hz, ho]; rfl
 have hpe := hc.put
 rw [hin] at hpe
 rw [hfv, hc.find] at HFI
 have HRI := Lib.hid (rises_some (q.still HM0.out) hs.len hs.tops hz ho (f.a + data.length) (by omega) hs.read)
 rw [hri] at HRI
 have HPA := Lib.hid (fun w1 (hm : Mod (fun _ => False) (w.alloc (.cells (frC f vd vr) 91)) w1) => part_some ((q.still (HM0.out.trans hm)).strs _ hz) ho (.pointer (some ⟨tb, 0, none⟩)))
 have HPU := Lib.hid (fun w1 (hm : Mod (fun _ => False) w w1) => iput_any (((q.still hm).strs _ hz).inn o ho) (byts_kept hd hm) f.a last hfit)
 have HE : Hid (putErr o f.a data.length last = 0 ∧ comeT T f.id f.a (data) last = { T with m := updM T.m f.id { T.m f.id with inn := some (putI o f.a data last) } }) := Lib.hid ⟨hpe, by unfold comeT; rw [if_pos hz, hin]⟩
 have HZ := Lib.hid hz
 have HO := Lib.hid ho
 have c5 : (w.alloc (.cells (frC f vd vr) 91)).cell? ⟨(G f.id).sb, 5, none⟩ = some (.bool false) := by
  have := (HQ0.out.strs _ hz).blk.cellAt 5 (v := .bool (T.m f.id).over) rfl
  rw [hov] at this
  exact this
 clear q hd hs hc hz hE hfit hfv hri hin hpe hov ho h16 hi
 generalize frC f vd vr = C at *
 generalize ((f.a + data.length : Nat) : Int) = E at *
 go_enter Tryz.func106, Tryz.ntmps106
 go_wp2_with (first
  | (go_at_call 192; (with_reducible refine HFI.out.mono ?_); rintro e w1 ⟨rfl, rfl⟩; generalize (w.alloc (.cells C 91)) = W0 at *)
  | (go_at_call 193; (with_reducible refine HRI.out.mono ?_); rintro e w1 ⟨rfl, hm⟩; have b2' : w1.cell? ⟨w.heap.size, 2, none⟩ = some (.int .u64 (f.a : Int)) := hm.cellAt b2 (fun h => h); have HM1 := Lib.hid hm; clear hm)
  | (go_at_call 194; (with_reducible refine (HPA.out _ HM1.out).mono ?_); rintro e w2 ⟨rfl, rfl⟩)
  | (go_at_call 195; (with_reducible refine (HPU.out _ (HM0.out.trans HM1.out)).mono ?_); rintro e w3 ⟨rfl, hic⟩; rw [HE.out.1]; have HIC := Lib.hid hic; clear hic)
  | fail)
 go_ret2
 have q1 := HQ.out.still (HM0.out.trans HM1.out)
 have hsc := (q1.strs _ HZ.out).inS HO.out HIC.out
 refine ⟨G, rfl, ?_⟩
 rw [HE.out.2]
 exact (HQ.out.stay (HM0.out.trans HM1.out)).trans (hsc.tt q1 HZ.out)
set_option maxHeartbeats 1000000 in
theorem come_new {B : Nat} {w : World} {tb mb : Nat} {G : Int → SM} {T : Tb} (q : TBuf B w tb mb G T) {f : Fr} {vd vr dv : Value} {data : List UInt8} {last : Bool} (h16 : f.t.length = 16) (hd : Byts w dv data) (hi : (f.id : Int) < 4611686018427387912) (hs : Small T) (hc : ComeOk T f.id f.a data.length last) (hz : (f.id : Int) ∉ T.dom) :
  Calls Tryz.prog 106 #[.pointer (some ⟨tb, 0, none⟩), .agg (frC f vd vr), dv, .bool last] w fun e w' => TCome B w w' tb mb G T (comeT T f.id f.a data last) f.id e := by
 obtain ⟨da, dc, rfl, -⟩ := Sl.val hd
 have hE : (f.a : Int) + (data.length : Int) = ((f.a + data.length : Nat) : Int) := by push_cast; rfl
 have hfit := hc.fits
 have HB := Lib.hid (FrB.new w f vd vr h16)
 have b1 : (w.alloc (.cells (frC f vd vr) 91)).cell? ⟨w.heap.size, 1, none⟩ = some (.int .u64 (f.id : Int)) := HB.out.cells.2.1
 have b2 : (w.alloc (.cells (frC f vd vr) 91)).cell? ⟨w.heap.size, 2, none⟩ = some (.int .u64 (f.a : Int)) := HB.out.cells.2.2.1
 have HM0 : Hid (Mod (fun _ => False) w (w.alloc (.cells (frC f vd vr) 91))) := Lib.hid ((Mod.refl _ _).alloc _)
 have u1 : IntKind.u64.wrap (data.length : Int) = (data.length : Int) := IntWalk.u64_in _ (by omega)
 have u2 : IntKind.u64.wrap (4611686018427387903 - (data.length : Int)) = 4611686018427387903 - (data.length : Int) := IntWalk.u64_in _ (by omega)
 have u3 : IntKind.u64.wrap ((f.a : Int) + (data.length : Int)) = ((f.a + data.length : Nat) : Int) := by rw [IntWalk.u64_in _ (by omega)]; exact hE
 have t1 : decide (4611686018427387903 - (data.length : Int) < (f.a : Int)) = false := decide_eq_false (by omega)
 have HQ := Lib.hid q
 have HQ0 := Lib.hid (q.still HM0.out)
 have HFI := Lib.hid (find_any (q.still HM0.out) (id := f.id) (by unfold okId; omega) false)
 have hfv : findV G T f.id false = .pointer none := by unfold findV; rw [if_neg (fun h => hz h.2)]
 have hri := hc.rises
 rw [if_neg hz] at hri
 have hin : inO T f.id = newI T.own.s := by unfold inO; rw [if_neg hz]
 have hpe := hc.put
 rw [hin] at hpe
 rw [hfv, hc.find] at HFI
 have HRI := Lib.hid (rises_none (q.still HM0.out) hs.len hs.tops (f.a + data.length) (by omega) hs.read)
 rw [hri] at HRI
 have HPA := Lib.hid (fun w1 (hm : Mod (fun _ => False) (w.alloc (.cells (frC f vd vr) 91)) w1) => part_none (q.still (HM0.out.trans hm)))
 have HPU := Lib.hid (fun w1 B' ib mbi (hm : Mod (fun _ => False) w w1) (hI : IBuf B' w1 ib mbi (newI T.own.s)) => iput_any hI (byts_kept hd hm) f.a last hfit)
 have HMK := Lib.hid (fun w1 (hm : Mod (fun _ => False) w w1) => make_any (q.still hm) hi hz hs.len)
 have HE : Hid (putErr (newI T.own.s) f.a data.length last = 0 ∧ comeT T f.id f.a (data) last = { mkT T f.id with m := updM (mkT T f.id).m f.id { (mkT T f.id).m f.id with inn := some (putI (newI T.own.s) f.a data last) } }) := Lib.hid ⟨hpe, by unfold comeT; rw [if_neg hz, hin]⟩
 have HZ := Lib.hid hz
 clear q hd hs hc hz hE hfit hfv hri hin hpe h16 hi
 generalize frC f vd vr = C at *
 generalize ((f.a + data.length : Nat) : Int) = E at *
 go_enter Tryz.func106, Tryz.ntmps106
 go_wp2_with (first
  | (go_at_call 192; (with_reducible refine HFI.out.mono ?_); rintro e w1 ⟨rfl, rfl⟩; generalize (w.alloc (.cells C 91)) = W0 at *)
  | (go_at_call 193; (with_reducible refine HRI.out.mono ?_); rintro e w1 ⟨rfl, hm⟩; have HM1 := Lib.hid hm; clear hm)
  | (go_at_call 194; (with_reducible refine (HPA.out _ HM1.out).mono ?_); rintro e w2 ⟨ib, mbi, rfl, hI, hm⟩; have b2' : w2.cell? ⟨w.heap.size, 2, none⟩ = some (.int .u64 (f.a : Int)) := hm.cellAt (HM1.out.cellAt b2 (fun h => h)) (fun h => h); have b1' : w2.cell? ⟨w.heap.size, 1, none⟩ = some (.int .u64 (f.id : Int)) := hm.cellAt (HM1.out.cellAt b1 (fun h => h)) (fun h => h); have HM2 := Lib.hid ((HM0.out.trans HM1.out).trans hm); have HI := Lib.hid hI; have hb2 := block_lt_of_cell b1'; clear hm hI)
  | (go_at_call 195; (with_reducible refine (HPU.out _ _ _ _ HM2.out HI.out).mono ?_); rintro e w3 ⟨rfl, hic⟩; rw [HE.out.1]; have HM3 : Hid (Mod (fun _ => False) w w3) := Lib.hid (HM2.out.trans' hic.2 (fun k hk e => by have := (HI.out.lt k e).1; have := (HM0.out.trans HM1.out).size; omega)); have b1'' : w3.cell? ⟨w.heap.size, 1, none⟩ = some (.int .u64 (f.id : Int)) := hic.2.cellAt b1' (fun e => by have := (HI.out.lt _ e).1; have := block_lt_of_cell b1; have := HM1.out.size; omega); have HIC := Lib.hid hic; clear hic)
  | (go_at_call 42; (with_reducible refine (HMK.out _ HM3.out).mono ?_); rintro e w4 ⟨G4, rfl, hT⟩; have p1 := (hT.1.strs _ (mem_putD.2 (.inl rfl))).ptrs.2.1; have f1 := (hT.1.strs _ (mem_putD.2 (.inl rfl))).ptrs.2.2.2; have HT := Lib.hid hT; clear hT; generalize hsb : (G4 (f.id : Int)).sb = sb at *; have HSB := Lib.hid hsb; clear hsb)
  | fail)
 go_ret2
 have hfin := TT.putIn HQ.out HT.out HM3.out HIC.out.1 (HM0.out.trans HM1.out).size
 rw [HSB.out] at hfin
 refine ⟨updG G4 f.id { G4 (f.id : Int) with ib := ib, mb := mbi }, ?_, ?_⟩
 ·rw [updG_same]
  show _ = Ending.returned (.tuple #[.pointer (some ⟨(G4 (f.id : Int)).sb, 0, none⟩), .int .i64 0])
  rw [HSB.out]
  rfl
 ·rw [HE.out.2]
  exact hfin
theorem come_any {B : Nat} {w : World} {tb mb : Nat} {G : Int → SM} {T : Tb} (q : TBuf B w tb mb G T) {f : Fr} {vd vr dv : Value} {data : List UInt8} {last : Bool} (h16 : f.t.length = 16) (hd : Byts w dv data) (hi : (f.id : Int) < 4611686018427387912) (hs : Small T) (hc : ComeOk T f.id f.a data.length last) :
  Calls Tryz.prog 106 #[.pointer (some ⟨tb, 0, none⟩), .agg (frC f vd vr), dv, .bool last] w fun e w' => TCome B w w' tb mb G T (comeT T f.id f.a data last) f.id e := by
 by_cases hz : (f.id : Int) ∈ T.dom
 ·exact come_old q h16 hd hi hs hc hz
 ·exact come_new q h16 hd hi hs hc hz
theorem sizeFrR (f : Fr) (vd vr : Value) (h : f.t.length = 16) : (Tryz.prog.info? 91).map (·.size) = some (frC f vd vr).size := by rw [frC_size f vd vr h]; kernel_rfl
theorem takeStream_any {B : Nat} {w : World} {tb mb : Nat} {G : Int → SM} {T : Tb} (q : TBuf B w tb mb G T) {f : Fr} {vd vr : Value} (h16 : f.t.length = 16) (hd : Byts w vd f.d) (hi : (f.id : Int) < 4611686018427387912) (hs : Small T) (hc : ComeOk T f.id f.a f.d.length f.fl) :
  Calls Tryz.prog 57 #[.pointer (some ⟨tb, 0, none⟩), .agg (frC f vd vr)] w fun e w' => TErr B w w' tb mb G T (comeT T f.id f.a f.d f.fl) 0 e := by
 obtain ⟨da, dc, rfl, -⟩ := Sl.val hd
 have HB := Lib.hid (FrB.new w f (.slice da f.d.length dc) vr h16)
 obtain ⟨-, -, -, -, -, b5, b6, -⟩ := HB.out.cells
 have HM0 : Hid (Mod (fun _ => False) w (w.alloc (.cells (frC f (.slice da f.d.length dc) vr) 91))) := Lib.hid ((Mod.refl _ _).alloc _)
 have HQ := Lib.hid q
 have HCO := Lib.hid (come_any (q.still HM0.out) (f := f) (vd := .slice da f.d.length dc) (vr := vr) h16 (byts_kept hd HM0.out) hi hs hc)
 have HSZ := Lib.hid (sizeFrR f (.slice da f.d.length dc) vr h16)
 have HBL := Lib.hid HB.out.blk
 clear q hd hs hc hi h16
 generalize f.d.length = n at *
 generalize frC f (.slice da n dc) vr = C at *
 go_enter Tryz.func57, Tryz.ntmps57
 go_wp2_with (first
  | ((with_reducible refine wpList_load_blk ?_ 91 (.tmp 3) ?_ w.heap.size ?_ C 91 _ HBL.out Tryz.underlying91 ?_ HSZ.out ?_); (iterate 4 exact rfl))
  | (go_at_call 106; (with_reducible refine HCO.out.mono ?_); rintro e w1 ⟨G1, rfl, hT⟩; have HT := Lib.hid hT; clear hT)
  | fail)
 go_ret
 exact ⟨rfl, ((HQ.out.stay HM0.out).trans HT.out).tc⟩
def limitT (T : Tb) (id a : Nat) : Tb := { T with m := updM T.m id { T.m id with max := max (T.m id).max a } }
theorem outOf_any {B : Nat} {w : World} {tb mb : Nat} {G : Int → SM} {T : Tb} (q : TBuf B w tb mb G T) {id : Nat} (hi : okId id) (hz : (id : Int) ∈ T.dom) (hf : findE T id true = 0) :
  Calls Tryz.prog 108 #[.pointer (some ⟨tb, 0, none⟩), .int .u64 (id : Int)] w fun e w' => w = w' ∧ e = .returned (.tuple #[.pointer (some ⟨(G id).sb, 0, none⟩), .int .i64 0]) := by
 have hfv : findV G T id true = .pointer (some ⟨(G id).sb, 0, none⟩) := by unfold findV; rw [if_pos ⟨hf, hz⟩]
 have HFI := Lib.hid (find_any q hi true)
 rw [hfv, hf] at HFI
 clear q hi hz hf hfv
 go_enter Tryz.func108, Tryz.ntmps108
 go_wp2_with (first
  | (go_at_call 192; (with_reducible refine HFI.out.mono ?_); rintro e w1 ⟨rfl, rfl⟩)
  | fail)
 go_ret2
 exact ⟨rfl, rfl⟩
theorem takeLimit_any {B : Nat} {w : World} {tb mb : Nat} {G : Int → SM} {T : Tb} (q : TBuf B w tb mb G T) {f : Fr} {vd vr : Value} (h16 : f.t.length = 16) (hi : okId f.id) (hz : (f.id : Int) ∈ T.dom) (hf : findE T f.id true = 0) (ha : nat64 f.a) :
  Calls Tryz.prog 60 #[.pointer (some ⟨tb, 0, none⟩), .agg (frC f vd vr)] w fun e w' => TErr B w w' tb mb G T (limitT T f.id f.a) 0 e := by
 have HB := Lib.hid (FrB.new w f vd vr h16)
 obtain ⟨-, b1, b2, -⟩ := HB.out.cells
 have HM0 : Hid (Mod (fun _ => False) w (w.alloc (.cells (frC f vd vr) 91))) := Lib.hid ((Mod.refl _ _).alloc _)
 have q0 := q.still HM0.out
 have HQ := Lib.hid q
 have HO := Lib.hid (outOf_any q0 hi hz hf)
 have hs := q0.strs _ hz
 have c2 : (w.alloc (.cells (frC f vd vr) 91)).cell? ⟨(G f.id).sb, 2, none⟩ = some (.int .u64 ((T.m f.id).max : Int)) := hs.blk.cellAt 2 rfl
 have f2 : (w.alloc (.cells (frC f vd vr) 91)).frozen? ⟨(G f.id).sb, 2, none⟩ = false := hs.blk.free 2
 have hn := hs.num
 have mm : max ((T.m f.id).max : Int) (f.a : Int) = ((max (T.m f.id).max f.a : Nat) : Int) := by omega
 have hx : nat64 (max (T.m f.id).max f.a) := by have := hn.1; unfold nat64 at *; omega
 have hsc := hs.cell 2 (.int .u64 ((max (T.m f.id).max f.a : Nat) : Int)) (s' := { T.m f.id with max := max (T.m f.id).max f.a }) rfl rfl rfl (fun _ => rfl) ⟨hx, hn.2⟩
 have HT := Lib.hid (((q.stay HM0.out).trans (hsc.tt q0 hz)).drew)
 have hne : ¬ w.heap.size = (G f.id).sb := fun e => by have := (q.lt _ (.inr (.inr ⟨_, hz, .inl rfl⟩))).2; omega
 clear q q0 hs hn hx hsc hi hz hf ha h16
 generalize frC f vd vr = C at *
 generalize ((max (T.m f.id).max f.a : Nat) : Int) = y at *
 go_enter Tryz.func60, Tryz.ntmps60
 go_wp2_with (first
  | (go_at_call 108; (with_reducible refine HO.out.mono ?_); rintro e w1 ⟨rfl, rfl⟩; generalize (w.alloc (.cells C 91)) = W0 at *)
  | fail)
 go_region
 all_goals go_wp2_with fail
 go_ret
 exact ⟨rfl, HT.out.tc⟩
theorem takeData_any {B : Nat} {w : World} {tb mb : Nat} {G : Int → SM} {T : Tb} (q : TBuf B w tb mb G T) {f : Fr} {vd vr : Value} (h16 : f.t.length = 16) (ha : nat64 f.a) :
  Calls Tryz.prog 61 #[.pointer (some ⟨tb, 0, none⟩), .agg (frC f vd vr)] w fun e w' => TErr B w w' tb mb G T { T with data := max T.data f.a } 0 e := by
 have HB := Lib.hid (FrB.new w f vd vr h16)
 obtain ⟨-, -, b2, -⟩ := HB.out.cells
 have HM0 : Hid (Mod (fun _ => False) w (w.alloc (.cells (frC f vd vr) 91))) := Lib.hid ((Mod.refl _ _).alloc _)
 have q0 := q.still HM0.out
 have k8 : (w.alloc (.cells (frC f vd vr) 91)).cell? ⟨tb, 30, none⟩ = some (.int .u64 (T.data : Int)) := q0.cell 8 rfl
 have f8 : (w.alloc (.cells (frC f vd vr) 91)).frozen? ⟨tb, 30, none⟩ = false := q0.blk.free 30
 have mm : max (T.data : Int) (f.a : Int) = ((max T.data f.a : Nat) : Int) := by omega
 have hx : nat64 (max T.data f.a) := by have := q.num.2.2.2.2.2.2.2.2.2.2.2.1; unfold nat64 at *; omega
 have HT := Lib.hid (((q.stay HM0.out).trans (q0.setData _ hx)).drew)
 have hne : ¬ w.heap.size = tb := fun e => by have := q.blk.lt; omega
 clear q q0 hx ha h16
 generalize frC f vd vr = C at *
 generalize ((max T.data f.a : Nat) : Int) = y at *
 go_enter Tryz.func61, Tryz.ntmps61
 go_wp2_with fail
 generalize (w.alloc (.cells C 91)) = W0 at *
 go_region
 all_goals go_wp2_with fail
 go_ret
 exact ⟨rfl, HT.out.tc⟩
def frZu : Array Value := frC ⟨0, 0, 0, 0, 0, false, [], [], List.replicate 16 0⟩ (.slice none 0 0) (.slice none 0 0)
theorem infoFrU : (Tryz.prog.info? 91).map (fun i => (i.zero, i.size, i.bytes)) = some (some (.agg frZu), 24, 112) := by kernel_rfl
def FrI (w : World) (B E : Nat) (f : Fr) (cs : List Value) : Prop := ∃ vd, cs = frL f vd (.slice none 0 0) ∧ OwnB w B vd f.d ∧ (∀ g, vd.ownBlock = some g → g < E) ∧ f.rs = [] ∧ f.t.length = 16
theorem FrI.kept {S : Nat → Prop} {w w' : World} {B E : Nat} {f : Fr} {cs : List Value} (h : FrI w B E f cs) (hM : Mod S w w') (hS : ∀ b C, Blk w b C 5 → B ≤ b → b < E → ¬ S b) : FrI w' B E f cs := by
 obtain ⟨vd, h1, h2, h3, h4⟩ := h
 refine ⟨vd, h1, hM.own h2 (fun g hg e => ?_), h3, h4⟩
 have hE := h3 g hg
 rcases h2.2 with ⟨rfl, _⟩ | ⟨g', cap, cur, rfl, hb, hgg, _⟩
 ·simp [Value.ownBlock] at hg
 ·simp [Value.ownBlock] at hg; subst hg
  exact hS _ _ (show Blk w g' cur 5 from hgg) hb hE e
theorem FrI.more {w : World} {B B' E E' : Nat} {f : Fr} {cs : List Value} (h : FrI w B E f cs) (hE : E ≤ E') (hB : B' ≤ B) : FrI w B' E' f cs := by
 obtain ⟨vd, h1, h2, h3, h4⟩ := h
 exact ⟨vd, h1, h2.base hB, fun g hg => Nat.lt_of_lt_of_le (h3 g hg) hE, h4⟩
theorem FrI.len {w : World} {B E : Nat} {f : Fr} {cs : List Value} (h : FrI w B E f cs) : cs.length = 24 := by
 obtain ⟨vd, rfl, _, _, _, h4⟩ := h
 simp [frL, h4]
theorem FrI.one {w : World} {B E : Nat} {f : Fr} {cs : List Value} (h : FrI w B E f cs) : ∀ u ∈ cs, u.oneCell' = true := by
 obtain ⟨vd, rfl, h2, _, _, h4⟩ := h
 obtain ⟨da, dc, rfl, _⟩ := Sl.val h2.byts
 intro v hv
 simp only [frL, List.mem_append, List.mem_cons, List.not_mem_nil, or_false] at hv
 rcases hv with (rfl | rfl | rfl | rfl | rfl | rfl | rfl | rfl) | hv <;> try rfl
 exact bv_one _ _ hv
theorem FrI.frv {w : World} {B E : Nat} {f : Fr} {cs : List Value} (h : FrI w B E f cs) (hl : (f.d.length : Int) ≤ 140737488355328) : ∃ vd, cs = frL f vd (.slice none 0 0) ∧ FrV w f vd (.slice none 0 0) := by
 obtain ⟨vd, h1, h2, _, h4, h5⟩ := h
 refine ⟨vd, h1, ⟨h2.byts, ?_, h5, hl, by rw [h4]; decide⟩⟩
 rw [h4]
 exact ⟨rfl, none, 0, rfl, Nat.le_refl _, by decide, fun _ => rfl, fun j u hu => by simp at hu⟩
def FrsI (w : World) (B E : Nat) : List Fr → List (List Value) → Prop
 | [], css => css = []
 | f :: l, css => ∃ c cs, css = c :: cs ∧ FrI w B E f c ∧ FrsI w B E l cs
theorem FrsI.kept {S : Nat → Prop} {w w' : World} {B E : Nat} (hM : Mod S w w') (hS : ∀ b C, Blk w b C 5 → B ≤ b → b < E → ¬ S b) : ∀ {l : List Fr} {css : List (List Value)}, FrsI w B E l css → FrsI w' B E l css
 | [], _, h => h
 | _ :: _, _, ⟨c, cs, h1, h2, h3⟩ => ⟨c, cs, h1, h2.kept hM hS, h3.kept hM hS⟩
theorem FrsI.more {w : World} {B B' E E' : Nat} (hE : E ≤ E') (hB : B' ≤ B) : ∀ {l : List Fr} {css : List (List Value)}, FrsI w B E l css → FrsI w B' E' l css
 | [], _, h => h
 | _ :: _, _, ⟨c, cs, h1, h2, h3⟩ => ⟨c, cs, h1, h2.more hE hB, h3.more hE hB⟩
theorem FrsI.snoc {w : World} {B E : Nat} : ∀ {l : List Fr} {css : List (List Value)} {f : Fr} {c : List Value}, FrsI w B E l css → FrI w B E f c → FrsI w B E (l ++ [f]) (css ++ [c])
 | [], _, f, c, h, hc => by
  have : _ = [] := h
  subst this
  exact ⟨c, [], rfl, hc, rfl⟩
 | g :: l, _, f, c, ⟨d, cs, h1, h2, h3⟩, hc => by
  subst h1
  exact ⟨d, cs ++ [c], rfl, h2, h3.snoc hc⟩
theorem FrsI.len {w : World} {B E : Nat} : ∀ {l : List Fr} {css : List (List Value)}, FrsI w B E l css → css.length = l.length ∧ css.flatten.length = l.length * 24
 | [], _, h => by
  have : _ = [] := h
  subst this
  simp
 | f :: l, _, ⟨c, cs, h1, h2, h3⟩ => by
  subst h1
  obtain ⟨e1, e2⟩ := h3.len
  have h24 := h2.len
  rw [List.flatten_cons, List.length_append, List.length_cons, List.length_cons]
  omega
theorem FrsI.at {w : World} {B E : Nat} : ∀ {l : List Fr} {css : List (List Value)} {i : Nat} {f : Fr}, FrsI w B E l css → l[i]? = some f → ∃ c, FrI w B E f c ∧ ∀ j, j < 24 → css.flatten[i * 24 + j]? = c[j]?
 | [], _, i, f, _, hi => by simp at hi
 | g :: l, _, 0, f, ⟨d, cs, h1, h2, h3⟩, hi => by
  subst h1
  simp at hi
  subst hi
  refine ⟨d, h2, fun j hj => ?_⟩
  rw [List.flatten_cons, List.getElem?_append_left (by rw [h2.len]; omega)]
  congr 1
  omega
 | g :: l, _, i + 1, f, ⟨d, cs, h1, h2, h3⟩, hi => by
  subst h1
  obtain ⟨c, hc, he⟩ := h3.at (i := i) (f := f) (by simpa using hi)
  refine ⟨c, hc, fun j hj => ?_⟩
  rw [List.flatten_cons, List.getElem?_append_right (by rw [h2.len]; omega), h2.len, ← he j hj]
  congr 1
  omega
def OwnFI (w : World) (B E : Nat) (v : Value) (l : List Fr) : Prop := (∃ css, FrsI w B E l css ∧ w.ownsRow B 91 24 v l.length css.flatten) ∧ (∀ g, v.ownBlock = some g → g < E)
theorem OwnFI.nil (w : World) (B E : Nat) : OwnFI w B E (.slice none 0 0) [] := ⟨⟨[], rfl, World.ownsRow_nil _ _ _ _⟩, fun g h => by simp [Value.ownBlock] at h⟩
theorem OwnFI.more {w : World} {B B' E E' : Nat} {v : Value} {l : List Fr} (h : OwnFI w B E v l) (hE : E ≤ E') (hB : B' ≤ B) : OwnFI w B' E' v l := by
 obtain ⟨⟨css, h1, h2⟩, h3⟩ := h
 refine ⟨⟨css, h1.more hE hB, h2.1, ?_⟩, fun g hg => Nat.lt_of_lt_of_le (h3 g hg) hE⟩
 rcases h2.2 with h' | ⟨g, cap, cur, e1, e2, e3⟩
 ·exact .inl h'
 ·exact .inr ⟨g, cap, cur, e1, Nat.le_trans hB e2, e3⟩
theorem OwnFI.lt {w : World} {B E : Nat} {v : Value} {l : List Fr} (h : OwnFI w B E v l) : ∀ g, v.ownBlock = some g → B ≤ g ∧ g < w.heap.size := by
 obtain ⟨⟨css, _, h2⟩, _⟩ := h
 exact fun g hg => World.ownsRow.lt h2 g hg
theorem OwnFI.kept {S : Nat → Prop} {w w' : World} {B E : Nat} {v : Value} {l : List Fr} (h : OwnFI w B E v l) (hM : Mod S w w') (hS : ∀ b, B ≤ b → b < E → ¬ S b) : OwnFI w' B E v l := by
 have hlt := h.lt
 obtain ⟨⟨css, h1, h2⟩, h3⟩ := h
 exact ⟨⟨css, h1.kept hM (fun b _ _ hB hE => hS b hB hE), hM.own h2 (fun g hg => hS g (hlt g hg).1 (h3 g hg))⟩, h3⟩
theorem OwnFI.still {w w' : World} {B E : Nat} {v : Value} {l : List Fr} (h : OwnFI w B E v l) (hM : Mod (fun _ => False) w w') : OwnFI w' B E v l := h.kept hM (fun _ _ _ h => h)
theorem OwnFI.val {w : World} {B E : Nat} {v : Value} {l : List Fr} (h : OwnFI w B E v l) : ∃ a cap, v = .slice a l.length cap := by
 obtain ⟨⟨css, _, h2⟩, _⟩ := h
 obtain ⟨a, cap, e, _⟩ := Sl.val (Sl.ofOwn h2)
 exact ⟨a, cap, e⟩
theorem OwnFI.apart {w : World} {B E b : Nat} {v : Value} {l : List Fr} {C : Array Value} {T : TypeId} (h : OwnFI w B E v l) (hb : Blk w b C T) (ht : T ≠ 91) : ¬ v.ownBlock = some b := by
 obtain ⟨⟨css, _, h2⟩, _⟩ := h
 intro e
 rcases h2.2 with ⟨rfl, _⟩ | ⟨g, cap, cur, rfl, _, hg, _⟩
 ·simp [Value.ownBlock] at e
 ·simp [Value.ownBlock] at e
  subst e
  exact Blk.ne hb (show Blk w g cur 91 from hg) ht rfl
theorem OwnFI.at {w : World} {B E i n cap : Nat} {a : Option Addr} {l : List Fr} {f : Fr} (h : OwnFI w B E (.slice a n cap) l) (hi : l[i]? = some f) : ∃ g c, a = some ⟨g, 0, none⟩ ∧ FrI w B E f c ∧ w.rangeAt g (i * 24) c := by
 obtain ⟨⟨css, h1, h2⟩, h3⟩ := h
 have hlt := (List.getElem?_eq_some_iff.1 hi).1
 obtain ⟨c, hc, he⟩ := h1.at hi
 rcases h2.2 with ⟨e, h0⟩ | ⟨g, cap', cur, e, _⟩
 ·omega
 ·have hn : n = l.length := by simp at e; exact e.2.1
  subst hn
  obtain rfl : a = some ⟨g, 0, none⟩ := by simpa using And.left (by simpa using e)
  refine ⟨g, c, rfl, hc, fun j u hu => ?_⟩
  have hj : j < 24 := by rw [← hc.len]; exact (List.getElem?_eq_some_iff.1 hu).1
  have := World.ownsRow.cellAt h2 (i * 24 + j) (by omega)
  rw [this, he j hj, hu]
theorem fr_litI (w : World) {f : Fr} {vd vr : Value} (h : f.t.length = 16) : Sl (w.alloc (.cells (frC f vd vr) 91)) 24 (.slice (some ⟨w.heap.size, 0, none⟩) 1 1) 1 (frL f vd vr) := by
 have hb := Blk.new w (frC f vd vr) 91
 refine ⟨by simp [frL, h], some ⟨w.heap.size, 0, none⟩, 1, rfl, Nat.le_refl _, by decide, fun e => by simp at e, fun j u hu => ⟨w.heap.size, 0, rfl, ?_⟩⟩
 rw [Nat.zero_add]
 exact hb.cellAt j (by simpa [frC] using hu)
theorem OwnFI.grown {w w' : World} {B E : Nat} {v : Value} {l : List Fr} (h : OwnFI w B E v l) {f : Fr} {cs : List Value} (hf : FrI w B E f cs) (hg : w.grownBy w' v.ownBlock) {v' : Value} {css : List (List Value)} (h1 : FrsI w B E l css) (ho : w'.ownsRow B 91 24 v' (l.length + 1) (css.flatten ++ cs)) (hsz : E ≤ w'.heap.size) : OwnFI w' B w'.heap.size v' (l ++ [f]) := by
 have hM : Mod (fun j => v.ownBlock = some j) w w' := (Mod.refl (fun j => v.ownBlock = some j) _).grown hg (fun k hk _ => hk)
 have hS : ∀ b C, Blk w b C 5 → B ≤ b → b < E → ¬ v.ownBlock = some b := fun b C hb _ _ e => h.apart hb (by decide) e
 refine ⟨⟨css ++ [cs], ((h1.kept hM hS).snoc (hf.kept hM hS)).more hsz (Nat.le_refl _), by simpa using ho⟩, fun g hg => (World.ownsRow.lt ho g hg).2⟩
theorem wpList_append_fi {w : World} {ops : Array Oper} {rest : List Oper} {o : Oper} {a : Act} {Q : Exit → Act → World → Prop} (hgd : o.guard = none) (s x : Operand)
  (ho : o.op = .call { callee := .builtin .append, args := #[s, x], argTypes := #[86, 86] })
  (v : Value) (l : List Fr) (B E : Nat) (hs : a.eval s = v) (hown : OwnFI w B E v l)
  (sv : Value) (f : Fr) (cs : List Value) (hx : a.eval x = sv) (hsl : Sl w 24 sv 1 cs) (hf : FrI w B E f cs) (hE : E ≤ w.heap.size) (n : Nat) (hln : l.length = n) (hn : n ≤ 100000) (hbase : B ≤ w.heap.size)
  (h : ∀ ap cp w', OwnFI w' B w'.heap.size (.slice ap (n + 1) cp) (l ++ [f]) → w.grownBy w' v.ownBlock → wpList Tryz.prog ops Q rest (a.put o.dst (.slice ap (n + 1) cp)) w') : wpList Tryz.prog ops Q (o :: rest) a w := by
 subst hln
 have hall := hown
 obtain ⟨⟨css, h1, h2⟩, h3⟩ := hown
 obtain ⟨i0, hi, hz0, hz1, hz2⟩ := info_parts infoFrU
 refine wpList_append_sl hgd s x 86 ho B 91 i0 _ 24 112 Tryz.underlying86 hi hz0 hz1 hz2 rfl (by decide) v l.length css.flatten hs h2 sv 1 cs hx hsl hf.one (by omega) (by decide) hbase ?_
 intro v' w' ho' hg
 have ho2 := hall.grown hf hg h1 ho' (Nat.le_trans hE hg.size)
 obtain ⟨ap, cp, rfl, _⟩ := Sl.val (Sl.ofOwn ho')
 exact h ap cp w' ho2 hg
theorem wpList_build_fi {w : World} {ops : Array Oper} {rest : List Oper} {o : Oper} {a : Act} {Q : Exit → Act → World → Prop} (hgd : o.guard = none) (x : Operand)
  (ho : o.op = .buildSlice 86 1 #[(0, x)]) (f : Fr) (vd vr : Value) (h16 : f.t.length = 16) (hx : a.eval x = .agg (frC f vd vr))
  (h : wpList Tryz.prog ops Q rest (a.put o.dst (.slice (some ⟨w.heap.size, 0, none⟩) 1 1)) (w.alloc (.cells (frC f vd vr) 91))) : wpList Tryz.prog ops Q (o :: rest) a w := by
 obtain ⟨i0, hi, hz0, hz1, hz2⟩ := info_parts infoFrU
 refine wpList_buildSlice hgd 86 91 1 #[(0, x)] ho (frC f vd vr) i0 _ Tryz.underlying86 hi hz0 (by rw [hz1]; decide) (by rw [hz1]; decide) ?_ h
 rw [hz1]
 have e := Go.Great.fill_whole (s := 24) (by decide) [Value.agg (frC f vd vr)] ((Array.range (1 * 24)).map ((Value.agg frZu).cells[· % (Value.agg frZu).cells.size]!)) (fun v hv => by
  have := List.mem_singleton.1 hv
  subst this
  exact frC_size f vd vr h16) (by rw [Array.size_map, Array.size_range]; rfl)
 have e2 : (#[(0, x)].map fun (p : Nat × Operand) => (p.1, a.eval p.2)).toList = (([Value.agg (frC f vd vr)].zipIdx 0).map fun x => (x.2, x.1)) := by
  simp [hx]
 refine Eq.trans (congrArg _ e2) (e.trans ?_)
 simp [Value.cells]
theorem zero_fn (w : World) : (zeroValue 88).run Tryz.prog w = .ok .nilFunc w := by kernel_rfl
theorem exec_ins {w w' : World} {a : Act} {op : Oper} {m x v : Operand} {t : TypeId} (ho : op.op = .insert t m x v) {mv k e : Value} (hm : a.eval m = mv) (hx : a.eval x = k) (hv : a.eval v = e) (hr : (Instr.mapUpdate t mv k e).run Tryz.prog w = .ok () w') : (execOp a.eval op).run Tryz.prog w = .ok .skip w' := by
 unfold execOp
 simp only [ho, hm, hx, hv, Sem.run_bind, Sem.run_pure, Result.andThen_ok, hr]
theorem i64_wfS {z : Int} (h0 : 0 ≤ z) (h1 : z ≤ 100) : (Lit.int .i64 z).wf = true := by
 have e0 : IntKind.i64.min = -9223372036854775808 := by decide
 have e1 : IntKind.i64.max = 9223372036854775807 := by decide
 simp only [Lit.wf, e0, e1, Bool.and_eq_true, decide_eq_true_eq]
 omega
set_option maxHeartbeats 8000000 in
theorem take_by {B : Nat} {w : World} {tb mb : Nat} {G : Int → SM} {T T' : Tb} (q : TBuf B w tb mb G T) {f : Fr} {vd vr : Value} (h16 : f.t.length = 16) {n : Nat} (hk : f.k = 8 ∨ f.k = 4 ∨ f.k = 17 ∨ f.k = 16) (hn : n = if f.k = 8 then 57 else if f.k = 4 then 58 else if f.k = 17 then 60 else 61)
  (hc : ∀ w1, Mod (fun _ => False) w w1 → Calls Tryz.prog n #[.pointer (some ⟨tb, 0, none⟩), .agg (frC f vd vr)] w1 fun e w' => TErr B w1 w' tb mb G T T' 0 e) :
  Calls Tryz.prog 33 #[.pointer (some ⟨tb, 0, none⟩), .agg (frC f vd vr)] w fun e w' => TErr B w w' tb mb G T T' 0 e := by
 have HB := Lib.hid (FrB.new w f vd vr h16)
 have HM0 : Hid (Mod (fun _ => False) w (w.alloc (.cells (frC f vd vr) 91))) := Lib.hid ((Mod.refl _ _).alloc _)
 have HSZ := Lib.hid (sizeFrR f vd vr h16)
 have HQ := Lib.hid q
 have HC := Lib.hid hc
 have hmm := @run_makeMap Tryz.prog
 clear q hc h16
 generalize hC : frC f vd vr = C at *
 have HCC := Lib.hid hC
 clear hC
 have i0 := IMap.made 3 .i64 (w.alloc (.cells C 91)) (fun _ => Value.nilFunc)
 rw [World.size_alloc] at i0
 obtain ⟨v1, r1, i1, m1⟩ := i0.put Tryz.underlying3 (t := 131) (e := 88) (z := 8) (.func (.func 57) #[.pointer (some ⟨tb, 0, none⟩)] #[]) (i64_wfS (by decide) (by decide)) (by decide) Tryz.underlying131
 have R1 := Lib.hid r1
 clear r1
 obtain ⟨v2, r2, i2, m2⟩ := i1.put Tryz.underlying3 (t := 131) (e := 88) (z := 4) (.func (.func 58) #[.pointer (some ⟨tb, 0, none⟩)] #[]) (i64_wfS (by decide) (by decide)) (by simp [putD, maxLen]) Tryz.underlying131
 have R2 := Lib.hid r2
 clear r2
 obtain ⟨v3, r3, i3, m3⟩ := i2.put Tryz.underlying3 (t := 131) (e := 88) (z := 5) (.func (.func 59) #[.pointer (some ⟨tb, 0, none⟩)] #[]) (i64_wfS (by decide) (by decide)) (by simp [putD, maxLen]) Tryz.underlying131
 have R3 := Lib.hid r3
 clear r3
 obtain ⟨v4, r4, i4, m4⟩ := i3.put Tryz.underlying3 (t := 131) (e := 88) (z := 17) (.func (.func 60) #[.pointer (some ⟨tb, 0, none⟩)] #[]) (i64_wfS (by decide) (by decide)) (by simp [putD, maxLen]) Tryz.underlying131
 have R4 := Lib.hid r4
 clear r4
 obtain ⟨v5, r5, i5, m5⟩ := i4.put Tryz.underlying3 (t := 131) (e := 88) (z := 16) (.func (.func 61) #[.pointer (some ⟨tb, 0, none⟩)] #[]) (i64_wfS (by decide) (by decide)) (by simp [putD, maxLen]) Tryz.underlying131
 have R5 := Lib.hid r5
 clear r5
 obtain ⟨v6, r6, i6, m6⟩ := i5.put Tryz.underlying3 (t := 131) (e := 88) (z := 18) (.func (.func 62) #[.pointer (some ⟨tb, 0, none⟩)] #[]) (i64_wfS (by decide) (by decide)) (by simp [putD, maxLen]) Tryz.underlying131
 have R6 := Lib.hid r6
 clear r6
 have HIM := Lib.hid i6
 have HMM := Lib.hid (((((m1.trans m2).trans m3).trans m4).trans m5).trans m6)
 clear i0 i1 i2 i3 i4 i5 i6 m1 m2 m3 m4 m5 m6
 have HFM : Hid (Mod (fun _ => False) w v6) := Lib.hid ((HM0.out.alloc (.map #[] 0)).trans' HMM.out (fun k hk e => by omega))
 have HB6 := Lib.hid ((((Mod.refl (fun k => k = w.heap.size + 1) (w.alloc (.cells C 91))).alloc (.map #[] 0)).trans HMM.out).blk HB.out.blk (fun e => by omega))
 have b0 : v6.cell? ⟨w.heap.size, 0, none⟩ = some (.int .i64 f.k) := HB6.out.cellAt 0 rfl
 rw [HCC.out] at HB6
 have hnl : ∀ y, (if f.k = 8 then some (.func (.func 57) #[.pointer (some ⟨tb, 0, none⟩)] #[]) else if f.k = 4 then some (.func (.func 58) #[.pointer (some ⟨tb, 0, none⟩)] #[]) else if f.k = 17 then some (.func (.func 60) #[.pointer (some ⟨tb, 0, none⟩)] #[]) else some (.func (.func 61) #[.pointer (some ⟨tb, 0, none⟩)] #[])) = some y → (Instr.lookup 131 (.map (some (w.heap.size + 1))) (.int .i64 f.k) true).run Tryz.prog v6 = .ok (.tuple #[y, .bool true]) v6 := fun y hy => by
  have hl := HIM.out.lookok Tryz.underlying3 (t := 131) (e := 88) (z := f.k) (i64_wfS (by omega) (by omega)) Tryz.underlying131 (zero_fn v6)
  rw [hl]
  rcases hk with h | h | h | h <;> rw [h] at hy ⊢ <;> simp [putD, putF] at hy ⊢ <;> exact hy
 have hng : (.func (.func n) #[.pointer (some ⟨tb, 0, none⟩)] #[] : Value) = .func (.func n) #[.pointer (some ⟨tb, 0, none⟩)] #[] := rfl
 have hlk : (Instr.lookup 131 (.map (some (w.heap.size + 1))) (.int .i64 f.k) true).run Tryz.prog v6 = .ok (.tuple #[.func (.func n) #[.pointer (some ⟨tb, 0, none⟩)] #[], .bool true]) v6 := hnl _ (by
  rw [hn]
  rcases hk with h | h | h | h <;> rw [h] <;> rfl)
 have HCV := Lib.hid (HC.out v6 HFM.out)
 clear hnl hng hk
 rcases (show n = 57 ∨ n = 58 ∨ n = 60 ∨ n = 61 by
  rw [hn]; split
  ·exact .inl rfl
  ·split
   ·exact .inr (.inl rfl)
   ·split
    ·exact .inr (.inr (.inl rfl))
    ·exact .inr (.inr (.inr rfl))) with h | h | h | h <;> (
 rw [h] at hlk HCV
 clear hn
 generalize f.k = kk at *
 go_enter Tryz.func33, Tryz.ntmps33
 go_wp2_with (first
  | ((with_reducible refine wpList_skipr ?_ (exec_ins (m := .tmp 10) (x := .const (.int .i64 8)) (v := .tmp 12) ?_ ?_ ?_ ?_ R1.out) ?_); (iterate 5 exact rfl))
  | ((with_reducible refine wpList_skipr ?_ (exec_ins (m := .tmp 10) (x := .const (.int .i64 4)) (v := .tmp 14) ?_ ?_ ?_ ?_ R2.out) ?_); (iterate 5 exact rfl))
  | ((with_reducible refine wpList_skipr ?_ (exec_ins (m := .tmp 10) (x := .const (.int .i64 5)) (v := .tmp 16) ?_ ?_ ?_ ?_ R3.out) ?_); (iterate 5 exact rfl))
  | ((with_reducible refine wpList_skipr ?_ (exec_ins (m := .tmp 10) (x := .const (.int .i64 17)) (v := .tmp 18) ?_ ?_ ?_ ?_ R4.out) ?_); (iterate 5 exact rfl))
  | ((with_reducible refine wpList_skipr ?_ (exec_ins (m := .tmp 10) (x := .const (.int .i64 16)) (v := .tmp 20) ?_ ?_ ?_ ?_ R5.out) ?_); (iterate 5 exact rfl))
  | ((with_reducible refine wpList_skipr ?_ (exec_ins (m := .tmp 10) (x := .const (.int .i64 18)) (v := .tmp 22) ?_ ?_ ?_ ?_ R6.out) ?_); (iterate 5 exact rfl))
  | ((with_reducible refine wpList_load_blk ?_ 91 (.tmp 3) ?_ w.heap.size ?_ C 91 _ HB6.out Tryz.underlying91 ?_ HSZ.out ?_); (iterate 4 exact rfl))
  | ((with_reducible refine HCV.out.mono ?_); rintro e w1 ⟨rfl, hT⟩; have HT := Lib.hid hT; clear hT)
  | fail)
 go_ret
 exact ⟨rfl, TC.trans (HQ.out.stay HFM.out) HT.out⟩)
theorem exec_bu {w : World} {a : Act} {op : Oper} {t : TypeId} {pl : List (Nat × Operand)} (ho : op.op = .build t pl.toArray) (vals : List (Nat × Value)) (hv : pl.map (fun x => (x.1, a.eval x.2)) = vals) (cells : Array Value) (hb : Tryz.prog.built t vals = some cells) : (execOp a.eval op).run Tryz.prog w = .ok (.value (.agg cells)) w := by
 subst hv
 have e : (pl.toArray.map (fun x => (x.1, a.eval x.2))).toList = pl.map (fun x => (x.1, a.eval x.2)) := by simp
 unfold execOp
 simp only [ho, Sem.run_bind]
 rw [run_build w t _ cells (by rw [e]; exact hb)]
 rfl
theorem step_build_fi {w : World} {ops : Array Oper} {o : Oper} {a : Act} {K : Act → World → Prop} {Q : Exit → Act → World → Prop} {E : Prop} (hgd : o.guard = none) (x : Operand)
  (ho : o.op = .buildSlice 86 1 #[(0, x)]) (f : Fr) (vd vr : Value) (h16 : f.t.length = 16) (hx : a.eval x = .agg (frC f vd vr))
  (h : K (a.put o.dst (.slice (some ⟨w.heap.size, 0, none⟩) 1 1)) (w.alloc (.cells (frC f vd vr) 91))) :
  if Region.wanted o (yielded ops a.tmps) = true then Oper.wp Tryz.prog o a w K Q else E := by
 have hw : Region.wanted o (yielded ops a.tmps) = true := by simp [Region.wanted, hgd]
 rw [if_pos hw]
 obtain ⟨i0, hi, hz0, hz1, hz2⟩ := info_parts infoFrU
 refine wp_buildSlice 86 91 1 #[(0, x)] ho (frC f vd vr) i0 _ Tryz.underlying86 hi hz0 (by rw [hz1]; decide) (by rw [hz1]; decide) ?_ h
 rw [hz1]
 have e := Go.Great.fill_whole (s := 24) (by decide) [Value.agg (frC f vd vr)] ((Array.range (1 * 24)).map ((Value.agg frZu).cells[· % (Value.agg frZu).cells.size]!)) (fun v hv => by
  have := List.mem_singleton.1 hv
  subst this
  exact frC_size f vd vr h16) (by rw [Array.size_map, Array.size_range]; rfl)
 have e2 : (#[(0, x)].map fun (p : Nat × Operand) => (p.1, a.eval p.2)).toList = (([Value.agg (frC f vd vr)].zipIdx 0).map fun x => (x.2, x.1)) := by
  simp [hx]
 refine Eq.trans (congrArg _ e2) (e.trans ?_)
 simp [Value.cells]
theorem step_append_fi {w : World} {ops : Array Oper} {o : Oper} {a : Act} {K : Act → World → Prop} {Q : Exit → Act → World → Prop} {E' : Prop} (hgd : o.guard = none) (s x : Operand)
  (ho : o.op = .call { callee := .builtin .append, args := #[s, x], argTypes := #[86, 86] })
  (v : Value) (l : List Fr) (B E : Nat) (hs : a.eval s = v) (hown : OwnFI w B E v l)
  (sv : Value) (f : Fr) (cs : List Value) (hx : a.eval x = sv) (hsl : Sl w 24 sv 1 cs) (hf : FrI w B E f cs) (hE : E ≤ w.heap.size) (n : Nat) (hln : l.length = n) (hn : n ≤ 100000) (hbase : B ≤ w.heap.size)
  (h : ∀ ap cp w', OwnFI w' B w'.heap.size (.slice ap (n + 1) cp) (l ++ [f]) → w.grownBy w' v.ownBlock → K (a.put o.dst (.slice ap (n + 1) cp)) w') :
  if Region.wanted o (yielded ops a.tmps) = true then Oper.wp Tryz.prog o a w K Q else E' := by
 subst hln
 have hall := hown
 obtain ⟨⟨css, h1, h2⟩, h3⟩ := hown
 obtain ⟨i0, hi, hz0, hz1, hz2⟩ := info_parts infoFrU
 refine step_append_sl hgd s x 86 ho B 91 i0 _ 24 112 Tryz.underlying86 hi hz0 hz1 hz2 rfl (by decide) v l.length css.flatten hs h2 sv 1 cs hx hsl hf.one (by omega) (by decide) hbase ?_
 intro v' w' ho' hg
 have ho2 := hall.grown hf hg h1 ho' (Nat.le_trans hE hg.size)
 obtain ⟨ap, cp, rfl, _⟩ := Sl.val (Sl.ofOwn ho')
 exact h ap cp w' ho2 hg
def z16 : List UInt8 := List.replicate 16 0
def resetF (id sent code : Nat) : Fr := ⟨4, id, sent, 0, code, false, [], [], z16⟩
def limitF (id a : Nat) : Fr := ⟨17, id, a, 0, 0, false, [], [], z16⟩
def dataF (a : Nat) : Fr := ⟨16, 0, a, 0, 0, false, [], [], z16⟩
def streamF (id off : Nat) (d : List UInt8) (e : Bool) : Fr := ⟨8, id, off, 0, 0, e, d, [], z16⟩
def nilS : Value := .slice none 0 0
theorem built_reset (id sent code : Nat) : Tryz.prog.built 91 [(0, .int .i64 4), (1, .int .u64 (id : Int)), (4, .int .u64 (code : Int)), (2, .int .u64 (sent : Int))] = some (frC (resetF id sent code) nilS nilS) := by kernel_rfl
theorem built_limit (id a : Nat) : Tryz.prog.built 91 [(0, .int .i64 17), (1, .int .u64 (id : Int)), (2, .int .u64 (a : Int))] = some (frC (limitF id a) nilS nilS) := by kernel_rfl
theorem built_data (a : Nat) : Tryz.prog.built 91 [(0, .int .i64 16), (2, .int .u64 (a : Int))] = some (frC (dataF a) nilS nilS) := by kernel_rfl
theorem built_stream (id off : Nat) (d : List UInt8) (e : Bool) (a : Option Addr) (n c : Nat) : Tryz.prog.built 91 [(0, .int .i64 8), (1, .int .u64 (id : Int)), (2, .int .u64 (off : Int)), (6, .slice a n c), (5, .bool e)] = some (frC (streamF id off d e) (.slice a n c) nilS) := by kernel_rfl
theorem FrI.plain (w : World) (B E : Nat) (f : Fr) (h1 : f.d = []) (h2 : f.rs = []) (h3 : f.t.length = 16) : FrI w B E f (frL f nilS nilS) := ⟨nilS, rfl, by rw [h1]; exact OwnB.nilI _ _, fun g hg => by simp [nilS, Value.ownBlock] at hg, h2, h3⟩
def dueL (s : St) (id : Nat) : List Fr :=
 (if s.tR then [resetF id ((s.out.map sentO).getD 0) s.code] else []) ++ (if s.tM && !s.over then [limitF id ((s.inn.map (fun o => o.read + o.win)).getD 0)] else [])
end Go.Proofs.YtahgidkpjmecdaaGreatDoor
