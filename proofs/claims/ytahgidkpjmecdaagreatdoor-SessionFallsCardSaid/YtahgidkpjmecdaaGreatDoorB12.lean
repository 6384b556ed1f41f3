/- Parts of the proof: StJ StK. -/
import Derived.Test.YtahgidkpjmecdaaGreatDoorB08
import Derived.Test.YtahgidkpjmecdaaGreatDoorB11
import Derived.Deep.QuietTactic
import Derived.BigQuiet
set_option maxRecDepth 100000
namespace Go.Proofs.YtahgidkpjmecdaaGreatDoor
open Go.RowKit Go.Maps
structure FR (B : Nat) (w W : World) (g : SM) (s : St) : Prop where
 mod : Mod (fun _ => False) w W
 buf : SBuf B W g s
 fr : ∀ k, SS g s k → w.heap.size ≤ k
 at0 : B ≤ W.heap.size
theorem FR.out {B : Nat} {w W w1 : World} {g : SM} {s : St} {ob : Nat} {bv sv : Value} {o : OB} (h : FR B w W g s) (hM : Mod (fun _ => False) W w1) (hO : OBuf W.heap.size w1 ob bv sv o) :
  FR B w (w1.setCell ⟨g.sb, 0, none⟩ (.pointer (some ⟨ob, 0, none⟩))) { g with ob := ob, bv := bv, sv := sv } { s with out := some o } := by
 have hsc := h.buf.putOut h.at0 hM hO
 refine ⟨h.mod.trans' hsc.2.2.2 (fun k hk e => by have := h.fr k e; omega), hsc.1, fun k hk => ?_, Nat.le_trans h.at0 hsc.2.2.2.size⟩
 rcases hsc.2.2.1 k hk with e | e
 ·exact h.fr k e
 ·have := h.mod.size; omega
theorem FR.inn {B : Nat} {w W w1 : World} {g : SM} {s : St} {ib mb : Nat} {o : IB} (h : FR B w W g s) (hM : Mod (fun _ => False) W w1) (hO : IBuf W.heap.size w1 ib mb o) :
  FR B w (w1.setCell ⟨g.sb, 1, none⟩ (.pointer (some ⟨ib, 0, none⟩))) { g with ib := ib, mb := mb } { s with inn := some o } := by
 have hsc := h.buf.putInS h.at0 hM hO
 refine ⟨h.mod.trans' hsc.2.2.2 (fun k hk e => by have := h.fr k e; omega), hsc.1, fun k hk => ?_, Nat.le_trans h.at0 hsc.2.2.2.size⟩
 rcases hsc.2.2.1 k hk with e | e
 ·exact h.fr k e
 ·have := h.mod.size; omega
theorem FR.put {B : Nat} {w W : World} {tb mb : Nat} {G : Int → SM} {T : Tb} {g : SM} {s : St} {id : Nat} (q : TBuf B w tb mb G T) (hz : (id : Int) ∉ T.dom) (hi : (id : Int) < 4611686018427387912) (hl : T.dom.length ≤ 1000) (h : FR B w W g s) :
  ∃ w', (Instr.mapUpdate 99 (.map (some mb)) (.int .u64 (id : Int)) (.pointer (some ⟨g.sb, 0, none⟩))).run Tryz.prog W = .ok () w' ∧ TT B w w' tb mb G (updG G id g) T { T with dom := putD (id : Int) T.dom, m := updM T.m id s } := by
 obtain ⟨w', hr, hI, hM⟩ := (q.still h.mod).map.put Tryz.underlying34 (t := 99) (e := 104) (z := (id : Int)) (.pointer (some ⟨g.sb, 0, none⟩)) (u64_wf (by omega)) (by unfold maxLen; omega) Tryz.underlying99
 exact ⟨w', hr, q.add hz ⟨by omega, hi⟩ h.mod h.buf h.fr hI hM⟩
def TMk (B : Nat) (w w' : World) (tb mb : Nat) (G : Int → SM) (T T' : Tb) (id : Nat) (e : Ending) : Prop := ∃ G', e = .returned (.pointer (some ⟨(G' (id : Int)).sb, 0, none⟩)) ∧ TT B w w' tb mb G G' T T'
theorem TBuf.own3 {B : Nat} {w : World} {tb mb : Nat} {G : Int → SM} {T : Tb} (q : TBuf B w tb mb G T) : w.cell? ⟨tb, 3, none⟩ = some (.int .u64 (T.own.s : Int)) ∧ w.cell? ⟨tb, 22, none⟩ = some (.map (some mb)) := ⟨q.blk.cellAt 3 rfl, q.mapc⟩
theorem SBuf.ptrs {B : Nat} {w : World} {g : SM} {s : St} (q : SBuf B w g s) : w.cell? ⟨g.sb, 0, none⟩ = some (ptrO g.ob s.out) ∧ w.cell? ⟨g.sb, 1, none⟩ = some (ptrI g.ib s.inn) ∧ w.frozen? ⟨g.sb, 0, none⟩ = false ∧ w.frozen? ⟨g.sb, 1, none⟩ = false := ⟨q.blk.cellAt 0 rfl, q.blk.cellAt 1 rfl, q.blk.free 0, q.blk.free 1⟩
theorem make_tt {B : Nat} {w : World} {tb mb : Nat} {G : Int → SM} {T : Tb} (q : TBuf B w tb mb G T) {id : Nat} (hi : (id : Int) < 4611686018427387912) (hz : (id : Int) ∉ T.dom) (hl : T.dom.length ≤ 1000) (hm : mineB T.client id = true) (hw : oneWay id = true) :
  Calls Tryz.prog 42 #[.pointer (some ⟨tb, 0, none⟩), .int .u64 (id : Int)] w fun e w' => TMk B w w' tb mb G T (mkT T id) id e := by
 have hok : okId id := by unfold okId; omega
 have hlt : tb < w.heap.size := q.blk.lt
 have hB : B ≤ w.heap.size := Nat.le_of_lt (Nat.lt_of_le_of_lt q.at0 hlt)
 have ne1 : ¬ w.heap.size + 1 = tb := by omega
 have ne2 : ¬ tb = w.heap.size + 1 := by omega
 have c5 : w.cell? ⟨tb, 29, none⟩ = some (.int .u64 (T.stream : Int)) := q.cell 7 rfl
 have hmm := @run_makeMap Tryz.prog
 have hb2 : bits .and .u64 (id : Int) 2 = 2 := by
  rw [and2 hok]
  rcases and2_cases id with ⟨h1, h2⟩ | ⟨h1, h2⟩
  ·rw [h2] at hw; cases hw
  ·rw [h1]; rfl
 have HMI : Hid (∀ W, Mod (fun _ => False) w W → Calls Tryz.prog 72 #[.pointer (some ⟨tb, 0, none⟩), .int .u64 (id : Int)] W fun e w' => W = w' ∧ e = .returned (.bool true)) := Lib.hid (fun W hW => by
  have := mine_any (q.still hW) hok
  rw [hm] at this
  exact this)
 have HN : Hid (newS T id = { st0 T.stream with out := some (newO 0), inn := none }) := Lib.hid (by unfold newS hasOut hasIn; rw [hm, hw]; rfl)
 have HS0 : Hid (FR B w ((w.alloc (.map #[] 0)).alloc (.cells #[.pointer none, .pointer none, .int .u64 (T.stream : Int), .int .u64 0, .bool false, .bool false, .int .u64 0, .int .u64 0, .int .u64 0, .bool false, .bool false, .map (some w.heap.size), .bool false, .int .u64 0] 109)) (⟨w.heap.size + 1, 0, .slice none 0 0, .slice none 0 0, 0, 0, w.heap.size⟩ : SM) (st0 T.stream)) := Lib.hid (by
  refine ⟨((Mod.refl _ _).alloc _).alloc _, SBuf.fresh B w hB _ q.num.2.2.2.2.2.2.2.2.2.2.1, ?_, by simp; omega⟩
  rintro k (e | e | e | e)
  ·have : k = w.heap.size + 1 := e
   omega
  ·have : k = w.heap.size := e
   omega
  ·cases e.1
  ·cases e.1)
 have us : IntKind.i64.wrap (T.own.s : Int) = (T.own.s : Int) := IntWalk.i64_in _ (by have := q.num.2.2.1; omega)
 have HIN := Lib.hid (fun W => inew_any W T.own.s (by have := q.num.2.2.1; omega))
 have HON : Hid (∀ W, Calls Tryz.prog 73 #[.int .u64 0] W fun e w' => e = .returned (.pointer (some ⟨W.heap.size, 0, none⟩)) ∧ OBuf W.heap.size w' W.heap.size (.slice none 0 0) (.slice none 0 0) (newO 0) ∧ Mod (fun _ => False) W w') := Lib.hid (fun W => onew_any W 0 (by decide))
 have HQ := Lib.hid q
 have HZ := Lib.hid (And.intro hz (And.intro hi hl))
 clear q hz hl hm hw hok hlt hB
 generalize hidz : (id : Int) = z at c5 hb2 HMI ⊢
 have HI := Lib.hid hidz
 clear hidz hi
 go_enter Tryz.func42, Tryz.ntmps42
 go_wp2_with (first
  | (go_at_call 72; (with_reducible refine (HMI.out _ ?_).mono ?_); (· exact ((Mod.refl _ _).alloc _).alloc _); rintro e w1 ⟨rfl, rfl⟩; generalize (w.alloc (.map #[] 0)).alloc (.cells #[.pointer none, .pointer none, .int .u64 (T.stream : Int), .int .u64 0, .bool false, .bool false, .int .u64 0, .int .u64 0, .int .u64 0, .bool false, .bool false, .map (some w.heap.size), .bool false, .int .u64 0] 109) = W at *; have k0 : W.cell? ⟨w.heap.size + 1, 0, none⟩ = some (.pointer none) := HS0.out.buf.ptrs.1; have k1 : W.cell? ⟨w.heap.size + 1, 1, none⟩ = some (.pointer none) := HS0.out.buf.ptrs.2.1; have f0 : W.frozen? ⟨w.heap.size + 1, 0, none⟩ = false := HS0.out.buf.ptrs.2.2.1; have f1 : W.frozen? ⟨w.heap.size + 1, 1, none⟩ = false := HS0.out.buf.ptrs.2.2.2; have m3 : W.cell? ⟨tb, 3, none⟩ = some (.int .u64 (T.own.s : Int)) := (HQ.out.still HS0.out.mod).own3.1; have m22 : W.cell? ⟨tb, 22, none⟩ = some (.map (some mb)) := (HQ.out.still HS0.out.mod).own3.2)
  | (go_at_call 73; (with_reducible refine (HON.out _).mono ?_); rintro e w3 ⟨rfl, hO, hM⟩; go_loud (have HF : Hid (FR B w (w3.setCell ⟨w.heap.size + 1, 0, none⟩ (.pointer (some ⟨W.heap.size, 0, none⟩))) { ((⟨w.heap.size + 1, 0, .slice none 0 0, .slice none 0 0, 0, 0, w.heap.size⟩ : SM)) with ob := W.heap.size, bv := .slice none 0 0, sv := .slice none 0 0 } { st0 T.stream with out := some (newO 0) }) := Lib.hid (HS0.out.out hM hO); have HM3 := Lib.hid hM; have k03 : w3.cell? ⟨w.heap.size + 1, 0, none⟩ = some (.pointer none) := hM.cellAt k0 (fun h => h); have f03 : w3.frozen? ⟨w.heap.size + 1, 0, none⟩ = false := (HS0.out.buf.still hM).ptrs.2.2.1; clear hO hM))
  | (go_at_call 72; (with_reducible refine (HMI.out _ HF.out.mod).mono ?_); rintro e w4 ⟨rfl, rfl⟩; generalize (w3.setCell ⟨w.heap.size + 1, 0, none⟩ (.pointer (some ⟨W.heap.size, 0, none⟩))) = W2 at *; have k1' : W2.cell? ⟨w.heap.size + 1, 1, none⟩ = some (.pointer none) := HF.out.buf.ptrs.2.1; have f1' : W2.frozen? ⟨w.heap.size + 1, 1, none⟩ = false := HF.out.buf.ptrs.2.2.2; have m3' : W2.cell? ⟨tb, 3, none⟩ = some (.int .u64 (T.own.s : Int)) := (HQ.out.still HF.out.mod).own3.1; have m22' : W2.cell? ⟨tb, 22, none⟩ = some (.map (some mb)) := (HQ.out.still HF.out.mod).own3.2; obtain ⟨wz, hr, hT⟩ := FR.put HQ.out HZ.out.1 HZ.out.2.1 HZ.out.2.2 HF.out; rw [HI.out] at hr; have HR : Hid ((Instr.mapUpdate 99 (.map (some mb)) (.int .u64 z) (.pointer (some ⟨w.heap.size + 1, 0, none⟩))).run Tryz.prog W2 = .ok () wz) := Lib.hid hr; have HTT := Lib.hid hT; clear hr hT)
  | ((with_reducible refine wpList_skipr ?_ (exec_iput (m := .tmp 47) (x := .tmp 48) (v := .tmp 49) ?_ ?_ ?_ ?_ HR.out) ?_); (iterate 5 exact rfl))
  | fail)
 go_ret
 have hTT := HTT.out
 unfold mkT
 rw [HN.out, HI.out]
 rw [HI.out] at hTT
 refine ⟨_, ?_, hTT⟩
 rw [HI.out, updG_same]
 rfl
theorem make_tf {B : Nat} {w : World} {tb mb : Nat} {G : Int → SM} {T : Tb} (q : TBuf B w tb mb G T) {id : Nat} (hi : (id : Int) < 4611686018427387912) (hz : (id : Int) ∉ T.dom) (hl : T.dom.length ≤ 1000) (hm : mineB T.client id = true) (hw : oneWay id = false) :
  Calls Tryz.prog 42 #[.pointer (some ⟨tb, 0, none⟩), .int .u64 (id : Int)] w fun e w' => TMk B w w' tb mb G T (mkT T id) id e := by
 have hok : okId id := by unfold okId; omega
 have hlt : tb < w.heap.size := q.blk.lt
 have hB : B ≤ w.heap.size := Nat.le_of_lt (Nat.lt_of_le_of_lt q.at0 hlt)
 have ne1 : ¬ w.heap.size + 1 = tb := by omega
 have ne2 : ¬ tb = w.heap.size + 1 := by omega
 have c5 : w.cell? ⟨tb, 29, none⟩ = some (.int .u64 (T.stream : Int)) := q.cell 7 rfl
 have hmm := @run_makeMap Tryz.prog
 have hb2 : bits .and .u64 (id : Int) 2 = 0 := by
  rw [and2 hok]
  rcases and2_cases id with ⟨h1, h2⟩ | ⟨h1, h2⟩
  ·rw [h1]; rfl
  ·rw [h2] at hw; cases hw
 have HMI : Hid (∀ W, Mod (fun _ => False) w W → Calls Tryz.prog 72 #[.pointer (some ⟨tb, 0, none⟩), .int .u64 (id : Int)] W fun e w' => W = w' ∧ e = .returned (.bool true)) := Lib.hid (fun W hW => by
  have := mine_any (q.still hW) hok
  rw [hm] at this
  exact this)
 have HN : Hid (newS T id = { st0 T.stream with out := some (newO 0), inn := some (newI T.own.s) }) := Lib.hid (by unfold newS hasOut hasIn; rw [hm, hw]; rfl)
 have HS0 : Hid (FR B w ((w.alloc (.map #[] 0)).alloc (.cells #[.pointer none, .pointer none, .int .u64 (T.stream : Int), .int .u64 0, .bool false, .bool false, .int .u64 0, .int .u64 0, .int .u64 0, .bool false, .bool false, .map (some w.heap.size), .bool false, .int .u64 0] 109)) (⟨w.heap.size + 1, 0, .slice none 0 0, .slice none 0 0, 0, 0, w.heap.size⟩ : SM) (st0 T.stream)) := Lib.hid (by
  refine ⟨((Mod.refl _ _).alloc _).alloc _, SBuf.fresh B w hB _ q.num.2.2.2.2.2.2.2.2.2.2.1, ?_, by simp; omega⟩
  rintro k (e | e | e | e)
  ·have : k = w.heap.size + 1 := e
   omega
  ·have : k = w.heap.size := e
   omega
  ·cases e.1
  ·cases e.1)
 have us : IntKind.i64.wrap (T.own.s : Int) = (T.own.s : Int) := IntWalk.i64_in _ (by have := q.num.2.2.1; omega)
 have HIN := Lib.hid (fun W => inew_any W T.own.s (by have := q.num.2.2.1; omega))
 have HON : Hid (∀ W, Calls Tryz.prog 73 #[.int .u64 0] W fun e w' => e = .returned (.pointer (some ⟨W.heap.size, 0, none⟩)) ∧ OBuf W.heap.size w' W.heap.size (.slice none 0 0) (.slice none 0 0) (newO 0) ∧ Mod (fun _ => False) W w') := Lib.hid (fun W => onew_any W 0 (by decide))
 have HQ := Lib.hid q
 have HZ := Lib.hid (And.intro hz (And.intro hi hl))
 clear q hz hl hm hw hok hlt hB
 generalize hidz : (id : Int) = z at c5 hb2 HMI ⊢
 have HI := Lib.hid hidz
 clear hidz hi
 go_enter Tryz.func42, Tryz.ntmps42
 go_wp2_with (first
  | (go_at_call 72; (with_reducible refine (HMI.out _ ?_).mono ?_); (· exact ((Mod.refl _ _).alloc _).alloc _); rintro e w1 ⟨rfl, rfl⟩; generalize (w.alloc (.map #[] 0)).alloc (.cells #[.pointer none, .pointer none, .int .u64 (T.stream : Int), .int .u64 0, .bool false, .bool false, .int .u64 0, .int .u64 0, .int .u64 0, .bool false, .bool false, .map (some w.heap.size), .bool false, .int .u64 0] 109) = W at *; have k0 : W.cell? ⟨w.heap.size + 1, 0, none⟩ = some (.pointer none) := HS0.out.buf.ptrs.1; have k1 : W.cell? ⟨w.heap.size + 1, 1, none⟩ = some (.pointer none) := HS0.out.buf.ptrs.2.1; have f0 : W.frozen? ⟨w.heap.size + 1, 0, none⟩ = false := HS0.out.buf.ptrs.2.2.1; have f1 : W.frozen? ⟨w.heap.size + 1, 1, none⟩ = false := HS0.out.buf.ptrs.2.2.2; have m3 : W.cell? ⟨tb, 3, none⟩ = some (.int .u64 (T.own.s : Int)) := (HQ.out.still HS0.out.mod).own3.1; have m22 : W.cell? ⟨tb, 22, none⟩ = some (.map (some mb)) := (HQ.out.still HS0.out.mod).own3.2)
  | (go_at_call 73; (with_reducible refine (HON.out _).mono ?_); rintro e w3 ⟨rfl, hO, hM⟩; go_loud (have HF : Hid (FR B w (w3.setCell ⟨w.heap.size + 1, 0, none⟩ (.pointer (some ⟨W.heap.size, 0, none⟩))) { ((⟨w.heap.size + 1, 0, .slice none 0 0, .slice none 0 0, 0, 0, w.heap.size⟩ : SM)) with ob := W.heap.size, bv := .slice none 0 0, sv := .slice none 0 0 } { st0 T.stream with out := some (newO 0) }) := Lib.hid (HS0.out.out hM hO); have HM3 := Lib.hid hM; have k03 : w3.cell? ⟨w.heap.size + 1, 0, none⟩ = some (.pointer none) := hM.cellAt k0 (fun h => h); have f03 : w3.frozen? ⟨w.heap.size + 1, 0, none⟩ = false := (HS0.out.buf.still hM).ptrs.2.2.1; clear hO hM))
  | (go_at_call 72; (with_reducible refine (HMI.out _ HF.out.mod).mono ?_); rintro e w4 ⟨rfl, rfl⟩; generalize (w3.setCell ⟨w.heap.size + 1, 0, none⟩ (.pointer (some ⟨W.heap.size, 0, none⟩))) = W2 at *; have k1' : W2.cell? ⟨w.heap.size + 1, 1, none⟩ = some (.pointer none) := HF.out.buf.ptrs.2.1; have f1' : W2.frozen? ⟨w.heap.size + 1, 1, none⟩ = false := HF.out.buf.ptrs.2.2.2; have m3' : W2.cell? ⟨tb, 3, none⟩ = some (.int .u64 (T.own.s : Int)) := (HQ.out.still HF.out.mod).own3.1; have m22' : W2.cell? ⟨tb, 22, none⟩ = some (.map (some mb)) := (HQ.out.still HF.out.mod).own3.2)
  | (go_at_call 74; (with_reducible refine (HIN.out _).mono ?_); rintro e w5 ⟨ib, mbi, rfl, hO, hM⟩; have HF2 : Hid (FR B w (w5.setCell ⟨w.heap.size + 1, 1, none⟩ (.pointer (some ⟨ib, 0, none⟩))) { ((⟨w.heap.size + 1, 0, .slice none 0 0, .slice none 0 0, 0, 0, w.heap.size⟩ : SM)) with ob := W.heap.size, bv := .slice none 0 0, sv := .slice none 0 0, ib := ib, mb := mbi } { st0 T.stream with out := some (newO 0), inn := some (newI T.own.s) }) := Lib.hid (HF.out.inn hM hO); have k15 : w5.cell? ⟨w.heap.size + 1, 1, none⟩ = some (.pointer none) := hM.cellAt k1' (fun h => h); have f15 : w5.frozen? ⟨w.heap.size + 1, 1, none⟩ = false := (HF.out.buf.still hM).ptrs.2.2.2; have m225 : w5.cell? ⟨tb, 22, none⟩ = some (.map (some mb)) := hM.cellAt m22' (fun h => h); obtain ⟨wz, hr, hT⟩ := FR.put HQ.out HZ.out.1 HZ.out.2.1 HZ.out.2.2 HF2.out; rw [HI.out] at hr; have HR : Hid ((Instr.mapUpdate 99 (.map (some mb)) (.int .u64 z) (.pointer (some ⟨w.heap.size + 1, 0, none⟩))).run Tryz.prog (w5.setCell ⟨w.heap.size + 1, 1, none⟩ (.pointer (some ⟨ib, 0, none⟩))) = .ok () wz) := Lib.hid hr; have HTT := Lib.hid hT; clear hr hT; clear hO hM)
  | ((with_reducible refine wpList_skipr ?_ (exec_iput (m := .tmp 47) (x := .tmp 48) (v := .tmp 49) ?_ ?_ ?_ ?_ HR.out) ?_); (iterate 5 exact rfl))
  | fail)
 go_ret
 have hTT := HTT.out
 unfold mkT
 rw [HN.out, HI.out]
 rw [HI.out] at hTT
 refine ⟨_, ?_, hTT⟩
 rw [HI.out, updG_same]
 rfl
theorem make_ft {B : Nat} {w : World} {tb mb : Nat} {G : Int → SM} {T : Tb} (q : TBuf B w tb mb G T) {id : Nat} (hi : (id : Int) < 4611686018427387912) (hz : (id : Int) ∉ T.dom) (hl : T.dom.length ≤ 1000) (hm : mineB T.client id = false) (hw : oneWay id = true) :
  Calls Tryz.prog 42 #[.pointer (some ⟨tb, 0, none⟩), .int .u64 (id : Int)] w fun e w' => TMk B w w' tb mb G T (mkT T id) id e := by
 have hok : okId id := by unfold okId; omega
 have hlt : tb < w.heap.size := q.blk.lt
 have hB : B ≤ w.heap.size := Nat.le_of_lt (Nat.lt_of_le_of_lt q.at0 hlt)
 have ne1 : ¬ w.heap.size + 1 = tb := by omega
 have ne2 : ¬ tb = w.heap.size + 1 := by omega
 have c5 : w.cell? ⟨tb, 29, none⟩ = some (.int .u64 (T.stream : Int)) := q.cell 7 rfl
 have hmm := @run_makeMap Tryz.prog
 have hb2 : bits .and .u64 (id : Int) 2 = 2 := by
  rw [and2 hok]
  rcases and2_cases id with ⟨h1, h2⟩ | ⟨h1, h2⟩
  ·rw [h2] at hw; cases hw
  ·rw [h1]; rfl
 have HMI : Hid (∀ W, Mod (fun _ => False) w W → Calls Tryz.prog 72 #[.pointer (some ⟨tb, 0, none⟩), .int .u64 (id : Int)] W fun e w' => W = w' ∧ e = .returned (.bool false)) := Lib.hid (fun W hW => by
  have := mine_any (q.still hW) hok
  rw [hm] at this
  exact this)
 have HN : Hid (newS T id = { st0 T.stream with out := none, inn := some (newI T.own.s) }) := Lib.hid (by unfold newS hasOut hasIn; rw [hm, hw]; rfl)
 have HS0 : Hid (FR B w ((w.alloc (.map #[] 0)).alloc (.cells #[.pointer none, .pointer none, .int .u64 (T.stream : Int), .int .u64 0, .bool false, .bool false, .int .u64 0, .int .u64 0, .int .u64 0, .bool false, .bool false, .map (some w.heap.size), .bool false, .int .u64 0] 109)) (⟨w.heap.size + 1, 0, .slice none 0 0, .slice none 0 0, 0, 0, w.heap.size⟩ : SM) (st0 T.stream)) := Lib.hid (by
  refine ⟨((Mod.refl _ _).alloc _).alloc _, SBuf.fresh B w hB _ q.num.2.2.2.2.2.2.2.2.2.2.1, ?_, by simp; omega⟩
  rintro k (e | e | e | e)
  ·have : k = w.heap.size + 1 := e
   omega
  ·have : k = w.heap.size := e
   omega
  ·cases e.1
  ·cases e.1)
 have us : IntKind.i64.wrap (T.own.s : Int) = (T.own.s : Int) := IntWalk.i64_in _ (by have := q.num.2.2.1; omega)
 have HIN := Lib.hid (fun W => inew_any W T.own.s (by have := q.num.2.2.1; omega))
 have HON : Hid (∀ W, Calls Tryz.prog 73 #[.int .u64 0] W fun e w' => e = .returned (.pointer (some ⟨W.heap.size, 0, none⟩)) ∧ OBuf W.heap.size w' W.heap.size (.slice none 0 0) (.slice none 0 0) (newO 0) ∧ Mod (fun _ => False) W w') := Lib.hid (fun W => onew_any W 0 (by decide))
 have HQ := Lib.hid q
 have HZ := Lib.hid (And.intro hz (And.intro hi hl))
 clear q hz hl hm hw hok hlt hB
 generalize hidz : (id : Int) = z at c5 hb2 HMI ⊢
 have HI := Lib.hid hidz
 clear hidz hi
 go_enter Tryz.func42, Tryz.ntmps42
 go_wp2_with (first
  | (go_at_call 72; (with_reducible refine (HMI.out _ ?_).mono ?_); (· exact ((Mod.refl _ _).alloc _).alloc _); rintro e w1 ⟨rfl, rfl⟩; generalize (w.alloc (.map #[] 0)).alloc (.cells #[.pointer none, .pointer none, .int .u64 (T.stream : Int), .int .u64 0, .bool false, .bool false, .int .u64 0, .int .u64 0, .int .u64 0, .bool false, .bool false, .map (some w.heap.size), .bool false, .int .u64 0] 109) = W at *; have k0 : W.cell? ⟨w.heap.size + 1, 0, none⟩ = some (.pointer none) := HS0.out.buf.ptrs.1; have k1 : W.cell? ⟨w.heap.size + 1, 1, none⟩ = some (.pointer none) := HS0.out.buf.ptrs.2.1; have f0 : W.frozen? ⟨w.heap.size + 1, 0, none⟩ = false := HS0.out.buf.ptrs.2.2.1; have f1 : W.frozen? ⟨w.heap.size + 1, 1, none⟩ = false := HS0.out.buf.ptrs.2.2.2; have m3 : W.cell? ⟨tb, 3, none⟩ = some (.int .u64 (T.own.s : Int)) := (HQ.out.still HS0.out.mod).own3.1; have m22 : W.cell? ⟨tb, 22, none⟩ = some (.map (some mb)) := (HQ.out.still HS0.out.mod).own3.2)
  | (go_at_call 72; (with_reducible refine (HMI.out _ HS0.out.mod).mono ?_); rintro e w4 ⟨rfl, rfl⟩)
  | (go_at_call 74; (with_reducible refine (HIN.out _).mono ?_); rintro e w5 ⟨ib, mbi, rfl, hO, hM⟩; have HF2 : Hid (FR B w (w5.setCell ⟨w.heap.size + 1, 1, none⟩ (.pointer (some ⟨ib, 0, none⟩))) { ((⟨w.heap.size + 1, 0, .slice none 0 0, .slice none 0 0, 0, 0, w.heap.size⟩ : SM)) with ib := ib, mb := mbi } { st0 T.stream with inn := some (newI T.own.s) }) := Lib.hid (HS0.out.inn hM hO); have k15 : w5.cell? ⟨w.heap.size + 1, 1, none⟩ = some (.pointer none) := hM.cellAt k1 (fun h => h); have f15 : w5.frozen? ⟨w.heap.size + 1, 1, none⟩ = false := (HS0.out.buf.still hM).ptrs.2.2.2; have m225 : w5.cell? ⟨tb, 22, none⟩ = some (.map (some mb)) := hM.cellAt m22 (fun h => h); obtain ⟨wz, hr, hT⟩ := FR.put HQ.out HZ.out.1 HZ.out.2.1 HZ.out.2.2 HF2.out; rw [HI.out] at hr; have HR : Hid ((Instr.mapUpdate 99 (.map (some mb)) (.int .u64 z) (.pointer (some ⟨w.heap.size + 1, 0, none⟩))).run Tryz.prog (w5.setCell ⟨w.heap.size + 1, 1, none⟩ (.pointer (some ⟨ib, 0, none⟩))) = .ok () wz) := Lib.hid hr; have HTT := Lib.hid hT; clear hr hT; clear hO hM)
  | ((with_reducible refine wpList_skipr ?_ (exec_iput (m := .tmp 47) (x := .tmp 48) (v := .tmp 49) ?_ ?_ ?_ ?_ HR.out) ?_); (iterate 5 exact rfl))
  | fail)
 go_ret
 have hTT := HTT.out
 unfold mkT
 rw [HN.out, HI.out]
 rw [HI.out] at hTT
 refine ⟨_, ?_, hTT⟩
 rw [HI.out, updG_same]
 rfl
theorem make_ff {B : Nat} {w : World} {tb mb : Nat} {G : Int → SM} {T : Tb} (q : TBuf B w tb mb G T) {id : Nat} (hi : (id : Int) < 4611686018427387912) (hz : (id : Int) ∉ T.dom) (hl : T.dom.length ≤ 1000) (hm : mineB T.client id = false) (hw : oneWay id = false) :
  Calls Tryz.prog 42 #[.pointer (some ⟨tb, 0, none⟩), .int .u64 (id : Int)] w fun e w' => TMk B w w' tb mb G T (mkT T id) id e := by
 have hok : okId id := by unfold okId; omega
 have hlt : tb < w.heap.size := q.blk.lt
 have hB : B ≤ w.heap.size := Nat.le_of_lt (Nat.lt_of_le_of_lt q.at0 hlt)
 have ne1 : ¬ w.heap.size + 1 = tb := by omega
 have ne2 : ¬ tb = w.heap.size + 1 := by omega
 have c5 : w.cell? ⟨tb, 29, none⟩ = some (.int .u64 (T.stream : Int)) := q.cell 7 rfl
 have hmm := @run_makeMap Tryz.prog
 have hb2 : bits .and .u64 (id : Int) 2 = 0 := by
  rw [and2 hok]
  rcases and2_cases id with ⟨h1, h2⟩ | ⟨h1, h2⟩
  ·rw [h1]; rfl
  ·rw [h2] at hw; cases hw
 have HMI : Hid (∀ W, Mod (fun _ => False) w W → Calls Tryz.prog 72 #[.pointer (some ⟨tb, 0, none⟩), .int .u64 (id : Int)] W fun e w' => W = w' ∧ e = .returned (.bool false)) := Lib.hid (fun W hW => by
  have := mine_any (q.still hW) hok
  rw [hm] at this
  exact this)
 have HN : Hid (newS T id = { st0 T.stream with out := some (newO 0), inn := some (newI T.own.s) }) := Lib.hid (by unfold newS hasOut hasIn; rw [hm, hw]; rfl)
 have HS0 : Hid (FR B w ((w.alloc (.map #[] 0)).alloc (.cells #[.pointer none, .pointer none, .int .u64 (T.stream : Int), .int .u64 0, .bool false, .bool false, .int .u64 0, .int .u64 0, .int .u64 0, .bool false, .bool false, .map (some w.heap.size), .bool false, .int .u64 0] 109)) (⟨w.heap.size + 1, 0, .slice none 0 0, .slice none 0 0, 0, 0, w.heap.size⟩ : SM) (st0 T.stream)) := Lib.hid (by
  refine ⟨((Mod.refl _ _).alloc _).alloc _, SBuf.fresh B w hB _ q.num.2.2.2.2.2.2.2.2.2.2.1, ?_, by simp; omega⟩
  rintro k (e | e | e | e)
  ·have : k = w.heap.size + 1 := e
   omega
  ·have : k = w.heap.size := e
   omega
  ·cases e.1
  ·cases e.1)
 have us : IntKind.i64.wrap (T.own.s : Int) = (T.own.s : Int) := IntWalk.i64_in _ (by have := q.num.2.2.1; omega)
 have HIN := Lib.hid (fun W => inew_any W T.own.s (by have := q.num.2.2.1; omega))
 have HON : Hid (∀ W, Calls Tryz.prog 73 #[.int .u64 0] W fun e w' => e = .returned (.pointer (some ⟨W.heap.size, 0, none⟩)) ∧ OBuf W.heap.size w' W.heap.size (.slice none 0 0) (.slice none 0 0) (newO 0) ∧ Mod (fun _ => False) W w') := Lib.hid (fun W => onew_any W 0 (by decide))
 have HQ := Lib.hid q
 have HZ := Lib.hid (And.intro hz (And.intro hi hl))
 clear q hz hl hm hw hok hlt hB
 generalize hidz : (id : Int) = z at c5 hb2 HMI ⊢
 have HI := Lib.hid hidz
 clear hidz hi
 go_enter Tryz.func42, Tryz.ntmps42
 go_wp2_with (first
  | (go_at_call 72; (with_reducible refine (HMI.out _ ?_).mono ?_); (· exact ((Mod.refl _ _).alloc _).alloc _); rintro e w1 ⟨rfl, rfl⟩; generalize (w.alloc (.map #[] 0)).alloc (.cells #[.pointer none, .pointer none, .int .u64 (T.stream : Int), .int .u64 0, .bool false, .bool false, .int .u64 0, .int .u64 0, .int .u64 0, .bool false, .bool false, .map (some w.heap.size), .bool false, .int .u64 0] 109) = W at *; have k0 : W.cell? ⟨w.heap.size + 1, 0, none⟩ = some (.pointer none) := HS0.out.buf.ptrs.1; have k1 : W.cell? ⟨w.heap.size + 1, 1, none⟩ = some (.pointer none) := HS0.out.buf.ptrs.2.1; have f0 : W.frozen? ⟨w.heap.size + 1, 0, none⟩ = false := HS0.out.buf.ptrs.2.2.1; have f1 : W.frozen? ⟨w.heap.size + 1, 1, none⟩ = false := HS0.out.buf.ptrs.2.2.2; have m3 : W.cell? ⟨tb, 3, none⟩ = some (.int .u64 (T.own.s : Int)) := (HQ.out.still HS0.out.mod).own3.1; have m22 : W.cell? ⟨tb, 22, none⟩ = some (.map (some mb)) := (HQ.out.still HS0.out.mod).own3.2)
  | (go_at_call 73; (with_reducible refine (HON.out _).mono ?_); rintro e w3 ⟨rfl, hO, hM⟩; go_loud (have HF : Hid (FR B w (w3.setCell ⟨w.heap.size + 1, 0, none⟩ (.pointer (some ⟨W.heap.size, 0, none⟩))) { ((⟨w.heap.size + 1, 0, .slice none 0 0, .slice none 0 0, 0, 0, w.heap.size⟩ : SM)) with ob := W.heap.size, bv := .slice none 0 0, sv := .slice none 0 0 } { st0 T.stream with out := some (newO 0) }) := Lib.hid (HS0.out.out hM hO); have HM3 := Lib.hid hM; have k03 : w3.cell? ⟨w.heap.size + 1, 0, none⟩ = some (.pointer none) := hM.cellAt k0 (fun h => h); have f03 : w3.frozen? ⟨w.heap.size + 1, 0, none⟩ = false := (HS0.out.buf.still hM).ptrs.2.2.1; clear hO hM))
  | (go_at_call 72; (with_reducible refine (HMI.out _ HF.out.mod).mono ?_); rintro e w4 ⟨rfl, rfl⟩; generalize (w3.setCell ⟨w.heap.size + 1, 0, none⟩ (.pointer (some ⟨W.heap.size, 0, none⟩))) = W2 at *; have k1' : W2.cell? ⟨w.heap.size + 1, 1, none⟩ = some (.pointer none) := HF.out.buf.ptrs.2.1; have f1' : W2.frozen? ⟨w.heap.size + 1, 1, none⟩ = false := HF.out.buf.ptrs.2.2.2; have m3' : W2.cell? ⟨tb, 3, none⟩ = some (.int .u64 (T.own.s : Int)) := (HQ.out.still HF.out.mod).own3.1; have m22' : W2.cell? ⟨tb, 22, none⟩ = some (.map (some mb)) := (HQ.out.still HF.out.mod).own3.2)
  | (go_at_call 74; (with_reducible refine (HIN.out _).mono ?_); rintro e w5 ⟨ib, mbi, rfl, hO, hM⟩; have HF2 : Hid (FR B w (w5.setCell ⟨w.heap.size + 1, 1, none⟩ (.pointer (some ⟨ib, 0, none⟩))) { ((⟨w.heap.size + 1, 0, .slice none 0 0, .slice none 0 0, 0, 0, w.heap.size⟩ : SM)) with ob := W.heap.size, bv := .slice none 0 0, sv := .slice none 0 0, ib := ib, mb := mbi } { st0 T.stream with out := some (newO 0), inn := some (newI T.own.s) }) := Lib.hid (HF.out.inn hM hO); have k15 : w5.cell? ⟨w.heap.size + 1, 1, none⟩ = some (.pointer none) := hM.cellAt k1' (fun h => h); have f15 : w5.frozen? ⟨w.heap.size + 1, 1, none⟩ = false := (HF.out.buf.still hM).ptrs.2.2.2; have m225 : w5.cell? ⟨tb, 22, none⟩ = some (.map (some mb)) := hM.cellAt m22' (fun h => h); obtain ⟨wz, hr, hT⟩ := FR.put HQ.out HZ.out.1 HZ.out.2.1 HZ.out.2.2 HF2.out; rw [HI.out] at hr; have HR : Hid ((Instr.mapUpdate 99 (.map (some mb)) (.int .u64 z) (.pointer (some ⟨w.heap.size + 1, 0, none⟩))).run Tryz.prog (w5.setCell ⟨w.heap.size + 1, 1, none⟩ (.pointer (some ⟨ib, 0, none⟩))) = .ok () wz) := Lib.hid hr; have HTT := Lib.hid hT; clear hr hT; clear hO hM)
  | ((with_reducible refine wpList_skipr ?_ (exec_iput (m := .tmp 47) (x := .tmp 48) (v := .tmp 49) ?_ ?_ ?_ ?_ HR.out) ?_); (iterate 5 exact rfl))
  | fail)
 go_ret
 have hTT := HTT.out
 unfold mkT
 rw [HN.out, HI.out]
 rw [HI.out] at hTT
 refine ⟨_, ?_, hTT⟩
 rw [HI.out, updG_same]
 rfl
theorem make_any {B : Nat} {w : World} {tb mb : Nat} {G : Int → SM} {T : Tb} (q : TBuf B w tb mb G T) {id : Nat} (hi : (id : Int) < 4611686018427387912) (hz : (id : Int) ∉ T.dom) (hl : T.dom.length ≤ 1000) :
  Calls Tryz.prog 42 #[.pointer (some ⟨tb, 0, none⟩), .int .u64 (id : Int)] w fun e w' => TMk B w w' tb mb G T (mkT T id) id e := by
 cases hm : mineB T.client id <;> cases hw : oneWay id
 ·exact make_ff q hi hz hl hm hw
 ·exact make_ft q hi hz hl hm hw
 ·exact make_tf q hi hz hl hm hw
 ·exact make_tt q hi hz hl hm hw
theorem sbitq (b : Bool) (w : World) : Calls Tryz.prog 41 #[.bool b] w fun e w' => e = .returned (.int .u64 (if b then 1 else 0)) ∧ w' = w :=
 (sbit_any b w).mono fun _ _ ⟨h1, h2⟩ => ⟨h2, h1.symm⟩
def opN (T : Tb) (k : Nat) : Nat := if k = 0 then T.op0 else if k = 1 then T.op1 else if k = 2 then T.op2 else T.op3
def setOp (T : Tb) (k v : Nat) : Tb := if k = 0 then { T with op0 := v } else if k = 1 then { T with op1 := v } else if k = 2 then { T with op2 := v } else { T with op3 := v }
def limN (T : Tb) (b : Bool) : Nat := if b then T.lim1 else T.lim0
def kindN (c b : Bool) : Nat := (if b then 2 else 0) + (if c then 0 else 1)
def openId (T : Tb) (b : Bool) : Nat := 4 * opN T (kindN T.client b) + kindN T.client b
def openOk (T : Tb) (b : Bool) : Bool := decide (opN T (kindN T.client b) < limN T b)
def openT (T : Tb) (b : Bool) : Tb := if openOk T b then mkT (setOp T (kindN T.client b) (opN T (kindN T.client b) + 1)) (openId T b) else T
def opE (T : Tb) (b : Bool) : Int := if openOk T b then 0 else 5
def openV (T : Tb) (b : Bool) : Nat := if openOk T b then openId T b else 0
def TOpen (B : Nat) (w w' : World) (tb mb : Nat) (G : Int → SM) (T : Tb) (b : Bool) (e : Ending) : Prop := e = .returned (.tuple #[.int .u64 (openV T b : Int), .int .i64 (opE T b)]) ∧ TC B w w' tb mb G T (openT T b)
theorem open_00 {B : Nat} {w : World} {tb mb : Nat} {G : Int → SM} {T : Tb} (q : TBuf B w tb mb G T) (hc : T.client = false) (hz : (openId T false : Int) ∉ T.dom) (hl : T.dom.length ≤ 1000) :
  Calls Tryz.prog 25 #[.pointer (some ⟨tb, 0, none⟩), .bool false] w fun e w' => TOpen B w w' tb mb G T false e := by
 have hk : kindN T.client false = 1 := by rw [hc]; rfl
 have HID : Hid (openId T false = 4 * T.op1 + 1) := Lib.hid (by unfold openId; rw [hk]; rfl)
 have HOK : Hid (openOk T false = decide (T.op1 < T.lim0)) := Lib.hid (by unfold openOk; rw [hk]; rfl)
 have HTT : Hid (setOp T (kindN T.client false) (opN T (kindN T.client false) + 1) = { T with op1 := T.op1 + 1 }) := Lib.hid (by rw [hk]; rfl)
 have hn := q.num
 have HNUM := Lib.hid q.num
 have HC := Lib.hid hc
 have HQ := Lib.hid q
 have HZ := Lib.hid (And.intro hz hl)
 have HM0 : Hid (Mod (fun _ => False) w w) := Lib.hid (Mod.refl _ _)
 obtain ⟨n, hnn⟩ : ∃ n : Int, (T.op1 : Int) = n := ⟨_, rfl⟩
 obtain ⟨l, hll⟩ : ∃ l : Int, (T.lim0 : Int) = l := ⟨_, rfl⟩
 have HNN := Lib.hid hnn
 have HLL := Lib.hid hll
 have u1 : IntKind.u64.wrap (n + 1) = n + 1 := IntWalk.u64_in _ (by omega)
 have u4 : IntKind.u64.wrap (4 * n) = 4 * n := IntWalk.u64_in _ (by omega)
 have u5 : IntKind.u64.wrap (4 * n + 1) = 4 * n + 1 := IntWalk.u64_in _ (by omega)
 have hdec : decide (l ≤ n) = !decide (T.op1 < T.lim0) := by
  by_cases h : T.op1 < T.lim0
  ·rw [decide_eq_true h, decide_eq_false (by omega)]; rfl
  ·rw [decide_eq_false h, decide_eq_true (by omega)]; rfl
 have c0 : w.cell? ⟨tb, 0, none⟩ = some (.bool false) := by
  have := HQ.out.blk.cellAt 0 (v := .bool T.client) rfl
  rw [HC.out] at this
  exact this
 have co : w.cell? ⟨tb, 24, none⟩ = some (.int .u64 n) := by rw [← HNN.out]; exact HQ.out.cell 2 rfl
 have cl : w.cell? ⟨tb, 27, none⟩ = some (.int .u64 l) := by rw [← HLL.out]; exact HQ.out.cell 5 rfl
 have fo : w.frozen? ⟨tb, 24, none⟩ = false := HQ.out.blk.free 24
 clear q hn hnn hll hz hl hk hc
 cases hlt : decide (T.op1 < T.lim0) with
 | false =>
  rw [hlt] at hdec HOK
  have ht : decide (l ≤ n) = true := hdec
  clear hdec hlt
  go_enter Tryz.func25, Tryz.ntmps25
  go_wp2_with fail
  go_quiet (first | (go_at_call 41; refine Calls.quiet_of_same (sbitq _ _)))
  have HM1 : Hid (Mod (fun _ => False) w (w.drewN nq)) := Lib.hid (HM0.out.drewN nq)
  clear c0 co cl fo
  generalize w.drewN nq = W1 at *
  have HQ1 := Lib.hid (HQ.out.still HM1.out)
  have c0 : W1.cell? ⟨tb, 0, none⟩ = some (.bool false) := by
   have := HQ1.out.blk.cellAt 0 (v := .bool T.client) rfl
   rw [HC.out] at this
   exact this
  have co : W1.cell? ⟨tb, 24, none⟩ = some (.int .u64 n) := by rw [← HNN.out]; exact HQ1.out.cell 2 rfl
  have cl : W1.cell? ⟨tb, 27, none⟩ = some (.int .u64 l) := by rw [← HLL.out]; exact HQ1.out.cell 5 rfl
  have fo : W1.frozen? ⟨tb, 24, none⟩ = false := HQ1.out.blk.free 24
  go_wp2_with fail
  go_quiet (first | (go_at_call 41; refine Calls.quiet_of_same (sbitq _ _)))
  have HM2 : Hid (Mod (fun _ => False) w (W1.drewN nq)) := Lib.hid (HM1.out.drewN nq)
  clear c0 co cl fo
  generalize W1.drewN nq = W2 at *
  have HQ2 := Lib.hid (HQ.out.still HM2.out)
  have c0 : W2.cell? ⟨tb, 0, none⟩ = some (.bool false) := by
   have := HQ2.out.blk.cellAt 0 (v := .bool T.client) rfl
   rw [HC.out] at this
   exact this
  have co : W2.cell? ⟨tb, 24, none⟩ = some (.int .u64 n) := by rw [← HNN.out]; exact HQ2.out.cell 2 rfl
  have cl : W2.cell? ⟨tb, 27, none⟩ = some (.int .u64 l) := by rw [← HLL.out]; exact HQ2.out.cell 5 rfl
  have fo : W2.frozen? ⟨tb, 24, none⟩ = false := HQ2.out.blk.free 24
  go_wp2_with fail
  go_ret2
  unfold TOpen openV opE openT
  rw [HOK.out, if_neg (by decide), if_neg (by decide), if_neg (by decide)]
  exact ⟨rfl, HQ.out.tc HM2.out⟩
 | true =>
  rw [hlt] at hdec HOK
  have HLT := Lib.hid (of_decide_eq_true hlt)
  have ht : decide (l ≤ n) = false := hdec
  clear hdec hlt
  go_enter Tryz.func25, Tryz.ntmps25
  go_wp2_with fail
  go_quiet (first | (go_at_call 41; refine Calls.quiet_of_same (sbitq _ _)))
  have HM1 : Hid (Mod (fun _ => False) w (w.drewN nq)) := Lib.hid (HM0.out.drewN nq)
  clear c0 co cl fo
  generalize w.drewN nq = W1 at *
  have HQ1 := Lib.hid (HQ.out.still HM1.out)
  have c0 : W1.cell? ⟨tb, 0, none⟩ = some (.bool false) := by
   have := HQ1.out.blk.cellAt 0 (v := .bool T.client) rfl
   rw [HC.out] at this
   exact this
  have co : W1.cell? ⟨tb, 24, none⟩ = some (.int .u64 n) := by rw [← HNN.out]; exact HQ1.out.cell 2 rfl
  have cl : W1.cell? ⟨tb, 27, none⟩ = some (.int .u64 l) := by rw [← HLL.out]; exact HQ1.out.cell 5 rfl
  have fo : W1.frozen? ⟨tb, 24, none⟩ = false := HQ1.out.blk.free 24
  go_wp2_with fail
  go_quiet (first | (go_at_call 41; refine Calls.quiet_of_same (sbitq _ _)))
  have HM2 : Hid (Mod (fun _ => False) w (W1.drewN nq)) := Lib.hid (HM1.out.drewN nq)
  clear c0 co cl fo
  generalize W1.drewN nq = W2 at *
  have HQ2 := Lib.hid (HQ.out.still HM2.out)
  have c0 : W2.cell? ⟨tb, 0, none⟩ = some (.bool false) := by
   have := HQ2.out.blk.cellAt 0 (v := .bool T.client) rfl
   rw [HC.out] at this
   exact this
  have co : W2.cell? ⟨tb, 24, none⟩ = some (.int .u64 n) := by rw [← HNN.out]; exact HQ2.out.cell 2 rfl
  have cl : W2.cell? ⟨tb, 27, none⟩ = some (.int .u64 l) := by rw [← HLL.out]; exact HQ2.out.cell 5 rfl
  have fo : W2.frozen? ⟨tb, 24, none⟩ = false := HQ2.out.blk.free 24
  go_wp2_with fail
  go_region
  have e1 : n + 1 = ((T.op1 + 1 : Nat) : Int) := by rw [← HNN.out]; push_cast; rfl
  have e2 : 4 * n + 1 = (openId T false : Int) := by rw [HID.out, ← HNN.out]; push_cast; rfl
  have E2 := Lib.hid e2
  have HT3 : Hid (TT B w (W2.setCell ⟨tb, 24, none⟩ (.int .u64 (n + 1))).drew tb mb G G T { T with op1 := T.op1 + 1 }) := Lib.hid (by
   rw [e1]
   have h3 := HQ2.out.setTT { T with op1 := T.op1 + 1 } 2 (.int .u64 ((T.op1 + 1 : Nat) : Int)) rfl rfl rfl rfl rfl (by
    have hn := HNUM.out
    have h1 := HLT.out
    refine ⟨hn.1, hn.2.1, hn.2.2.1, hn.2.2.2.1, ?_, ?_, ?_, ?_, hn.2.2.2.2.2.2.2.2⟩ <;> dsimp only <;> omega)
   have h23 := (HQ.out.stay HM2.out).trans h3
   exact h23.trans (h23.1.stay (Mod.refl _ _).drew))
  have HMK : Hid (Calls Tryz.prog 42 #[.pointer (some ⟨tb, 0, none⟩), .int .u64 (4 * n + 1)] (W2.setCell ⟨tb, 24, none⟩ (.int .u64 (n + 1))).drew fun e w' => TMk B (W2.setCell ⟨tb, 24, none⟩ (.int .u64 (n + 1))).drew w' tb mb G { T with op1 := T.op1 + 1 } (mkT { T with op1 := T.op1 + 1 } (openId T false)) (openId T false) e) := Lib.hid (by
   rw [e2]
   exact make_any HT3.out.1 (by rw [HID.out]; have := HNUM.out; omega) HZ.out.1 HZ.out.2)
  clear e1 e2
  go_wp2_with (first
   | (go_at_call 42; (with_reducible refine HMK.out.mono ?_); rintro e w5 ⟨G5, rfl, hT⟩; have H5 := Lib.hid hT; clear hT)
   | fail)
  go_ret2
  unfold TOpen openV opE openT
  rw [HOK.out, if_pos rfl, if_pos rfl, if_pos rfl, HTT.out]
  refine ⟨?_, (HT3.out.trans H5.out).tc⟩
  rw [← E2.out]
  rfl
theorem open_01 {B : Nat} {w : World} {tb mb : Nat} {G : Int → SM} {T : Tb} (q : TBuf B w tb mb G T) (hc : T.client = true) (hz : (openId T false : Int) ∉ T.dom) (hl : T.dom.length ≤ 1000) :
  Calls Tryz.prog 25 #[.pointer (some ⟨tb, 0, none⟩), .bool false] w fun e w' => TOpen B w w' tb mb G T false e := by
 have hk : kindN T.client false = 0 := by rw [hc]; rfl
 have HID : Hid (openId T false = 4 * T.op0 + 0) := Lib.hid (by unfold openId; rw [hk]; rfl)
 have HOK : Hid (openOk T false = decide (T.op0 < T.lim0)) := Lib.hid (by unfold openOk; rw [hk]; rfl)
 have HTT : Hid (setOp T (kindN T.client false) (opN T (kindN T.client false) + 1) = { T with op0 := T.op0 + 1 }) := Lib.hid (by rw [hk]; rfl)
 have hn := q.num
 have HNUM := Lib.hid q.num
 have HC := Lib.hid hc
 have HQ := Lib.hid q
 have HZ := Lib.hid (And.intro hz hl)
 have HM0 : Hid (Mod (fun _ => False) w w) := Lib.hid (Mod.refl _ _)
 obtain ⟨n, hnn⟩ : ∃ n : Int, (T.op0 : Int) = n := ⟨_, rfl⟩
 obtain ⟨l, hll⟩ : ∃ l : Int, (T.lim0 : Int) = l := ⟨_, rfl⟩
 have HNN := Lib.hid hnn
 have HLL := Lib.hid hll
 have u1 : IntKind.u64.wrap (n + 1) = n + 1 := IntWalk.u64_in _ (by omega)
 have u4 : IntKind.u64.wrap (4 * n) = 4 * n := IntWalk.u64_in _ (by omega)
 have u5 : IntKind.u64.wrap (4 * n + 0) = 4 * n + 0 := IntWalk.u64_in _ (by omega)
 have hdec : decide (l ≤ n) = !decide (T.op0 < T.lim0) := by
  by_cases h : T.op0 < T.lim0
  ·rw [decide_eq_true h, decide_eq_false (by omega)]; rfl
  ·rw [decide_eq_false h, decide_eq_true (by omega)]; rfl
 have c0 : w.cell? ⟨tb, 0, none⟩ = some (.bool true) := by
  have := HQ.out.blk.cellAt 0 (v := .bool T.client) rfl
  rw [HC.out] at this
  exact this
 have co : w.cell? ⟨tb, 23, none⟩ = some (.int .u64 n) := by rw [← HNN.out]; exact HQ.out.cell 1 rfl
 have cl : w.cell? ⟨tb, 27, none⟩ = some (.int .u64 l) := by rw [← HLL.out]; exact HQ.out.cell 5 rfl
 have fo : w.frozen? ⟨tb, 23, none⟩ = false := HQ.out.blk.free 23
 clear q hn hnn hll hz hl hk hc
 cases hlt : decide (T.op0 < T.lim0) with
 | false =>
  rw [hlt] at hdec HOK
  have ht : decide (l ≤ n) = true := hdec
  clear hdec hlt
  go_enter Tryz.func25, Tryz.ntmps25
  go_wp2_with fail
  go_quiet (first | (go_at_call 41; refine Calls.quiet_of_same (sbitq _ _)))
  have HM1 : Hid (Mod (fun _ => False) w (w.drewN nq)) := Lib.hid (HM0.out.drewN nq)
  clear c0 co cl fo
  generalize w.drewN nq = W1 at *
  have HQ1 := Lib.hid (HQ.out.still HM1.out)
  have c0 : W1.cell? ⟨tb, 0, none⟩ = some (.bool true) := by
   have := HQ1.out.blk.cellAt 0 (v := .bool T.client) rfl
   rw [HC.out] at this
   exact this
  have co : W1.cell? ⟨tb, 23, none⟩ = some (.int .u64 n) := by rw [← HNN.out]; exact HQ1.out.cell 1 rfl
  have cl : W1.cell? ⟨tb, 27, none⟩ = some (.int .u64 l) := by rw [← HLL.out]; exact HQ1.out.cell 5 rfl
  have fo : W1.frozen? ⟨tb, 23, none⟩ = false := HQ1.out.blk.free 23
  go_wp2_with fail
  go_quiet (first | (go_at_call 41; refine Calls.quiet_of_same (sbitq _ _)))
  have HM2 : Hid (Mod (fun _ => False) w (W1.drewN nq)) := Lib.hid (HM1.out.drewN nq)
  clear c0 co cl fo
  generalize W1.drewN nq = W2 at *
  have HQ2 := Lib.hid (HQ.out.still HM2.out)
  have c0 : W2.cell? ⟨tb, 0, none⟩ = some (.bool true) := by
   have := HQ2.out.blk.cellAt 0 (v := .bool T.client) rfl
   rw [HC.out] at this
   exact this
  have co : W2.cell? ⟨tb, 23, none⟩ = some (.int .u64 n) := by rw [← HNN.out]; exact HQ2.out.cell 1 rfl
  have cl : W2.cell? ⟨tb, 27, none⟩ = some (.int .u64 l) := by rw [← HLL.out]; exact HQ2.out.cell 5 rfl
  have fo : W2.frozen? ⟨tb, 23, none⟩ = false := HQ2.out.blk.free 23
  go_wp2_with fail
  go_ret2
  unfold TOpen openV opE openT
  rw [HOK.out, if_neg (by decide), if_neg (by decide), if_neg (by decide)]
  exact ⟨rfl, HQ.out.tc HM2.out⟩
 | true =>
  rw [hlt] at hdec HOK
  have HLT := Lib.hid (of_decide_eq_true hlt)
  have ht : decide (l ≤ n) = false := hdec
  clear hdec hlt
  go_enter Tryz.func25, Tryz.ntmps25
  go_wp2_with fail
  go_quiet (first | (go_at_call 41; refine Calls.quiet_of_same (sbitq _ _)))
  have HM1 : Hid (Mod (fun _ => False) w (w.drewN nq)) := Lib.hid (HM0.out.drewN nq)
  clear c0 co cl fo
  generalize w.drewN nq = W1 at *
  have HQ1 := Lib.hid (HQ.out.still HM1.out)
  have c0 : W1.cell? ⟨tb, 0, none⟩ = some (.bool true) := by
   have := HQ1.out.blk.cellAt 0 (v := .bool T.client) rfl
   rw [HC.out] at this
   exact this
  have co : W1.cell? ⟨tb, 23, none⟩ = some (.int .u64 n) := by rw [← HNN.out]; exact HQ1.out.cell 1 rfl
  have cl : W1.cell? ⟨tb, 27, none⟩ = some (.int .u64 l) := by rw [← HLL.out]; exact HQ1.out.cell 5 rfl
  have fo : W1.frozen? ⟨tb, 23, none⟩ = false := HQ1.out.blk.free 23
  go_wp2_with fail
  go_quiet (first | (go_at_call 41; refine Calls.quiet_of_same (sbitq _ _)))
  have HM2 : Hid (Mod (fun _ => False) w (W1.drewN nq)) := Lib.hid (HM1.out.drewN nq)
  clear c0 co cl fo
  generalize W1.drewN nq = W2 at *
  have HQ2 := Lib.hid (HQ.out.still HM2.out)
  have c0 : W2.cell? ⟨tb, 0, none⟩ = some (.bool true) := by
   have := HQ2.out.blk.cellAt 0 (v := .bool T.client) rfl
   rw [HC.out] at this
   exact this
  have co : W2.cell? ⟨tb, 23, none⟩ = some (.int .u64 n) := by rw [← HNN.out]; exact HQ2.out.cell 1 rfl
  have cl : W2.cell? ⟨tb, 27, none⟩ = some (.int .u64 l) := by rw [← HLL.out]; exact HQ2.out.cell 5 rfl
  have fo : W2.frozen? ⟨tb, 23, none⟩ = false := HQ2.out.blk.free 23
  go_wp2_with fail
  go_region
  have e1 : n + 1 = ((T.op0 + 1 : Nat) : Int) := by rw [← HNN.out]; push_cast; rfl
  have e2 : 4 * n = (openId T false : Int) := by rw [HID.out, ← HNN.out]; push_cast; omega
  have E2 := Lib.hid e2
  have HT3 : Hid (TT B w (W2.setCell ⟨tb, 23, none⟩ (.int .u64 (n + 1))).drew tb mb G G T { T with op0 := T.op0 + 1 }) := Lib.hid (by
   rw [e1]
   have h3 := HQ2.out.setTT { T with op0 := T.op0 + 1 } 1 (.int .u64 ((T.op0 + 1 : Nat) : Int)) rfl rfl rfl rfl rfl (by
    have hn := HNUM.out
    have h1 := HLT.out
    refine ⟨hn.1, hn.2.1, hn.2.2.1, hn.2.2.2.1, ?_, ?_, ?_, ?_, hn.2.2.2.2.2.2.2.2⟩ <;> dsimp only <;> omega)
   have h23 := (HQ.out.stay HM2.out).trans h3
   exact h23.trans (h23.1.stay (Mod.refl _ _).drew))
  have HMK : Hid (Calls Tryz.prog 42 #[.pointer (some ⟨tb, 0, none⟩), .int .u64 (4 * n)] (W2.setCell ⟨tb, 23, none⟩ (.int .u64 (n + 1))).drew fun e w' => TMk B (W2.setCell ⟨tb, 23, none⟩ (.int .u64 (n + 1))).drew w' tb mb G { T with op0 := T.op0 + 1 } (mkT { T with op0 := T.op0 + 1 } (openId T false)) (openId T false) e) := Lib.hid (by
   rw [e2]
   exact make_any HT3.out.1 (by rw [HID.out]; have := HNUM.out; omega) HZ.out.1 HZ.out.2)
  clear e1 e2
  go_wp2_with (first
   | (go_at_call 42; (with_reducible refine HMK.out.mono ?_); rintro e w5 ⟨G5, rfl, hT⟩; have H5 := Lib.hid hT; clear hT)
   | fail)
  go_ret2
  unfold TOpen openV opE openT
  rw [HOK.out, if_pos rfl, if_pos rfl, if_pos rfl, HTT.out]
  refine ⟨?_, (HT3.out.trans H5.out).tc⟩
  rw [← E2.out]
  rfl
theorem open_10 {B : Nat} {w : World} {tb mb : Nat} {G : Int → SM} {T : Tb} (q : TBuf B w tb mb G T) (hc : T.client = false) (hz : (openId T true : Int) ∉ T.dom) (hl : T.dom.length ≤ 1000) :
  Calls Tryz.prog 25 #[.pointer (some ⟨tb, 0, none⟩), .bool true] w fun e w' => TOpen B w w' tb mb G T true e := by
 have hk : kindN T.client true = 3 := by rw [hc]; rfl
 have HID : Hid (openId T true = 4 * T.op3 + 3) := Lib.hid (by unfold openId; rw [hk]; rfl)
 have HOK : Hid (openOk T true = decide (T.op3 < T.lim1)) := Lib.hid (by unfold openOk; rw [hk]; rfl)
 have HTT : Hid (setOp T (kindN T.client true) (opN T (kindN T.client true) + 1) = { T with op3 := T.op3 + 1 }) := Lib.hid (by rw [hk]; rfl)
 have hn := q.num
 have HNUM := Lib.hid q.num
 have HC := Lib.hid hc
 have HQ := Lib.hid q
 have HZ := Lib.hid (And.intro hz hl)
 have HM0 : Hid (Mod (fun _ => False) w w) := Lib.hid (Mod.refl _ _)
 obtain ⟨n, hnn⟩ : ∃ n : Int, (T.op3 : Int) = n := ⟨_, rfl⟩
 obtain ⟨l, hll⟩ : ∃ l : Int, (T.lim1 : Int) = l := ⟨_, rfl⟩
 have HNN := Lib.hid hnn
 have HLL := Lib.hid hll
 have u1 : IntKind.u64.wrap (n + 1) = n + 1 := IntWalk.u64_in _ (by omega)
 have u4 : IntKind.u64.wrap (4 * n) = 4 * n := IntWalk.u64_in _ (by omega)
 have u5 : IntKind.u64.wrap (4 * n + 3) = 4 * n + 3 := IntWalk.u64_in _ (by omega)
 have hdec : decide (l ≤ n) = !decide (T.op3 < T.lim1) := by
  by_cases h : T.op3 < T.lim1
  ·rw [decide_eq_true h, decide_eq_false (by omega)]; rfl
  ·rw [decide_eq_false h, decide_eq_true (by omega)]; rfl
 have c0 : w.cell? ⟨tb, 0, none⟩ = some (.bool false) := by
  have := HQ.out.blk.cellAt 0 (v := .bool T.client) rfl
  rw [HC.out] at this
  exact this
 have co : w.cell? ⟨tb, 26, none⟩ = some (.int .u64 n) := by rw [← HNN.out]; exact HQ.out.cell 4 rfl
 have cl : w.cell? ⟨tb, 28, none⟩ = some (.int .u64 l) := by rw [← HLL.out]; exact HQ.out.cell 6 rfl
 have fo : w.frozen? ⟨tb, 26, none⟩ = false := HQ.out.blk.free 26
 clear q hn hnn hll hz hl hk hc
 cases hlt : decide (T.op3 < T.lim1) with
 | false =>
  rw [hlt] at hdec HOK
  have ht : decide (l ≤ n) = true := hdec
  clear hdec hlt
  go_enter Tryz.func25, Tryz.ntmps25
  go_wp2_with fail
  go_quiet (first | (go_at_call 41; refine Calls.quiet_of_same (sbitq _ _)))
  have HM1 : Hid (Mod (fun _ => False) w (w.drewN nq)) := Lib.hid (HM0.out.drewN nq)
  clear c0 co cl fo
  generalize w.drewN nq = W1 at *
  have HQ1 := Lib.hid (HQ.out.still HM1.out)
  have c0 : W1.cell? ⟨tb, 0, none⟩ = some (.bool false) := by
   have := HQ1.out.blk.cellAt 0 (v := .bool T.client) rfl
   rw [HC.out] at this
   exact this
  have co : W1.cell? ⟨tb, 26, none⟩ = some (.int .u64 n) := by rw [← HNN.out]; exact HQ1.out.cell 4 rfl
  have cl : W1.cell? ⟨tb, 28, none⟩ = some (.int .u64 l) := by rw [← HLL.out]; exact HQ1.out.cell 6 rfl
  have fo : W1.frozen? ⟨tb, 26, none⟩ = false := HQ1.out.blk.free 26
  go_wp2_with fail
  go_quiet (first | (go_at_call 41; refine Calls.quiet_of_same (sbitq _ _)))
  have HM2 : Hid (Mod (fun _ => False) w (W1.drewN nq)) := Lib.hid (HM1.out.drewN nq)
  clear c0 co cl fo
  generalize W1.drewN nq = W2 at *
  have HQ2 := Lib.hid (HQ.out.still HM2.out)
  have c0 : W2.cell? ⟨tb, 0, none⟩ = some (.bool false) := by
   have := HQ2.out.blk.cellAt 0 (v := .bool T.client) rfl
   rw [HC.out] at this
   exact this
  have co : W2.cell? ⟨tb, 26, none⟩ = some (.int .u64 n) := by rw [← HNN.out]; exact HQ2.out.cell 4 rfl
  have cl : W2.cell? ⟨tb, 28, none⟩ = some (.int .u64 l) := by rw [← HLL.out]; exact HQ2.out.cell 6 rfl
  have fo : W2.frozen? ⟨tb, 26, none⟩ = false := HQ2.out.blk.free 26
  go_wp2_with fail
  go_ret2
  unfold TOpen openV opE openT
  rw [HOK.out, if_neg (by decide), if_neg (by decide), if_neg (by decide)]
  exact ⟨rfl, HQ.out.tc HM2.out⟩
 | true =>
  rw [hlt] at hdec HOK
  have HLT := Lib.hid (of_decide_eq_true hlt)
  have ht : decide (l ≤ n) = false := hdec
  clear hdec hlt
  go_enter Tryz.func25, Tryz.ntmps25
  go_wp2_with fail
  go_quiet (first | (go_at_call 41; refine Calls.quiet_of_same (sbitq _ _)))
  have HM1 : Hid (Mod (fun _ => False) w (w.drewN nq)) := Lib.hid (HM0.out.drewN nq)
  clear c0 co cl fo
  generalize w.drewN nq = W1 at *
  have HQ1 := Lib.hid (HQ.out.still HM1.out)
  have c0 : W1.cell? ⟨tb, 0, none⟩ = some (.bool false) := by
   have := HQ1.out.blk.cellAt 0 (v := .bool T.client) rfl
   rw [HC.out] at this
   exact this
  have co : W1.cell? ⟨tb, 26, none⟩ = some (.int .u64 n) := by rw [← HNN.out]; exact HQ1.out.cell 4 rfl
  have cl : W1.cell? ⟨tb, 28, none⟩ = some (.int .u64 l) := by rw [← HLL.out]; exact HQ1.out.cell 6 rfl
  have fo : W1.frozen? ⟨tb, 26, none⟩ = false := HQ1.out.blk.free 26
  go_wp2_with fail
  go_quiet (first | (go_at_call 41; refine Calls.quiet_of_same (sbitq _ _)))
  have HM2 : Hid (Mod (fun _ => False) w (W1.drewN nq)) := Lib.hid (HM1.out.drewN nq)
  clear c0 co cl fo
  generalize W1.drewN nq = W2 at *
  have HQ2 := Lib.hid (HQ.out.still HM2.out)
  have c0 : W2.cell? ⟨tb, 0, none⟩ = some (.bool false) := by
   have := HQ2.out.blk.cellAt 0 (v := .bool T.client) rfl
   rw [HC.out] at this
   exact this
  have co : W2.cell? ⟨tb, 26, none⟩ = some (.int .u64 n) := by rw [← HNN.out]; exact HQ2.out.cell 4 rfl
  have cl : W2.cell? ⟨tb, 28, none⟩ = some (.int .u64 l) := by rw [← HLL.out]; exact HQ2.out.cell 6 rfl
  have fo : W2.frozen? ⟨tb, 26, none⟩ = false := HQ2.out.blk.free 26
  go_wp2_with fail
  go_region
  have e1 : n + 1 = ((T.op3 + 1 : Nat) : Int) := by rw [← HNN.out]; push_cast; rfl
  have e2 : 4 * n + 3 = (openId T true : Int) := by rw [HID.out, ← HNN.out]; push_cast; rfl
  have E2 := Lib.hid e2
  have HT3 : Hid (TT B w (W2.setCell ⟨tb, 26, none⟩ (.int .u64 (n + 1))).drew tb mb G G T { T with op3 := T.op3 + 1 }) := Lib.hid (by
   rw [e1]
   have h3 := HQ2.out.setTT { T with op3 := T.op3 + 1 } 4 (.int .u64 ((T.op3 + 1 : Nat) : Int)) rfl rfl rfl rfl rfl (by
    have hn := HNUM.out
    have h1 := HLT.out
    refine ⟨hn.1, hn.2.1, hn.2.2.1, hn.2.2.2.1, ?_, ?_, ?_, ?_, hn.2.2.2.2.2.2.2.2⟩ <;> dsimp only <;> omega)
   have h23 := (HQ.out.stay HM2.out).trans h3
   exact h23.trans (h23.1.stay (Mod.refl _ _).drew))
  have HMK : Hid (Calls Tryz.prog 42 #[.pointer (some ⟨tb, 0, none⟩), .int .u64 (4 * n + 3)] (W2.setCell ⟨tb, 26, none⟩ (.int .u64 (n + 1))).drew fun e w' => TMk B (W2.setCell ⟨tb, 26, none⟩ (.int .u64 (n + 1))).drew w' tb mb G { T with op3 := T.op3 + 1 } (mkT { T with op3 := T.op3 + 1 } (openId T true)) (openId T true) e) := Lib.hid (by
   rw [e2]
   exact make_any HT3.out.1 (by rw [HID.out]; have := HNUM.out; omega) HZ.out.1 HZ.out.2)
  clear e1 e2
  go_wp2_with (first
   | (go_at_call 42; (with_reducible refine HMK.out.mono ?_); rintro e w5 ⟨G5, rfl, hT⟩; have H5 := Lib.hid hT; clear hT)
   | fail)
  go_ret2
  unfold TOpen openV opE openT
  rw [HOK.out, if_pos rfl, if_pos rfl, if_pos rfl, HTT.out]
  refine ⟨?_, (HT3.out.trans H5.out).tc⟩
  rw [← E2.out]
  rfl
theorem open_11 {B : Nat} {w : World} {tb mb : Nat} {G : Int → SM} {T : Tb} (q : TBuf B w tb mb G T) (hc : T.client = true) (hz : (openId T true : Int) ∉ T.dom) (hl : T.dom.length ≤ 1000) :
  Calls Tryz.prog 25 #[.pointer (some ⟨tb, 0, none⟩), .bool true] w fun e w' => TOpen B w w' tb mb G T true e := by
 have hk : kindN T.client true = 2 := by rw [hc]; rfl
 have HID : Hid (openId T true = 4 * T.op2 + 2) := Lib.hid (by unfold openId; rw [hk]; rfl)
 have HOK : Hid (openOk T true = decide (T.op2 < T.lim1)) := Lib.hid (by unfold openOk; rw [hk]; rfl)
 have HTT : Hid (setOp T (kindN T.client true) (opN T (kindN T.client true) + 1) = { T with op2 := T.op2 + 1 }) := Lib.hid (by rw [hk]; rfl)
 have hn := q.num
 have HNUM := Lib.hid q.num
 have HC := Lib.hid hc
 have HQ := Lib.hid q
 have HZ := Lib.hid (And.intro hz hl)
 have HM0 : Hid (Mod (fun _ => False) w w) := Lib.hid (Mod.refl _ _)
 obtain ⟨n, hnn⟩ : ∃ n : Int, (T.op2 : Int) = n := ⟨_, rfl⟩
 obtain ⟨l, hll⟩ : ∃ l : Int, (T.lim1 : Int) = l := ⟨_, rfl⟩
 have HNN := Lib.hid hnn
 have HLL := Lib.hid hll
 have u1 : IntKind.u64.wrap (n + 1) = n + 1 := IntWalk.u64_in _ (by omega)
 have u4 : IntKind.u64.wrap (4 * n) = 4 * n := IntWalk.u64_in _ (by omega)
 have u5 : IntKind.u64.wrap (4 * n + 2) = 4 * n + 2 := IntWalk.u64_in _ (by omega)
 have hdec : decide (l ≤ n) = !decide (T.op2 < T.lim1) := by
  by_cases h : T.op2 < T.lim1
  ·rw [decide_eq_true h, decide_eq_false (by omega)]; rfl
  ·rw [decide_eq_false h, decide_eq_true (by omega)]; rfl
 have c0 : w.cell? ⟨tb, 0, none⟩ = some (.bool true) := by
  have := HQ.out.blk.cellAt 0 (v := .bool T.client) rfl
  rw [HC.out] at this
  exact this
 have co : w.cell? ⟨tb, 25, none⟩ = some (.int .u64 n) := by rw [← HNN.out]; exact HQ.out.cell 3 rfl
 have cl : w.cell? ⟨tb, 28, none⟩ = some (.int .u64 l) := by rw [← HLL.out]; exact HQ.out.cell 6 rfl
 have fo : w.frozen? ⟨tb, 25, none⟩ = false := HQ.out.blk.free 25
 clear q hn hnn hll hz hl hk hc
 cases hlt : decide (T.op2 < T.lim1) with
 | false =>
  rw [hlt] at hdec HOK
  have ht : decide (l ≤ n) = true := hdec
  clear hdec hlt
  go_enter Tryz.func25, Tryz.ntmps25
  go_wp2_with fail
  go_quiet (first | (go_at_call 41; refine Calls.quiet_of_same (sbitq _ _)))
  have HM1 : Hid (Mod (fun _ => False) w (w.drewN nq)) := Lib.hid (HM0.out.drewN nq)
  clear c0 co cl fo
  generalize w.drewN nq = W1 at *
  have HQ1 := Lib.hid (HQ.out.still HM1.out)
  have c0 : W1.cell? ⟨tb, 0, none⟩ = some (.bool true) := by
   have := HQ1.out.blk.cellAt 0 (v := .bool T.client) rfl
   rw [HC.out] at this
   exact this
  have co : W1.cell? ⟨tb, 25, none⟩ = some (.int .u64 n) := by rw [← HNN.out]; exact HQ1.out.cell 3 rfl
  have cl : W1.cell? ⟨tb, 28, none⟩ = some (.int .u64 l) := by rw [← HLL.out]; exact HQ1.out.cell 6 rfl
  have fo : W1.frozen? ⟨tb, 25, none⟩ = false := HQ1.out.blk.free 25
  go_wp2_with fail
  go_quiet (first | (go_at_call 41; refine Calls.quiet_of_same (sbitq _ _)))
  have HM2 : Hid (Mod (fun _ => False) w (W1.drewN nq)) := Lib.hid (HM1.out.drewN nq)
  clear c0 co cl fo
  generalize W1.drewN nq = W2 at *
  have HQ2 := Lib.hid (HQ.out.still HM2.out)
  have c0 : W2.cell? ⟨tb, 0, none⟩ = some (.bool true) := by
   have := HQ2.out.blk.cellAt 0 (v := .bool T.client) rfl
   rw [HC.out] at this
   exact this
  have co : W2.cell? ⟨tb, 25, none⟩ = some (.int .u64 n) := by rw [← HNN.out]; exact HQ2.out.cell 3 rfl
  have cl : W2.cell? ⟨tb, 28, none⟩ = some (.int .u64 l) := by rw [← HLL.out]; exact HQ2.out.cell 6 rfl
  have fo : W2.frozen? ⟨tb, 25, none⟩ = false := HQ2.out.blk.free 25
  go_wp2_with fail
  go_ret2
  unfold TOpen openV opE openT
  rw [HOK.out, if_neg (by decide), if_neg (by decide), if_neg (by decide)]
  exact ⟨rfl, HQ.out.tc HM2.out⟩
 | true =>
  rw [hlt] at hdec HOK
  have HLT := Lib.hid (of_decide_eq_true hlt)
  have ht : decide (l ≤ n) = false := hdec
  clear hdec hlt
  go_enter Tryz.func25, Tryz.ntmps25
  go_wp2_with fail
  go_quiet (first | (go_at_call 41; refine Calls.quiet_of_same (sbitq _ _)))
  have HM1 : Hid (Mod (fun _ => False) w (w.drewN nq)) := Lib.hid (HM0.out.drewN nq)
  clear c0 co cl fo
  generalize w.drewN nq = W1 at *
  have HQ1 := Lib.hid (HQ.out.still HM1.out)
  have c0 : W1.cell? ⟨tb, 0, none⟩ = some (.bool true) := by
   have := HQ1.out.blk.cellAt 0 (v := .bool T.client) rfl
   rw [HC.out] at this
   exact this
  have co : W1.cell? ⟨tb, 25, none⟩ = some (.int .u64 n) := by rw [← HNN.out]; exact HQ1.out.cell 3 rfl
  have cl : W1.cell? ⟨tb, 28, none⟩ = some (.int .u64 l) := by rw [← HLL.out]; exact HQ1.out.cell 6 rfl
  have fo : W1.frozen? ⟨tb, 25, none⟩ = false := HQ1.out.blk.free 25
  go_wp2_with fail
  go_quiet (first | (go_at_call 41; refine Calls.quiet_of_same (sbitq _ _)))
  have HM2 : Hid (Mod (fun _ => False) w (W1.drewN nq)) := Lib.hid (HM1.out.drewN nq)
  clear c0 co cl fo
  generalize W1.drewN nq = W2 at *
  have HQ2 := Lib.hid (HQ.out.still HM2.out)
  have c0 : W2.cell? ⟨tb, 0, none⟩ = some (.bool true) := by
   have := HQ2.out.blk.cellAt 0 (v := .bool T.client) rfl
   rw [HC.out] at this
   exact this
  have co : W2.cell? ⟨tb, 25, none⟩ = some (.int .u64 n) := by rw [← HNN.out]; exact HQ2.out.cell 3 rfl
  have cl : W2.cell? ⟨tb, 28, none⟩ = some (.int .u64 l) := by rw [← HLL.out]; exact HQ2.out.cell 6 rfl
  have fo : W2.frozen? ⟨tb, 25, none⟩ = false := HQ2.out.blk.free 25
  go_wp2_with fail
  go_region
  have e1 : n + 1 = ((T.op2 + 1 : Nat) : Int) := by rw [← HNN.out]; push_cast; rfl
  have e2 : 4 * n + 2 = (openId T true : Int) := by rw [HID.out, ← HNN.out]; push_cast; rfl
  have E2 := Lib.hid e2
  have HT3 : Hid (TT B w (W2.setCell ⟨tb, 25, none⟩ (.int .u64 (n + 1))).drew tb mb G G T { T with op2 := T.op2 + 1 }) := Lib.hid (by
   rw [e1]
   have h3 := HQ2.out.setTT { T with op2 := T.op2 + 1 } 3 (.int .u64 ((T.op2 + 1 : Nat) : Int)) rfl rfl rfl rfl rfl (by
    have hn := HNUM.out
    have h1 := HLT.out
    refine ⟨hn.1, hn.2.1, hn.2.2.1, hn.2.2.2.1, ?_, ?_, ?_, ?_, hn.2.2.2.2.2.2.2.2⟩ <;> dsimp only <;> omega)
   have h23 := (HQ.out.stay HM2.out).trans h3
   exact h23.trans (h23.1.stay (Mod.refl _ _).drew))
  have HMK : Hid (Calls Tryz.prog 42 #[.pointer (some ⟨tb, 0, none⟩), .int .u64 (4 * n + 2)] (W2.setCell ⟨tb, 25, none⟩ (.int .u64 (n + 1))).drew fun e w' => TMk B (W2.setCell ⟨tb, 25, none⟩ (.int .u64 (n + 1))).drew w' tb mb G { T with op2 := T.op2 + 1 } (mkT { T with op2 := T.op2 + 1 } (openId T true)) (openId T true) e) := Lib.hid (by
   rw [e2]
   exact make_any HT3.out.1 (by rw [HID.out]; have := HNUM.out; omega) HZ.out.1 HZ.out.2)
  clear e1 e2
  go_wp2_with (first
   | (go_at_call 42; (with_reducible refine HMK.out.mono ?_); rintro e w5 ⟨G5, rfl, hT⟩; have H5 := Lib.hid hT; clear hT)
   | fail)
  go_ret2
  unfold TOpen openV opE openT
  rw [HOK.out, if_pos rfl, if_pos rfl, if_pos rfl, HTT.out]
  refine ⟨?_, (HT3.out.trans H5.out).tc⟩
  rw [← E2.out]
  rfl
theorem topen_any {B : Nat} {w : World} {tb mb : Nat} {G : Int → SM} {T : Tb} (q : TBuf B w tb mb G T) (b : Bool) (hz : (openId T b : Int) ∉ T.dom) (hl : T.dom.length ≤ 1000) :
  Calls Tryz.prog 25 #[.pointer (some ⟨tb, 0, none⟩), .bool b] w fun e w' => TOpen B w w' tb mb G T b e := by
 cases b <;> cases hc : T.client
 ·exact open_00 q hc hz hl
 ·exact open_01 q hc hz hl
 ·exact open_10 q hc hz hl
 ·exact open_11 q hc hz hl
end Go.Proofs.YtahgidkpjmecdaaGreatDoor
