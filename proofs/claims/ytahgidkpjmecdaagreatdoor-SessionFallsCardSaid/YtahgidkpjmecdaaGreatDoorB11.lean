/- Parts of the proof: StF SsB StG StH StI. -/
import Derived.Test.YtahgidkpjmecdaaGreatDoorB06
import Derived.Test.YtahgidkpjmecdaaGreatDoorB08
import Derived.Test.YtahgidkpjmecdaaGreatDoorB09
import Derived.Test.YtahgidkpjmecdaaGreatDoorB10
import Derived.Deep.QuietTactic
import Derived.BigQuiet
import Derived.RangeFuncBox
import Derived.RangeFuncLeaves
import Derived.RangeFuncBound
import Derived.RangeFuncStops
import Derived.RangeFuncCalls
import Derived.RangeFuncWrites
import Derived.RangeFuncNested
import Derived.Shelf.Abstract
import Derived.OwnWalkIn
import Derived.TacticsInMore
import Derived.LoopNIn
import Derived.LoopIn
import Derived.Maps.AppendAt
import Derived.Maps.OwnIn
set_option maxRecDepth 100000
namespace Go.Proofs.YtahgidkpjmecdaaGreatDoor
open Go.RowKit Go.Maps
theorem step_skipr {P : Program} {w w' : World} {ops : Array Oper} {o : Oper} {a : Act} {K : Act → World → Prop} {Q : Exit → Act → World → Prop} {E : Prop} (hg : o.guard = none) (hr : (execOp a.eval o).run P w = .ok .skip w') (h : K (a.put o.dst undef) w') :
  if Region.wanted o (yielded ops a.tmps) = true then Oper.wp P o a w K Q else E := by
 have hw : Region.wanted o (yielded ops a.tmps) = true := by simp [Region.wanted, hg]
 rw [if_pos hw]
 unfold Oper.wp
 rw [hr]
 exact h
def outOf (T : Tb) (id : Nat) : Option OB := if (id : Int) ∈ T.dom then (T.m id).out else none
def setO (T : Tb) (id : Nat) (o : OB) : Tb := { T with m := updM T.m id { T.m id with out := some o } }
def ackT (T : Tb) (f : Fr) : Tb :=
 match outOf T f.id with
 | none => T
 | some o => if f.k = 8 then setO T f.id (turnO ackF f.a f.d.length f.fl o) else if f.k = 4 then { T with m := updM T.m f.id (setTell { T.m f.id with done := (T.m f.id).reset } 4 ((T.m f.id).tR && !(T.m f.id).reset)) } else T
def AckR (B : Nat) (w w' : World) (tb mb : Nat) (G : Int → SM) (T T' : Tb) (e : Ending) : Prop := e = .returned (.tuple #[]) ∧ TC B w w' tb mb G T T'
theorem TBuf.lookX {B : Nat} {w : World} {tb mb : Nat} {G : Int → SM} {T : Tb} (q : TBuf B w tb mb G T) {id : Nat} (hi : okId id) (n : Nat) :
  (Instr.lookup 99 (.map (some mb)) (.int .u64 (id : Int)) false).run Tryz.prog (w.drewN n) = .ok (if (id : Int) ∈ T.dom then .pointer (some ⟨(G id).sb, 0, none⟩) else .pointer none) (w.drewN n) :=
 (q.still ((Mod.refl (fun _ => False) w).drewN n)).look hi
theorem TellM.look {w : World} {tb : Nat} {s : St} (h : TellM w tb s) {z : Int} (hz : tellK z) : (Instr.lookup 107 (.map (some tb)) (.int .i64 z) false).run Tryz.prog w = .ok (.bool (tellF s z)) w := by
 obtain ⟨dom, b, h1, h2, h3⟩ := h
 have := h1.look (t := 107) Tryz.underlying3 (i64_wf hz) Tryz.underlying107 (zero_bool w)
 rw [this, ← h3 z]
 by_cases hd : z ∈ dom
 ·rw [if_pos hd, decide_eq_true hd]; rfl
 ·rw [if_neg hd, decide_eq_false hd]; rfl
theorem SBuf.tellPut {B : Nat} {w : World} {g : SM} {s : St} (q : SBuf B w g s) {z : Int} (hz : tellK z) (b : Bool) : ∃ w', (Instr.mapUpdate 107 (.map (some g.tb)) (.int .i64 z) (.bool b)).run Tryz.prog w = .ok () w' ∧ SC B w w' g g s (setTell s z b) := by
 obtain ⟨dom, f, h1, h2, h3⟩ := q.tell
 obtain ⟨w', hr, hI, hM⟩ := h1.put (t := 107) (e := 4) Tryz.underlying3 (.bool b) (i64_wf hz) (TellM.size h1 h2) Tryz.underlying107
 exact ⟨w', hr, q.tellS hz h2 h3 hI hM⟩
set_option maxHeartbeats 4000000 in
theorem tacked_any {B : Nat} {w : World} {tb mb : Nat} {G : Int → SM} {T : Tb} (q : TBuf B w tb mb G T) {f : Fr} {vd vr : Value} (hf : FrV w f vd vr) (hi : okId f.id) (hdl : f.d.length ≤ 1000000000) :
  Calls Tryz.prog 34 #[.pointer (some ⟨tb, 0, none⟩), frV f vd vr] w fun e w' => AckR B w w' tb mb G T (ackT T f) e := by
 obtain ⟨da, dc, rfl, -⟩ := Sl.val hf.d
 have HB := Lib.hid (FrB.new w f (.slice da f.d.length dc) vr hf.t)
 obtain ⟨b0, b1, b2, -, -, b5, b6, -⟩ := HB.out.cells
 have HM : Hid (Mod (fun _ => False) w (w.alloc (.cells (frC f (.slice da f.d.length dc) vr) 91))) := Lib.hid ((Mod.refl _ _).alloc _)
 have HQ := Lib.hid (q.still HM.out)
 have cm : (w.alloc (.cells (frC f (.slice da f.d.length dc) vr) 91)).cell? ⟨tb, 22, none⟩ = some (.map (some mb)) := HQ.out.mapc
 have hlk := HQ.out.lookX hi
 have HL := Lib.hid hdl
 have HQ0 := Lib.hid q
 clear q hf hdl
 unfold frV
 generalize frC f (.slice da f.d.length dc) vr = C at *
 by_cases hd : (f.id : Int) ∈ T.dom
 ·have hs := HQ.out.strs _ hd
  have c0 : (w.alloc (.cells C 91)).cell? ⟨(G f.id).sb, 0, none⟩ = some (ptrO (G f.id).ob (T.m f.id).out) := hs.blk.cellAt 0 rfl
  simp only [if_pos hd] at hlk
  have HD := Lib.hid hd
  cases ho : (T.m f.id).out with
  | none =>
   have HE : Hid (ackT T f = T) := Lib.hid (by unfold ackT outOf; rw [if_pos hd, ho])
   rw [ho] at c0
   unfold ptrO at c0
   clear hs hd ho
   go_enter Tryz.func34, Tryz.ntmps34
   go_wp2_with fail
   go_quiet (fail)
   go_wp2_with fail
   refine bodyPost_ret (results_none rfl _ _ _) rfl ?_
   rw [HE.out]
   exact ⟨rfl, HQ0.out.tc (HM.out.drewN _)⟩
  | some o =>
   rw [ho] at c0
   unfold ptrO at c0
   have HO := Lib.hid ho
   by_cases h8 : f.k = 8
   ·have HE : Hid (ackT T f = setO T f.id (turnO ackF f.a f.d.length f.fl o)) := Lib.hid (by unfold ackT outOf; rw [if_pos hd, ho]; dsimp only; rw [if_pos h8])
    have H8 := Lib.hid h8
    rw [h8] at b0
    clear hs hd ho h8
    go_enter Tryz.func34, Tryz.ntmps34
    go_wp2_with fail
    go_quiet (fail)
    have HWX1 := Lib.hid ((Mod.refl (fun _ => False) (w.alloc (.cells C 91))).drewN nq)
    clear b0 b1 b2 b5 b6 cm hlk c0
    generalize (w.alloc (.cells C 91)).drewN nq = X1 at *
    have HQX1 := Lib.hid (HQ.out.still HWX1.out)
    have HBX1 := Lib.hid (HB.out.kept HWX1.out)
    have HMX1 := Lib.hid (HM.out.trans HWX1.out)
    obtain ⟨b0, b1, b2, -, -, b5, b6, -⟩ := HBX1.out.cells
    have cm : X1.cell? ⟨tb, 22, none⟩ = some (.map (some mb)) := HQX1.out.mapc
    have hlk := HQX1.out.lookX hi
    simp only [if_pos HD.out] at hlk
    have c0 : X1.cell? ⟨(G f.id).sb, 0, none⟩ = some (ptrO (G f.id).ob (T.m f.id).out) := (HQX1.out.strs _ HD.out).blk.cellAt 0 rfl
    rw [HO.out] at c0
    unfold ptrO at c0
    go_wp2_with fail
    go_quiet (fail)
    have HWX2 := Lib.hid ((Mod.refl (fun _ => False) X1).drewN nq)
    clear b0 b1 b2 b5 b6 cm hlk c0
    generalize X1.drewN nq = X2 at *
    have HQX2 := Lib.hid (HQX1.out.still HWX2.out)
    have HBX2 := Lib.hid (HBX1.out.kept HWX2.out)
    have HMX2 := Lib.hid (HMX1.out.trans HWX2.out)
    obtain ⟨b0, b1, b2, -, -, b5, b6, -⟩ := HBX2.out.cells
    have cm : X2.cell? ⟨tb, 22, none⟩ = some (.map (some mb)) := HQX2.out.mapc
    have hlk := HQX2.out.lookX hi
    simp only [if_pos HD.out] at hlk
    have c0 : X2.cell? ⟨(G f.id).sb, 0, none⟩ = some (ptrO (G f.id).ob (T.m f.id).out) := (HQX2.out.strs _ HD.out).blk.cellAt 0 rfl
    rw [HO.out] at c0
    unfold ptrO at c0
    rw [H8.out] at b0
    go_upto_region 5 with fail
    refine wp_region_last (S := fun X => X2.drew = X) 11 (by kernel_rfl) rfl (fun hS => ?_)
    have HWY := Lib.hid ((Mod.refl (fun _ => False) X2).drew)
    clear b0 b1 b2 b5 b6 cm hlk c0
    generalize X2.drew = Y at *
    have HQY := Lib.hid (HQX2.out.still HWY.out)
    have HBY := Lib.hid (HBX2.out.kept HWY.out)
    have HMY := Lib.hid (HMX2.out.trans HWY.out)
    obtain ⟨b0, b1, b2, -, -, b5, b6, -⟩ := HBY.out.cells
    have cm : Y.cell? ⟨tb, 22, none⟩ = some (.map (some mb)) := HQY.out.mapc
    have hlk := HQY.out.lookX hi
    simp only [if_pos HD.out] at hlk
    have c0 : Y.cell? ⟨(G f.id).sb, 0, none⟩ = some (ptrO (G f.id).ob (T.m f.id).out) := (HQY.out.strs _ HD.out).blk.cellAt 0 rfl
    rw [HO.out] at c0
    unfold ptrO at c0
    have CA := Lib.hid (oacked_any ((HQY.out.strs _ HD.out).out o HO.out) f.a f.d.length f.fl (by have := HL.out; omega))
    refine' tkL 0 _ (some 41) rfl rfl (by kernel_rfl) (fun _ _ _ => id) (Or.inl ⟨by rfl, fun X hX => ?_⟩) hS ?_; rotate_left
    ·go_simp; exact rfl
    (try go_frame); refine' tkL 1 _ (some 42) rfl rfl (by kernel_rfl) (fun _ _ _ => id) (Or.inl ⟨by rfl, fun X hX => ?_⟩) hS ?_; rotate_left
    ·go_simp; exact rfl
    (try go_frame); refine' tkL 2 _ (some 43) rfl rfl (by kernel_rfl) (fun _ _ _ => id) (Or.inl ⟨by rfl, fun X hX => ?_⟩) hS ?_; rotate_left
    ·go_simp; exact rfl
    (try go_frame); refine' tkL 3 _ (some 44) rfl rfl (by kernel_rfl) (fun _ _ _ => id) (Or.inl ⟨by rfl, fun X hX => ?_⟩) hS ?_; rotate_left
    ·have hX := (show Y = X from hX); subst hX; go_simp; exact rfl
    (try go_frame); refine' tkL 4 _ (some 45) rfl rfl (by kernel_rfl) (fun _ _ _ => id) (Or.inl ⟨by rfl, fun X hX => ?_⟩) hS ?_; rotate_left
    ·go_simp; exact rfl
    (try go_frame); refine' tkL 5 _ (some 46) rfl rfl (by kernel_rfl) (fun _ _ _ => id) (Or.inl ⟨by rfl, fun X hX => ?_⟩) hS ?_; rotate_left
    ·have hX := (show Y = X from hX); subst hX; go_simp; exact rfl
    (try go_frame); refine' tkL 6 _ (some 47) rfl rfl (by kernel_rfl) (fun _ _ _ => id) (Or.inl ⟨by rfl, fun X hX => ?_⟩) hS ?_; rotate_left
    ·go_simp; exact rfl
    (try go_frame); refine' tkL 7 _ (some 48) rfl rfl (by kernel_rfl) (fun _ _ _ => id) (Or.inl ⟨by rfl, fun X hX => ?_⟩) hS ?_; rotate_left
    ·have hX := (show Y = X from hX); subst hX; go_simp; exact rfl
    (try go_frame); refine' tkL 8 _ (some 49) rfl rfl (by kernel_rfl) (fun _ _ _ => id) (Or.inl ⟨by rfl, fun X hX => ?_⟩) hS ?_; rotate_left
    ·go_simp; exact rfl
    (try go_frame); refine' tkL 9 _ (some 50) rfl rfl (by kernel_rfl) (fun _ _ _ => id) (Or.inl ⟨by rfl, fun X hX => ?_⟩) hS ?_; rotate_left
    ·go_simp; exact rfl
    (try go_frame); refine' tkL 10 _ (some 51) rfl rfl (by kernel_rfl) (fun _ _ _ => id) (Or.inl ⟨by rfl, fun X hX => ?_⟩) hS ?_; rotate_left
    ·have hX := (show Y = X from hX); subst hX; go_simp; exact rfl
    (try go_frame); refine wpAnyL.ready (rs := [11]) (by kernel_rfl) (by simp) ?_
    refine AllReadyL.closing (o := ⟨some 52, _, _, _, _, none⟩) rfl (fun K hK => ?_)
    go_simp
    refine CA.out.mono ?_
    rintro e w2 ⟨rfl, hq2, hM2⟩
    have HR := Lib.hid (And.intro hq2 hM2)
    refine hK.out _ _ ?_
    clear hK K hq2 hM2
    refine wpAnyL.done (by kernel_rfl) ?_ _
    go_wp2_with fail
    go_end0
    obtain ⟨g', hsc⟩ := (HQY.out.strs _ HD.out).outS HO.out ⟨_, _, HR.out.1, fun k hk => .inl hk, HR.out.2⟩
    rw [HE.out]
    exact ⟨rfl, TC.trans (HQ0.out.stay HMY.out) (hsc.table HQY.out HD.out)⟩
   ·by_cases h4 : f.k = 4
    ·have HE : Hid (ackT T f = { T with m := updM T.m f.id (setTell { T.m f.id with done := (T.m f.id).reset } 4 ((T.m f.id).tR && !(T.m f.id).reset)) }) := Lib.hid (by unfold ackT outOf; rw [if_pos hd, ho]; dsimp only; rw [if_neg h8, if_pos h4])
     have H4 := Lib.hid h4
     rw [h4] at b0
     clear hs hd ho h8 h4
     go_enter Tryz.func34, Tryz.ntmps34
     go_wp2_with fail
     go_quiet (fail)
     have HWX1 := Lib.hid ((Mod.refl (fun _ => False) (w.alloc (.cells C 91))).drewN nq)
     clear b0 b1 b2 b5 b6 cm hlk c0
     generalize (w.alloc (.cells C 91)).drewN nq = X1 at *
     have HQX1 := Lib.hid (HQ.out.still HWX1.out)
     have HBX1 := Lib.hid (HB.out.kept HWX1.out)
     have HMX1 := Lib.hid (HM.out.trans HWX1.out)
     obtain ⟨b0, b1, b2, -, -, b5, b6, -⟩ := HBX1.out.cells
     have cm : X1.cell? ⟨tb, 22, none⟩ = some (.map (some mb)) := HQX1.out.mapc
     have hlk := HQX1.out.lookX hi
     simp only [if_pos HD.out] at hlk
     have c0 : X1.cell? ⟨(G f.id).sb, 0, none⟩ = some (ptrO (G f.id).ob (T.m f.id).out) := (HQX1.out.strs _ HD.out).blk.cellAt 0 rfl
     rw [HO.out] at c0
     unfold ptrO at c0
     go_wp2_with fail
     go_quiet (fail)
     have HWX2 := Lib.hid ((Mod.refl (fun _ => False) X1).drewN nq)
     clear b0 b1 b2 b5 b6 cm hlk c0
     generalize X1.drewN nq = X2 at *
     have HQX2 := Lib.hid (HQX1.out.still HWX2.out)
     have HBX2 := Lib.hid (HBX1.out.kept HWX2.out)
     have HMX2 := Lib.hid (HMX1.out.trans HWX2.out)
     obtain ⟨b0, b1, b2, -, -, b5, b6, -⟩ := HBX2.out.cells
     have cm : X2.cell? ⟨tb, 22, none⟩ = some (.map (some mb)) := HQX2.out.mapc
     have hlk := HQX2.out.lookX hi
     simp only [if_pos HD.out] at hlk
     have c0 : X2.cell? ⟨(G f.id).sb, 0, none⟩ = some (ptrO (G f.id).ob (T.m f.id).out) := (HQX2.out.strs _ HD.out).blk.cellAt 0 rfl
     rw [HO.out] at c0
     unfold ptrO at c0
     rw [H4.out] at b0
     have hs2 := HQX2.out.strs _ HD.out
     have k4 : X2.cell? ⟨(G f.id).sb, 4, none⟩ = some (.bool (T.m f.id).reset) := hs2.blk.cellAt 4 rfl
     have k10 : X2.cell? ⟨(G f.id).sb, 10, none⟩ = some (.bool (T.m f.id).done) := hs2.blk.cellAt 10 rfl
     have g10 : X2.frozen? ⟨(G f.id).sb, 10, none⟩ = false := hs2.blk.free 10
     have x1 := hs2.cell 10 (.bool (T.m f.id).reset) (s' := { T.m f.id with done := (T.m f.id).reset }) rfl rfl rfl (fun _ => rfl) hs2.num
     have HX1 := Lib.hid (x1.trans (x1.1.stay (Mod.refl (fun _ => False) _).drew))
     clear hs2 x1
     go_upto_region 8 with fail
     refine wp_region_last (S := fun X => (X2.setCell ⟨(G f.id).sb, 10, none⟩ (.bool (T.m f.id).reset)).drew = X) 16 (by kernel_rfl) rfl (fun hS => ?_)
     clear b0 b1 b2 b5 b6 cm hlk c0 k4 k10 g10
     have e11 := HX1.out.1.blk.cellAt 11 rfl
     have e10 := HX1.out.1.blk.cellAt 10 rfl
     have HTL : Hid ((Instr.lookup 107 (.map (some (G f.id).tb)) (.int .i64 4) false).run Tryz.prog ((X2.setCell ⟨(G f.id).sb, 10, none⟩ (.bool (T.m f.id).reset)).drew) = .ok (.bool (T.m f.id).tR) ((X2.setCell ⟨(G f.id).sb, 10, none⟩ (.bool (T.m f.id).reset)).drew)) := Lib.hid (HX1.out.1.tell.look (.inl rfl))
     obtain ⟨w2, hr2, hsc2⟩ := HX1.out.1.tellPut (z := 4) (.inl rfl) ((T.m f.id).tR && !(T.m f.id).reset)
     have HR2 := Lib.hid hr2
     have HSC2 := Lib.hid (HX1.out.trans hsc2)
     clear hr2 hsc2
     have d11 : ((X2.setCell ⟨(G f.id).sb, 10, none⟩ (.bool (T.m f.id).reset)).drew).cell? ⟨(G f.id).sb, 11, none⟩ = some (.map (some (G f.id).tb)) := e11
     have d10 : ((X2.setCell ⟨(G f.id).sb, 10, none⟩ (.bool (T.m f.id).reset)).drew).cell? ⟨(G f.id).sb, 10, none⟩ = some (.bool (T.m f.id).reset) := e10
     clear e11 e10
     generalize ((X2.setCell ⟨(G f.id).sb, 10, none⟩ (.bool (T.m f.id).reset)).drew) = Y at *
     obtain ⟨rs, hrs⟩ : ∃ rs, rs = (T.m f.id).reset := ⟨_, rfl⟩
     obtain ⟨tr, htr⟩ : ∃ tr, tr = (T.m f.id).tR := ⟨_, rfl⟩
     rw [← hrs] at d10 HR2
     rw [← htr] at HTL HR2
     have htl := HTL.out
     clear hrs htr HTL
     cases tr with
     | true =>
      refine' tkL 0 _ (some 62) rfl rfl (by kernel_rfl) (fun _ _ _ => id) (Or.inl ⟨by rfl, fun X hX => ?_⟩) hS ?_; rotate_left
      ·go_simp; exact rfl
      (try go_frame); refine' tkL 1 _ (some 63) rfl rfl (by kernel_rfl) (fun _ _ _ => id) (Or.inl ⟨by rfl, fun X hX => ?_⟩) hS ?_; rotate_left
      ·go_simp; exact rfl
      (try go_frame); refine' tkL 2 _ (some 64) rfl rfl (by kernel_rfl) (fun _ _ _ => id) (Or.inl ⟨by rfl, fun X hX => ?_⟩) hS ?_; rotate_left
      ·go_simp; exact rfl
      (try go_frame); refine' tkL 3 _ (some 65) rfl rfl (by kernel_rfl) (fun _ _ _ => id) (Or.inl ⟨by rfl, fun X hX => ?_⟩) hS ?_; rotate_left
      ·have hX := (show Y = X from hX); subst hX; go_simp; exact rfl
      (try go_frame); refine' tkL 4 _ (some 66) rfl rfl (by kernel_rfl) (fun _ _ _ => id) (Or.inl ⟨by rfl, fun X hX => ?_⟩) hS ?_; rotate_left
      ·go_simp; exact rfl
      (try go_frame); refine' tkL 5 _ (some 67) rfl rfl (by kernel_rfl) (fun _ _ _ => id) (Or.inl ⟨by rfl, fun X hX => ?_⟩) hS ?_; rotate_left
      ·go_simp; exact rfl
      (try go_frame); refine' tkL 6 _ (some 68) rfl rfl (by kernel_rfl) (fun _ _ _ => id) (Or.inl ⟨by rfl, fun X hX => ?_⟩) hS ?_; rotate_left
      ·go_simp; exact rfl
      (try go_frame); refine' tkL 7 _ (some 69) rfl rfl (by kernel_rfl) (fun _ _ _ => id) (Or.inl ⟨by rfl, fun X hX => ?_⟩) hS ?_; rotate_left
      ·have hX := (show Y = X from hX); subst hX; go_simp; exact rfl
      (try go_frame); refine' tkL 8 _ (some 70) rfl rfl (by kernel_rfl) (fun _ _ _ => id) (Or.inl ⟨by rfl, fun X hX => ?_⟩) hS ?_; rotate_left
      ·have hX := (show Y = X from hX); subst hX; go_simp; exact rfl
      (try go_frame); refine' tkL 9 _ (some 71) rfl rfl (by kernel_rfl) (fun _ _ _ => id) (Or.inl ⟨by rfl, fun X hX => ?_⟩) hS ?_; rotate_left
      ·go_simp; exact rfl
      (try go_frame); refine' tkL 10 _ (some 72) rfl rfl (by kernel_rfl) (fun _ _ _ => id) (Or.inl ⟨by rfl, fun X hX => ?_⟩) hS ?_; rotate_left
      ·go_simp; exact rfl
      (try go_frame); refine' tkL 11 _ (some 73) rfl rfl (by kernel_rfl) (fun _ _ _ => id) (Or.inl ⟨by rfl, fun X hX => ?_⟩) hS ?_; rotate_left
      ·go_simp; exact rfl
      (try go_frame); refine' tkL 12 _ (some 74) rfl rfl (by kernel_rfl) (fun _ _ _ => id) (Or.inl ⟨by rfl, fun X hX => ?_⟩) hS ?_; rotate_left
      ·go_simp; exact rfl
      (try go_frame); refine' tkL 13 _ (some 75) rfl rfl (by kernel_rfl) (fun _ _ _ => id) (Or.inl ⟨by rfl, fun X hX => ?_⟩) hS ?_; rotate_left
      ·have hX := (show Y = X from hX); subst hX; go_simp; exact rfl
      (try go_frame); refine' tkL 14 _ (some 76) rfl rfl (by kernel_rfl) (fun _ _ _ => id) (Or.inl ⟨by rfl, fun X hX => ?_⟩) hS ?_; rotate_left
      ·go_simp; exact rfl
      (try go_frame); refine tkL 15 (.bool (true && !rs)) (some 77) rfl rfl (by kernel_rfl) (fun _ _ _ => id) (Or.inl ⟨by rfl, fun X hX => ?_⟩) hS ?_
      ·go_simp
      (try go_frame); refine wpAnyL.ready (rs := [16]) (by kernel_rfl) (by simp) ?_
      refine AllReadyL.closing (o := ⟨none, _, _, _, _, none⟩) rfl (fun K hK => ?_)
      refine step_skipr rfl (exec_iput (m := .tmp 65) (x := .const (.int .i64 4)) (v := .tmp 77) rfl rfl rfl rfl HR2.out) ?_
      refine hK.out _ _ ?_
      clear hK K
      refine wpAnyL.done (by kernel_rfl) ?_ _
      go_wp2_with fail
      go_end0
      rw [HE.out]
      exact ⟨rfl, TC.trans (HQ0.out.stay HMX2.out) (HSC2.out.table HQX2.out HD.out)⟩
     | false =>
      refine' tkL 0 _ (some 62) rfl rfl (by kernel_rfl) (fun _ _ _ => id) (Or.inl ⟨by rfl, fun X hX => ?_⟩) hS ?_; rotate_left
      ·go_simp; exact rfl
      (try go_frame); refine' tkL 1 _ (some 63) rfl rfl (by kernel_rfl) (fun _ _ _ => id) (Or.inl ⟨by rfl, fun X hX => ?_⟩) hS ?_; rotate_left
      ·go_simp; exact rfl
      (try go_frame); refine' tkL 2 _ (some 64) rfl rfl (by kernel_rfl) (fun _ _ _ => id) (Or.inl ⟨by rfl, fun X hX => ?_⟩) hS ?_; rotate_left
      ·go_simp; exact rfl
      (try go_frame); refine' tkL 3 _ (some 65) rfl rfl (by kernel_rfl) (fun _ _ _ => id) (Or.inl ⟨by rfl, fun X hX => ?_⟩) hS ?_; rotate_left
      ·have hX := (show Y = X from hX); subst hX; go_simp; exact rfl
      (try go_frame); refine' tkL 4 _ (some 66) rfl rfl (by kernel_rfl) (fun _ _ _ => id) (Or.inl ⟨by rfl, fun X hX => ?_⟩) hS ?_; rotate_left
      ·go_simp; exact rfl
      (try go_frame); refine' tkL 5 _ (some 67) rfl rfl (by kernel_rfl) (fun _ _ _ => id) (Or.inl ⟨by rfl, fun X hX => ?_⟩) hS ?_; rotate_left
      ·go_simp; exact rfl
      (try go_frame); refine' tkL 6 _ (some 68) rfl rfl (by kernel_rfl) (fun _ _ _ => id) (Or.inl ⟨by rfl, fun X hX => ?_⟩) hS ?_; rotate_left
      ·go_simp; exact rfl
      (try go_frame); refine' tkL 7 _ (some 69) rfl rfl (by kernel_rfl) (fun _ _ _ => id) (Or.inl ⟨by rfl, fun X hX => ?_⟩) hS ?_; rotate_left
      ·have hX := (show Y = X from hX); subst hX; go_simp; exact rfl
      (try go_frame); refine' tkL 8 _ (some 70) rfl rfl (by kernel_rfl) (fun _ _ _ => id) (Or.inl ⟨by rfl, fun X hX => ?_⟩) hS ?_; rotate_left
      ·have hX := (show Y = X from hX); subst hX; go_simp; exact rfl
      (try go_frame); refine' tkL 9 _ (some 71) rfl rfl (by kernel_rfl) (fun _ _ _ => id) (Or.inl ⟨by rfl, fun X hX => ?_⟩) hS ?_; rotate_left
      ·go_simp; exact rfl
      (try go_frame); refine tkL 10 undef (some 72) rfl rfl (by kernel_rfl) (fun _ _ _ => id) (Or.inr ⟨by rfl, rfl⟩) hS ?_
      (try go_frame); refine tkL 11 undef (some 73) rfl rfl (by kernel_rfl) (fun _ _ _ => id) (Or.inr ⟨by rfl, rfl⟩) hS ?_
      (try go_frame); refine tkL 12 undef (some 74) rfl rfl (by kernel_rfl) (fun _ _ _ => id) (Or.inr ⟨by rfl, rfl⟩) hS ?_
      (try go_frame); refine tkL 13 undef (some 75) rfl rfl (by kernel_rfl) (fun _ _ _ => id) (Or.inr ⟨by rfl, rfl⟩) hS ?_
      (try go_frame); refine tkL 14 undef (some 76) rfl rfl (by kernel_rfl) (fun _ _ _ => id) (Or.inr ⟨by rfl, rfl⟩) hS ?_
      (try go_frame); refine tkL 15 (.bool (false && !rs)) (some 77) rfl rfl (by kernel_rfl) (fun _ _ _ => id) (Or.inl ⟨by rfl, fun X hX => ?_⟩) hS ?_
      ·go_simp
      (try go_frame); refine wpAnyL.ready (rs := [16]) (by kernel_rfl) (by simp) ?_
      refine AllReadyL.closing (o := ⟨none, _, _, _, _, none⟩) rfl (fun K hK => ?_)
      refine step_skipr rfl (exec_iput (m := .tmp 65) (x := .const (.int .i64 4)) (v := .tmp 77) rfl rfl rfl rfl HR2.out) ?_
      refine hK.out _ _ ?_
      clear hK K
      refine wpAnyL.done (by kernel_rfl) ?_ _
      go_wp2_with fail
      go_end0
      rw [HE.out]
      exact ⟨rfl, TC.trans (HQ0.out.stay HMX2.out) (HSC2.out.table HQX2.out HD.out)⟩
    ·have HE : Hid (ackT T f = T) := Lib.hid (by unfold ackT outOf; rw [if_pos hd, ho]; dsimp only; rw [if_neg h8, if_neg h4])
     have t8 : (f.k == 8) = false := by simpa using h8
     have t4 : (f.k == 4) = false := by simpa using h4
     clear hs hd ho h8 h4
     go_enter Tryz.func34, Tryz.ntmps34
     go_wp2_with fail
     go_quiet (fail)
     have HWX1 := Lib.hid ((Mod.refl (fun _ => False) (w.alloc (.cells C 91))).drewN nq)
     clear b0 b1 b2 b5 b6 cm hlk c0
     generalize (w.alloc (.cells C 91)).drewN nq = X1 at *
     have HQX1 := Lib.hid (HQ.out.still HWX1.out)
     have HBX1 := Lib.hid (HB.out.kept HWX1.out)
     have HMX1 := Lib.hid (HM.out.trans HWX1.out)
     obtain ⟨b0, b1, b2, -, -, b5, b6, -⟩ := HBX1.out.cells
     have cm : X1.cell? ⟨tb, 22, none⟩ = some (.map (some mb)) := HQX1.out.mapc
     have hlk := HQX1.out.lookX hi
     simp only [if_pos HD.out] at hlk
     have c0 : X1.cell? ⟨(G f.id).sb, 0, none⟩ = some (ptrO (G f.id).ob (T.m f.id).out) := (HQX1.out.strs _ HD.out).blk.cellAt 0 rfl
     rw [HO.out] at c0
     unfold ptrO at c0
     go_wp2_with fail
     go_quiet (fail)
     have HWX2 := Lib.hid ((Mod.refl (fun _ => False) X1).drewN nq)
     clear b0 b1 b2 b5 b6 cm hlk c0
     generalize X1.drewN nq = X2 at *
     have HQX2 := Lib.hid (HQX1.out.still HWX2.out)
     have HBX2 := Lib.hid (HBX1.out.kept HWX2.out)
     have HMX2 := Lib.hid (HMX1.out.trans HWX2.out)
     obtain ⟨b0, b1, b2, -, -, b5, b6, -⟩ := HBX2.out.cells
     have cm : X2.cell? ⟨tb, 22, none⟩ = some (.map (some mb)) := HQX2.out.mapc
     have hlk := HQX2.out.lookX hi
     simp only [if_pos HD.out] at hlk
     have c0 : X2.cell? ⟨(G f.id).sb, 0, none⟩ = some (ptrO (G f.id).ob (T.m f.id).out) := (HQX2.out.strs _ HD.out).blk.cellAt 0 rfl
     rw [HO.out] at c0
     unfold ptrO at c0
     go_wp2_with fail
     go_end0
     rw [HE.out]
     exact ⟨rfl, HQ0.out.tc HMX2.out⟩
 ·simp only [if_neg hd] at hlk
  have HE : Hid (ackT T f = T) := Lib.hid (by unfold ackT outOf; rw [if_neg hd])
  clear hd
  go_enter Tryz.func34, Tryz.ntmps34
  go_wp2_with fail
  go_quiet (fail)
  go_wp2_with fail
  refine bodyPost_ret (results_none rfl _ _ _) rfl ?_
  rw [HE.out]
  exact ⟨rfl, HQ0.out.tc (HM.out.drewN _)⟩
end Go.Proofs.YtahgidkpjmecdaaGreatDoor
set_option maxRecDepth 100000
namespace Go.Proofs.YtahgidkpjmecdaaGreatDoor
open Go.RowKit Go.Maps Go.Shelf
attribute [local go_sem] Oper.semAt_some
abbrev encU (z : Int) : Value := .int .u64 z
theorem encU_inj {x y : Int} (h : encU x = encU y) : x = y := by simpa [encU] using h
theorem info64 : (Tryz.prog.info? 34).map (fun i => (i.zero, i.size, i.bytes)) = some (some (.int .u64 0), 1, 8) := by kernel_rfl
def CollU (dom : List Int) (left : Lit → Bool) (ss : List Int) : Prop := ss.Nodup ∧ ∀ x, x ∈ ss ↔ (x ∈ dom ∧ left (.int .u64 x) = false)
theorem CollU.step {dom : List Int} {left : Lit → Bool} {ss : List Int} (h : CollU dom left ss) {x : Int} (hl : left (.int .u64 x) = true) (hd : x ∈ dom) : CollU dom (fun z => left z && !z.sameKey (.int .u64 x)) (ss ++ [x]) := by
 have hnew : x ∉ ss := fun hx => by have := ((h.2 x).1 hx).2; rw [hl] at this; cases this
 refine ⟨List.nodup_append.2 ⟨h.1, by simp, fun a ha b hb => by simp at hb; subst hb; exact fun e => hnew (e ▸ ha)⟩, fun y => ?_⟩
 by_cases hy : y = x
 ·subst hy; simp [hd, Lit.sameKey]
 ·simp [h.2 y, hy, Lit.sameKey]
theorem keyOf_u64 {key : Value} {kl : Lit} (h : keyOf Tryz.prog 34 key = some kl) : ∃ x : Int, key = encU x ∧ kl = .int .u64 x := by
 obtain ⟨z, rfl, rfl, _⟩ := Maps.keyOf_int_inv Tryz.underlying34 h
 exact ⟨z, rfl, rfl⟩
set_option maxRecDepth 100000 in
set_option maxHeartbeats 1000000 in
theorem keys1_in (F : Fence) (n : Nat) (hF : F.fn 113) (hro : F.round = none) (hn : 1 ≤ n) (l Bm b nn : Nat) (D0 : DataW Value) {dom : List Int} {f : Int → Value} (h3 : Tells .u64 D0 dom f) (J Jx : List Int → World → Prop)
  (hY : ∀ pre x W, J pre W → pre.length < dom.length → YieldAt F (n - 1) Tryz.prog l #[encU x] W fun e W' =>
   (e = .returned (.bool true) ∧ J (pre ++ [x]) W' ∧ KeepsWalks W W') ∨ (e = .returned (.bool false) ∧ Jx (pre ++ [x]) W'))
  (W : World) (hJ : AbidesFrom W.heap.size J) (hm : W.cell? ⟨Bm, 0, none⟩ = some (.map (some b))) (hown : W.ownsMap Tryz.prog 34 anyElemI b nn D0) (h0 : J [] W) :
  CallsIn F n Tryz.prog 113 #[.func (.yield l) #[] #[], .pointer (some ⟨Bm, 0, none⟩)] W fun e W' => (∃ v, e = .returned v) ∧
   ((∃ ss : List Int, ss.Perm dom ∧ J ss W') ∨ (∃ pre : List Int, True ∧ Jx pre W')) := by
 refine callsIn_of_wp Tryz.func113 rfl hF ?_ hro
 simp only [Tryz.ntmps113, List.size_toArray, List.length_cons, List.length_nil, Nat.reduceAdd, Nat.reduceSub, Array.replicate_succ, Array.replicate_zero, List.push_toArray, List.append_toArray, List.nil_append, List.cons_append]
 gi_wp2_with (first
  | (gi_at_range; refine wpListIn_range_own _ rfl _ 99 rfl 34 104 (int_keyed Tryz.underlying34) Tryz.underlying99 _ b nn _ rfl hown ?_; intro w0 hrg0 hg0 hs0)
  | gi_in)
 go_frame
 gi_loopw [3] (fun _ wr => ∃ (left : Lit → Bool) (cnt : Nat) (ss : List Int), wr.ranges Tryz.prog 34 anyElemI b W.heap.size nn D0 left cnt ∧ ss.length + cnt ≤ dom.length ∧ CollU dom left ss ∧ J ss wr)
  (fun _ wr => wr.rangeLeft b W.heap.size)
 case atStart =>
  exact ⟨_, _, [], hrg0, by rw [h3.size]; simp, ⟨List.nodup_nil, fun x => by rw [h3.has]; simp⟩, hJ [] W w0 none h0 hg0 (fun r e => by cases e)⟩
 case round =>
  obtain ⟨left, cnt, ss, hrg, hcs, hC, hJs⟩ := hrel
  gi_wp2_with (first
   | (gi_at_next; refine wpListIn_next_ranges _ rfl _ rfl 34 (int_keyed Tryz.underlying34) anyElemI encU id (fun key kl hk => by obtain ⟨x, hx, _⟩ := keyOf_u64 hk; exact ⟨x, hx⟩) (fun v _ _ => ⟨v, rfl⟩) b W.heap.size nn _ _ _ rfl hrg ?_ ?_)
   | gi_in)
  ·intro hc0 hl0
   gi_wp2
   go_end0
   refine ⟨⟨_, rfl⟩, .inl ⟨ss, (List.perm_ext_iff_of_nodup hC.1 h3.nodup).2 fun x => by rw [hC.2 x, hl0]; simp, hJs⟩⟩
  ·intro x c kl yd yp w2 cnt2 hkey hlk hv hat hrg2 hlt hg2 hs2 hen
   obtain ⟨x', ex, rfl⟩ := keyOf_u64 hkey
   obtain rfl : x = x' := encU_inj ex
   have hx : x ∈ dom := by
    have e1 := has_true_of_atKey hat
    rw [h3.has] at e1
    simpa using e1
   have hJ2 : J ss w2 := hJ ss wr w2 (some W.heap.size) hJs hg2 (fun r e => by cases e; exact ⟨Nat.le_refl _, hrg.iter_walk⟩)
   obtain ⟨fn, tmps, assign, body, hy, hR⟩ := hY ss x w2 hJ2 (by omega)
   clear hs2
   gi_wp2
   refine hR.mono ?_
   have hC2 := hC.step hlk hx
   rintro e W3 (⟨rfl, hJ3, hk3⟩ | ⟨rfl, hJx3⟩)
   ·gi_wp2
    have hrg3 := hrg2.of_walks hk3
    go_roundw
    case rel => exact ⟨_, cnt2, ss ++ [x], hrg3, by simp; omega, hC2, hJ3⟩
    case measure => rw [hrg3.left_eq, hrg.left_eq]; exact hlt
   ·gi_wp2
    refine bodyPost_ret (results_none rfl _ _ _) rfl ?_
    exact ⟨⟨_, rfl⟩, .inr ⟨ss ++ [x], trivial, hJx3⟩⟩
theorem keys_stops (F : Fence) (n : Nat) (hF : F.fn 113) (hro : F.round = none) (hn : 1 ≤ n) (Bm b : Nat) {dom : List Int} {f : Int → Value} (w : World) (hBm : Bm < w.heap.size)
  (hm : w.cell? ⟨Bm, 0, none⟩ = some (.map (some b))) (hI : IMap 34 .u64 w b dom f) :
  SeqStopsK F n Tryz.prog 113 #[.pointer (some ⟨Bm, 0, none⟩)] (fun x : Int => #[encU x]) KeepsWalks (fun ss => ss.Perm dom) (fun _ => True) dom.length w := fun l J Jx W hW hJ _ hY h0 => by
 obtain ⟨D, h1, h2, h3⟩ := hI
 have hown' : W.ownsMap Tryz.prog 34 anyElemI b dom.length D := by
  have hbl := h1.lt
  obtain ⟨es, clock, hb, Ft, hs, hD⟩ := h1
  exact ⟨es, clock, (hW.block b hbl).trans hb, Ft, hs, hD⟩
 exact keys1_in F n hF hro hn l Bm b dom.length D h3 J Jx hY W hJ ((hW.cell (p := ⟨Bm, 0, none⟩) hBm).trans hm) hown' h0
theorem keys_any (w : World) (mb : Nat) : Calls Tryz.prog 65 #[.map (some mb)] w fun e w' => w' = w.alloc (.cells #[.map (some mb)] 99) ∧ e = .returned (.func (.func 113) #[] #[.pointer (some ⟨w.heap.size, 0, none⟩)]) := by
 go_enter Tryz.func65, Tryz.ntmps65
 go_wp2_with fail
 go_ret
 exact ⟨rfl, rfl⟩
set_option maxRecDepth 100000 in
set_option maxHeartbeats 2000000 in
theorem appendSeq_in (Bm b : Nat) {dom : List Int} {f : Int → Value} (w : World) (hBm : Bm < w.heap.size) (hm : w.cell? ⟨Bm, 0, none⟩ = some (.map (some b))) (hI : IMap 34 .u64 w b dom f) (hlen : dom.length ≤ 1000) :
  CallsIn Fence.wide 6 Tryz.prog 197 #[.slice none 0 0, .func (.func 113) #[] #[.pointer (some ⟨Bm, 0, none⟩)]] w fun e W' =>
   ∃ v ss, e = .returned v ∧ ss.Perm dom ∧ W'.ownsRow w.heap.size 34 1 v ss.length (ss.map encU) ∧ (v = .slice none 0 0 ↔ ss = []) ∧ Below w.heap.size w W' := by
 have h1 : 1 ≤ 6 := by omega
 obtain ⟨i0, hi, hz0, hz1, hz2⟩ := info_parts info64
 have hml : (1000 : Nat) ≤ maxLen := by unfold maxLen; omega
 refine callsIn_of_wp_marks Tryz.func197 rfl trivial ?_ rfl
 simp only [Tryz.ntmps197, List.size_toArray, List.length_cons, List.length_nil, Nat.reduceAdd, Nat.reduceSub, Array.replicate_succ, Array.replicate_zero, List.push_toArray, List.append_toArray, List.nil_append, List.cons_append]
 gi_wp2
 have bO := Boxed.new w 43 (.slice none 0 0)
 have hB0 : Below w.heap.size w (w.alloc (.cells #[.slice none 0 0] 43)) := (Below.refl _ w).alloc (Nat.le_refl _) _
 have hI1 : IMap 34 .u64 (w.alloc (.cells #[.slice none 0 0] 43)) b dom f := hI.kept (S := fun _ => False) ((Mod.refl _ _).alloc _) (fun h => h)
 have hm1 : (w.alloc (.cells #[.slice none 0 0] 43)).cell? ⟨Bm, 0, none⟩ = some (.map (some b)) := ((Mod.refl (fun _ => False) w).alloc _).cellAt hm (fun h => h)
 refine wpIn_rangeFunc_ownG rfl h1 (gf := 113) (lb := #[.pointer (some ⟨Bm, 0, none⟩)]) rfl trivial (enters_of Tryz.func113 (by kernel_rfl) rfl)
  (keys_stops Fence.wide (6 - 1) trivial rfl (by omega) Bm b _ (by simpa using Nat.lt_succ_of_lt hBm) hm1 hI1) walksK_t walksK_b (Below.refl _ _) (fun _ => rfl)
  (fun pre W => (∃ v, Boxed W w.heap.size 43 v ∧ W.ownsRow w.heap.size 34 1 v pre.length (pre.map encU) ∧ (v = .slice none 0 0 ↔ pre = [])) ∧ Below w.heap.size w W)
  (fun _ _ _ => False)
  (OwnFrom.and (Own.from (holdsRow_own w.heap.size w.heap.size 43 34 1 (fun pre => pre.length) (fun pre => pre.map encU) (fun pre v => v = .slice none 0 0 ↔ pre = [])) _) (ownFrom_below (Nat.le_refl _) (by simp)))
  (fun _ _ _ _ _ hs _ _ => hs)
  ⟨⟨_, bO, World.ownsRow_nil _ _ _ _, by simp⟩, hB0⟩
  (fun x => { tmps := #[.slice none 0 0, .func (.func 113) #[] #[.pointer (some ⟨Bm, 0, none⟩)], .pointer (some ⟨w.heap.size, 0, none⟩), undef, .slice none 0 0, (.int .u64 x), .func (.func 113) #[] #[.pointer (some ⟨Bm, 0, none⟩)], (.int .u64 x), undef, undef, undef, undef, undef], defers := [] }) ?assign ?body ?done ?stop
 case assign =>
  intro l x W K hK
  gi_wp2
  exact hK
 case body =>
  rintro l pre x W ⟨⟨v, hv, hrow, hnil⟩, hB⟩ hlt
  have hc := hv.cell
  gi_wp2_with (gi_at_builtin; refine wpListIn_append_own _ rfl _ _ 43 rfl w.heap.size 34 i0 (.int .u64 0) 1 8 Tryz.underlying43 hi hz0 hz1 hz2 rfl (by decide) _ _ _ rfl (hrow.alloc _) ⟨W.heap.size, 0, none⟩ 1 1 [.int .u64 x] rfl rfl (cell_one_new _ _ _) (by simp [Value.oneCell']) (by omega) (by omega) (by have := hB.size; simp; omega) ?_; intro v' w1 hown' hgrow _; obtain ⟨g', cap', rfl⟩ := ownsRow_succ hown'; obtain ⟨hv1, hv2, hr2, hk2, hb2⟩ := hv.appended (by decide) hrow hB.size (Nat.le_refl _) hown' hgrow; have hc1 := hv1.cell; have hf1 := hv1.frozen)
  exact ⟨hk2.from _, hk2.walks, ⟨_, hv2, by simpa using hr2, by simp⟩, hB.trans hb2⟩
 case done =>
  rintro D ys W hD hS ⟨⟨v, hv, hrow, hnil⟩, hB⟩ hK
  have hc := hv.cell
  gi_wp2
  refine ⟨by simp, .inl ⟨_, _, rfl, run_takeDeferred hK, ?_⟩⟩
  exact ⟨_, results_tmp rfl _ _ _, v, ys, rfl, hS, ownsRow_putObj hrow _ hK rfl, hnil, hB.trans (belowK_b (w := w) (Nat.le_refl _) W D _ _ (by simp at hD; omega) hK rfl rfl)⟩
 case stop =>
  rintro D c pre W _ _ h _
  exact h.elim
theorem collect_any (Bm b : Nat) {dom : List Int} {f : Int → Value} (w : World) (hBm : Bm < w.heap.size) (hm : w.cell? ⟨Bm, 0, none⟩ = some (.map (some b))) (hI : IMap 34 .u64 w b dom f) (hlen : dom.length ≤ 1000) :
  Calls Tryz.prog 112 #[.func (.func 113) #[] #[.pointer (some ⟨Bm, 0, none⟩)]] w fun e W' =>
   ∃ v ss, e = .returned v ∧ ss.Perm dom ∧ W'.ownsRow w.heap.size 34 1 v ss.length (ss.map encU) ∧ (v = .slice none 0 0 ↔ ss = []) ∧ Below w.heap.size w W' := by
 have HA := Lib.hid (callsIn_wide.1 (appendSeq_in Bm b w hBm hm hI hlen))
 clear hBm hm hI hlen
 go_enter Tryz.func112, Tryz.ntmps112
 go_wp2_with (first
  | (go_at_call 197; (with_reducible refine HA.out.mono ?_); rintro e w1 ⟨v, ss, rfl, hp, hrow, hn, hb⟩; have HV := Lib.hid (And.intro hp (And.intro hrow (And.intro hn hb))); clear hp hrow hn hb)
  | fail)
 go_ret
 exact ⟨v, ss, rfl, HV.out⟩
def OwnU (w : World) (B : Nat) (v : Value) (l : List Int) : Prop := w.ownsRow B 34 1 v l.length (l.map encU)
theorem holds_of_block_u {w : World} {g : Nat} {cur : Array Value} {e : TypeId} {ss : List Int} (hb : w.heap[g]? = some (.cells cur e (0, 0))) (ht : cur.toList.take ss.length = ss.map encU) : Sort.Holds encU w g 0 ss.toArray := by
 intro j hj
 have hj' : j < ss.length := by simpa using hj
 refine ⟨?_, by simp [World.frozen?, hb]⟩
 have h1 : (cur.toList.take ss.length)[j]? = (ss.map encU)[j]? := by rw [ht]
 rw [List.getElem?_take_of_lt hj'] at h1
 simp only [World.cell?, hb, Nat.zero_add]
 simp only [Option.isSome_none, Bool.false_eq_true, if_false]
 rw [← Array.getElem?_toList, h1]
 simp [hj']
theorem heap_sorted_u {w : World} {g n : Nat} {os : Array Obj} {cur : Array Value} {e : TypeId} {fr : Nat × Nat} (d : Array Int) (hb : w.heap[g]? = some (.cells cur e fr)) :
  (Sort.grow (Sort.putRow encU (Sort.ahead w n) g 0 d) os).heap[g]? = some (.cells (Sort.putCells encU 0 d cur) e fr) := by
 have hg : g < w.heap.size := (Array.getElem?_eq_some_iff.1 hb).1
 rw [Sort.heap_grow_old _ _ (by simpa using hg)]
 simp [Sort.putRow, Sort.mapBlock, Sort.ahead, Array.getElem?_modify, hb, Sort.onCells]
theorem grownBy_sorted_u {w : World} {g n : Nat} {os : Array Obj} (d : Array Int) : w.grownBy (Sort.grow (Sort.putRow encU (Sort.ahead w n) g 0 d) os) (some g) := by
 refine ⟨rfl, rfl, rfl, by simp, fun k hk hne => ?_⟩
 rw [Sort.heap_grow_old _ _ (by simpa using hk)]
 have : g ≠ k := fun e => hne (by rw [e])
 simp [Sort.putRow, Sort.mapBlock, Sort.ahead, Array.getElem?_modify, this]
theorem take_putCells_u (cur : Array Value) (ts : List Int) (h : ts.length ≤ cur.size) : (Sort.putCells encU 0 ts.toArray cur).toList.take ts.length = ts.map encU := by
 apply List.ext_getElem?
 intro j
 by_cases hj : j < ts.length
 ·rw [List.getElem?_take_of_lt hj, Array.getElem?_toList]
  simp [Sort.putCells, hj, show j < cur.size by omega]
 ·rw [List.getElem?_take_eq_none (by omega), List.getElem?_eq_none (by simp; omega)]
theorem ownsRow_sorted_u {w : World} {base g cap n : Nat} {e : TypeId} {os : Array Obj} {cur : Array Value} {ss ts : List Int} (hl : ts.length = ss.length) (hbase : base ≤ g) (hb : w.heap[g]? = some (.cells cur e (0, 0)))
  (h1 : ss.length ≤ cap) (h2 : cap ≤ maxLen) (h3 : cur.size = cap * 1) :
  (Sort.grow (Sort.putRow encU (Sort.ahead w n) g 0 ts.toArray) os).ownsRow base e 1 (.slice (some ⟨g, 0, none⟩) ts.length cap) ts.length (ts.map encU) :=
 ⟨by simp, .inr ⟨g, cap, _, rfl, hbase, heap_sorted_u _ hb, by omega, h2, by simp [Sort.putCells, h3], by rw [Nat.mul_one]; exact take_putCells_u cur ts (by omega)⟩⟩
theorem sortI_len (l : List Int) : (sortI l).length = l.length := by unfold sortI; simp
theorem sortI_perm {l m : List Int} (h : l.Perm m) : sortI l = sortI m := by
 have tr : ∀ a b c : Int, decide (a ≤ b) = true → decide (b ≤ c) = true → decide (a ≤ c) = true := fun a b c h1 h2 => by simp only [decide_eq_true_eq] at *; omega
 have tot : ∀ a b : Int, (decide (a ≤ b) || decide (b ≤ a)) = true := fun a b => by simp only [Bool.or_eq_true, decide_eq_true_eq]; omega
 unfold sortI
 refine List.Perm.eq_of_pairwise (le := fun a b : Int => decide (a ≤ b) = true) (fun a b _ _ h1 h2 => ?_) (List.pairwise_mergeSort tr tot l) (List.pairwise_mergeSort tr tot m) (((List.mergeSort_perm l _).trans h).trans (List.mergeSort_perm m _).symm)
 simp only [decide_eq_true_eq] at h1 h2
 omega
theorem sortI_mem {l : List Int} {x : Int} : x ∈ sortI l ↔ x ∈ l := (List.mergeSort_perm l _).mem_iff
theorem sorted_any (Bm b : Nat) {dom : List Int} {f : Int → Value} (w : World) (hBm : Bm < w.heap.size) (hm : w.cell? ⟨Bm, 0, none⟩ = some (.map (some b))) (hI : IMap 34 .u64 w b dom f) (hlen : dom.length ≤ lenMax) :
  Calls Tryz.prog 64 #[.func (.func 113) #[] #[.pointer (some ⟨Bm, 0, none⟩)]] w fun e W' =>
   ∃ v, e = .returned v ∧ OwnU W' w.heap.size v (sortI dom) ∧ Mod (fun _ => False) w W' := by
 have HC := Lib.hid (collect_any Bm b w hBm hm hI (by unfold lenMax at hlen; omega))
 have HL := Lib.hid hlen
 clear hBm hm hI hlen
 go_enter Tryz.func64, Tryz.ntmps64
 go_wp2_with (first
  | (go_at_call 112; (with_reducible refine HC.out.mono ?_); rintro e w1 ⟨v, ss, rfl, hp, hrow, hn, hb⟩)
  | fail)
 have hM : Mod (fun _ => False) w w1 := ⟨hb.os, hb.tape, hb.output, hb.size, fun k hk _ => hb.block k hk⟩
 rcases hrow.2 with ⟨rfl, hz⟩ | ⟨gb, cap, cur, rfl, hbase, hgb, r1, r2, r3, r4⟩
 ·have hss : ss = [] := List.eq_nil_of_length_eq_zero hz
  subst hss
  have hd : dom = [] := hp.symm.eq_nil
  have HM := Lib.hid hM
  have HD := Lib.hid hd
  clear hp hrow hn hb hM hd hz
  go_wp2_with (first
   | (go_at_call 52; (with_reducible refine (usort_nil _).mono ?_); rintro e w2 ⟨rfl, rfl⟩)
   | fail)
  go_ret
  refine ⟨_, rfl, ?_, HM.out⟩
  rw [HD.out]
  have e0 : sortI [] = [] := by unfold sortI; simp
  rw [e0]
  exact World.ownsRow_nil _ _ _ _
 ·have hH : Sort.Holds encU w1 gb 0 ss.toArray := holds_of_block_u hgb (by simpa using r4)
  have HS := Lib.hid (usort_any gb cap ss w1 hH (by rw [hp.length_eq]; exact HL.out))
  have HF : Hid (∀ n os, OwnU (Sort.grow (Sort.putRow encU (Sort.ahead w1 n) gb 0 (sortI ss).toArray) os) w.heap.size (.slice (some ⟨gb, 0, none⟩) ss.length cap) (sortI dom) ∧ Mod (fun _ => False) w (Sort.grow (Sort.putRow encU (Sort.ahead w1 n) gb 0 (sortI ss).toArray) os)) := Lib.hid (fun n os => by
   have h1 := ownsRow_sorted_u (n := n) (os := os) (sortI_len ss) hbase hgb r1 r2 r3
   rw [sortI_len] at h1
   refine ⟨?_, hM.grown (grownBy_sorted_u (n := n) (os := os) (sortI ss).toArray) (fun k hk hlt => by cases hk; omega)⟩
   rw [← sortI_perm hp]
   unfold OwnU
   rw [sortI_len]
   exact h1)
  clear hp hrow hn hb hM hH hgb r1 r2 r3 r4 hbase
  go_wp2_with (first
   | (go_at_call 52; (with_reducible refine HS.out.mono ?_); rintro e w2 ⟨rfl, n, os, rfl⟩)
   | fail)
  go_ret
  exact ⟨_, rfl, HF.out n os⟩
theorem ids_any {B : Nat} {w : World} {tb mb : Nat} {G : Int → SM} {T : Tb} (q : TBuf B w tb mb G T) (hlen : T.dom.length ≤ lenMax) :
  Calls Tryz.prog 37 #[.pointer (some ⟨tb, 0, none⟩)] w fun e W' => ∃ v, e = .returned v ∧ OwnU W' w.heap.size v (sortI T.dom) ∧ Mod (fun _ => False) w W' := by
 have cm := q.mapc
 have hmb := q.map.lt
 have hM : Mod (fun _ => False) w (w.alloc (.cells #[.map (some mb)] 99)) := (Mod.refl _ _).alloc _
 have HS := Lib.hid (sorted_any w.heap.size mb (w.alloc (.cells #[.map (some mb)] 99)) (by simp) (Boxed.new w _ _).cell (q.map.kept hM (fun h => h)) hlen)
 have HM := Lib.hid hM
 clear q hmb hlen hM
 go_enter Tryz.func37, Tryz.ntmps37
 go_wp2_with (first
  | (go_at_call 65; (with_reducible refine (keys_any _ _).mono ?_); rintro e w1 ⟨rfl, rfl⟩)
  | (go_at_call 64; (with_reducible refine HS.out.mono ?_); rintro e w2 ⟨v, rfl, hv, hm⟩; have HV := Lib.hid (And.intro hv hm); clear hv hm)
  | fail)
 go_ret
 refine ⟨v, rfl, ?_, HM.out.trans HV.out.2⟩
 rcases HV.out.1 with ⟨h1, h2 | ⟨g, cap, cur, h2, h3, h4⟩⟩
 ·exact ⟨h1, .inl h2⟩
 ·exact ⟨h1, .inr ⟨g, cap, cur, h2, by simp at h3; omega, h4⟩⟩
end Go.Proofs.YtahgidkpjmecdaaGreatDoor
set_option maxRecDepth 100000
namespace Go.Proofs.YtahgidkpjmecdaaGreatDoor
open Go.RowKit Go.Maps
theorem TBuf.setTell {B : Nat} {w : World} {tb mb : Nat} {G : Int → SM} {T : Tb} (q : TBuf B w tb mb G T) (b : Bool) : TT B w (w.setCell ⟨tb, 32, none⟩ (.bool b)) tb mb G G T { T with tell := b } :=
 q.setTT { T with tell := b } 10 (.bool b) rfl rfl rfl rfl rfl q.num
def codeV (T : Tb) (id : Nat) : Nat := if (id : Int) ∈ T.dom then (if (T.m id).over then (T.m id).in2 else 0) else 0
def codeB (T : Tb) (id : Nat) : Bool := if (id : Int) ∈ T.dom then (T.m id).over else false
theorem tcode_any {B : Nat} {w : World} {tb mb : Nat} {G : Int → SM} {T : Tb} (q : TBuf B w tb mb G T) {id : Nat} (hi : okId id) :
  Calls Tryz.prog 69 #[.pointer (some ⟨tb, 0, none⟩), .int .u64 (id : Int)] w fun e w' => w = w' ∧ e = .returned (.tuple #[.int .u64 (codeV T id : Int), .bool (codeB T id)]) := by
 have cm := q.mapc
 have hl := q.look hi
 by_cases hd : (id : Int) ∈ T.dom
 ·rw [if_pos hd] at hl
  have hs := q.strs _ hd
  have c5 : w.cell? ⟨(G id).sb, 5, none⟩ = some (.bool (T.m id).over) := hs.blk.cellAt 5 rfl
  have c7 : w.cell? ⟨(G id).sb, 7, none⟩ = some (.int .u64 ((T.m id).in2 : Int)) := hs.blk.cellAt 7 rfl
  unfold codeV codeB
  rw [if_pos hd, if_pos hd]
  cases hr : (T.m id).over with
  | true =>
   rw [hr] at c5
   rw [if_pos rfl]
   generalize ((T.m id).in2 : Int) = z at *
   clear hs hd q hr
   go_enter Tryz.func69, Tryz.ntmps69
   go_wp2_with fail
   go_ret2
   exact ⟨rfl, rfl⟩
  | false =>
   rw [hr] at c5
   rw [if_neg (by decide)]
   clear hs hd q hr
   go_enter Tryz.func69, Tryz.ntmps69
   go_wp2_with fail
   go_ret2
   exact ⟨rfl, rfl⟩
 ·rw [if_neg hd] at hl
  unfold codeV codeB
  rw [if_neg hd, if_neg hd]
  clear hd q
  go_enter Tryz.func69, Tryz.ntmps69
  go_wp2_with fail
  go_ret2
  exact ⟨rfl, rfl⟩
theorem OwnU.val {w : World} {B : Nat} {v : Value} {l : List Int} (h : OwnU w B v l) : ∃ a cap, v = .slice a l.length cap := by
 rcases h.2 with ⟨rfl, h0⟩ | ⟨g, cap, cur, rfl, _⟩
 ·exact ⟨none, 0, by rw [h0]⟩
 ·exact ⟨_, cap, rfl⟩
theorem OwnU.at {w : World} {B i n cap : Nat} {a : Option Addr} {l : List Int} {x : Int} (h : OwnU w B (.slice a n cap) l) (hi : l[i]? = some x) : ∃ g, a = some ⟨g, 0, none⟩ ∧ w.cell? ⟨g, i, none⟩ = some (.int .u64 x) := by
 have hlt := (List.getElem?_eq_some_iff.1 hi).1
 rcases h.2 with ⟨e, h0⟩ | ⟨g, cap', cur, e, _⟩
 ·omega
 ·have hn : n = l.length := by simp at e; exact e.2.1
  subst hn
  obtain rfl : a = some ⟨g, 0, none⟩ := by simpa using And.left (by simpa using e)
  refine ⟨g, rfl, ?_⟩
  have := World.ownsRow.cellAt h i (by omega)
  rw [this, List.getElem?_map, hi]
  rfl
theorem OwnU.kept {w w' : World} {B : Nat} {v : Value} {l : List Int} (h : OwnU w B v l) {S : Nat → Prop} (hM : Mod S w w') (hS : ∀ g, v.ownBlock = some g → ¬ S g) : OwnU w' B v l := hM.own h hS
theorem TBuf.lookI {B : Nat} {w : World} {tb mb : Nat} {G : Int → SM} {T : Tb} (q : TBuf B w tb mb G T) {z : Int} (hz : z ∈ T.dom) :
  (Instr.lookup 99 (.map (some mb)) (.int .u64 z) false).run Tryz.prog w = .ok (.pointer (some ⟨(G z).sb, 0, none⟩)) w := by
 have h := q.ids z hz
 obtain ⟨n, rfl⟩ := Int.eq_ofNat_of_zero_le h.1
 have := q.look (id := n) (by unfold okId; omega)
 rw [if_pos hz] at this
 exact this
theorem IBuf.base {B B' : Nat} {w : World} {ib mb : Nat} {o : IB} (q : IBuf B w ib mb o) (h : B' ≤ B) : IBuf B' w ib mb o := ⟨Nat.le_trans h q.at0, Nat.le_trans h q.at1, q.blk, q.map, q.doms, q.ok⟩
theorem OwnB.base {B B' : Nat} {w : World} {v : Value} {l : List UInt8} (q : OwnB w B v l) (h : B' ≤ B) : OwnB w B' v l := by
 rcases q with ⟨h1, h2 | ⟨g, cap, cur, h2, h3, h4⟩⟩
 ·exact ⟨h1, .inl h2⟩
 ·exact ⟨h1, .inr ⟨g, cap, cur, h2, by omega, h4⟩⟩
theorem OBuf.base {B B' : Nat} {w : World} {ob : Nat} {bv sv : Value} {o : OB} (q : OBuf B w ob bv sv o) (h : B' ≤ B) : OBuf B' w ob bv sv o := { q with at0 := Nat.le_trans h q.at0, b := q.b.base h, s := q.s.base h }
theorem SBuf.putOut {B : Nat} {w w1 : World} {g : SM} {s : St} {ob : Nat} {bv sv : Value} {o : OB} (q : SBuf B w g s) (hB : B ≤ w.heap.size) (hM : Mod (fun _ => False) w w1) (hO : OBuf w.heap.size w1 ob bv sv o) :
  SC B w (w1.setCell ⟨g.sb, 0, none⟩ (.pointer (some ⟨ob, 0, none⟩))) g { g with ob := ob, bv := bv, sv := sv } s { s with out := some o } := by
 have hM2 : Mod (fun k => k = g.sb) w (w1.setCell ⟨g.sb, 0, none⟩ (.pointer (some ⟨ob, 0, none⟩))) := (hM.mono (T := fun k => k = g.sb) (fun _ _ h => h.elim)).setCell (p := ⟨g.sb, 0, none⟩) (fun _ => rfl) _
 have hM1 : Mod (fun k => k = g.sb) w1 (w1.setCell ⟨g.sb, 0, none⟩ (.pointer (some ⟨ob, 0, none⟩))) := (Mod.refl (fun k => k = g.sb) _).setCell (p := ⟨g.sb, 0, none⟩) (fun _ => rfl) _
 have hlt := q.lt
 have hsb := (hlt g.sb (.inl rfl)).2
 have n1 : ∀ k, OS ob bv sv k → w.heap.size ≤ k ∧ k < w1.heap.size := fun k hk => hO.lt k hk
 have hs1 : w1.heap.size ≤ (w1.setCell ⟨g.sb, 0, none⟩ (.pointer (some ⟨ob, 0, none⟩))).heap.size := hM1.size
 refine ⟨⟨q.at0, q.att, ?_, ?_, ?_, ?_, ?_, ?_, ?_, q.ts, q.num⟩, rfl, ?_, hM2.mono (fun k _ e => .inl e)⟩
 ·exact (hM.blk q.blk (fun h => h)).set 0 _
 ·intro o2 h2
  cases h2
  exact (hO.base hB).kept hM1 (fun k hk e => by have := (n1 k hk).1; omega)
 ·intro i hi
  exact (q.inn i hi).kept hM2 (fun k hk e => (q.it k ⟨by rw [show s.inn = some i from hi]; rfl, hk⟩).2 e)
 ·exact q.tell.kept hM2 q.ts
 ·rintro k ⟨-, hk⟩ hk2
  have := (n1 k hk).1
  have := (hlt k (.inr (.inr (.inr hk2)))).2
  omega
 ·rintro k ⟨-, hk⟩
  have := (n1 k hk).1
  have h1 := (hlt g.tb (.inr (.inl rfl))).2
  exact ⟨by show k ≠ g.tb; omega, by show k ≠ g.sb; omega⟩
 ·exact q.it
 ·rintro k (e | e | ⟨-, e⟩ | e)
  ·exact .inl (.inl e)
  ·exact .inl (.inr (.inl e))
  ·exact .inr ⟨(n1 k e).1, Nat.lt_of_lt_of_le (n1 k e).2 hs1⟩
  ·exact .inl (.inr (.inr (.inr e)))
theorem SBuf.putIn {B : Nat} {w w1 : World} {g : SM} {s : St} {ib mb : Nat} {o : IB} (q : SBuf B w g s) (hM : Mod (fun _ => False) w w1) (hO : IBuf B w1 ib mb o) (hap : ∀ k, IS ib mb k → ¬ SS g s k) :
  SBuf B (w1.setCell ⟨g.sb, 1, none⟩ (.pointer (some ⟨ib, 0, none⟩))) { g with ib := ib, mb := mb } { s with inn := some o } ∧ Mod (fun k => k = g.sb) w (w1.setCell ⟨g.sb, 1, none⟩ (.pointer (some ⟨ib, 0, none⟩))) := by
 have hM2 : Mod (fun k => k = g.sb) w (w1.setCell ⟨g.sb, 1, none⟩ (.pointer (some ⟨ib, 0, none⟩))) := (hM.mono (T := fun k => k = g.sb) (fun _ _ h => h.elim)).setCell (p := ⟨g.sb, 1, none⟩) (fun _ => rfl) _
 have hM1 : Mod (fun k => k = g.sb) w1 (w1.setCell ⟨g.sb, 1, none⟩ (.pointer (some ⟨ib, 0, none⟩))) := (Mod.refl (fun k => k = g.sb) _).setCell (p := ⟨g.sb, 1, none⟩) (fun _ => rfl) _
 refine ⟨⟨q.at0, q.att, ?_, ?_, ?_, ?_, ?_, ?_, ?_, q.ts, q.num⟩, hM2⟩
 ·exact (hM.blk q.blk (fun h => h)).set 1 _
 ·intro o2 h2
  exact (q.out o2 h2).kept hM2 (fun k hk e => (q.ot k ⟨by rw [show s.out = some o2 from h2]; rfl, hk⟩).2 e)
 ·intro i hi
  cases hi
  exact hO.kept hM1 (fun k hk e => hap k hk (.inl e))
 ·exact q.tell.kept hM2 q.ts
 ·rintro k hk ⟨-, hk2⟩
  exact hap k hk2 (.inr (.inr (.inl hk)))
 ·exact q.ot
 ·rintro k ⟨-, hk⟩
  exact ⟨fun e => hap k hk (.inr (.inl e)), fun e => hap k hk (.inl e)⟩
theorem SBuf.putInS {B : Nat} {w w1 : World} {g : SM} {s : St} {ib mb : Nat} {o : IB} (q : SBuf B w g s) (hB : B ≤ w.heap.size) (hM : Mod (fun _ => False) w w1) (hO : IBuf w.heap.size w1 ib mb o) :
  SC B w (w1.setCell ⟨g.sb, 1, none⟩ (.pointer (some ⟨ib, 0, none⟩))) g { g with ib := ib, mb := mb } s { s with inn := some o } := by
 have hlt := q.lt
 obtain ⟨h1, h2⟩ := q.putIn hM (hO.base hB) (fun k hk hs => by have := (hO.lt k hk).1; have := (hlt k hs).2; omega)
 refine ⟨h1, rfl, ?_, h2.mono (fun k _ e => .inl e)⟩
 have hs1 : w1.heap.size ≤ (w1.setCell ⟨g.sb, 1, none⟩ (.pointer (some ⟨ib, 0, none⟩))).heap.size := by simp [World.setCell]
 rintro k (e | e | e | ⟨-, e⟩)
 ·exact .inl (.inl e)
 ·exact .inl (.inr (.inl e))
 ·exact .inl (.inr (.inr (.inl e)))
 ·exact .inr ⟨(hO.lt k e).1, Nat.lt_of_lt_of_le (hO.lt k e).2 hs1⟩
theorem TBuf.add {B : Nat} {w w1 w2 : World} {tb mb : Nat} {G : Int → SM} {T : Tb} (q : TBuf B w tb mb G T) {z : Int} (hz : z ∉ T.dom) (hid : 0 ≤ z ∧ z < 4611686018427387912) {g : SM} {s : St} (hM : Mod (fun _ => False) w w1) (hS : SBuf B w1 g s) (hf : ∀ k, SS g s k → w.heap.size ≤ k)
  (hI : IMap 34 .u64 w2 mb (putD z T.dom) (putF z (.pointer (some ⟨g.sb, 0, none⟩)) (fun z => .pointer (some ⟨(G z).sb, 0, none⟩)))) (hM2 : Mod (fun k => k = mb) w1 w2) :
  TT B w w2 tb mb G (updG G z g) T { T with dom := putD z T.dom, m := updM T.m z s } := by
 have hlt := q.lt
 have htb := (hlt tb (.inl rfl)).2
 have hmb := (hlt mb (.inr (.inl rfl))).2
 have q1 := q.still hM
 have hlt1 := hS.lt
 have eg : ∀ y, y ∈ T.dom → updG G z g y = G y := fun y hy => updG_other (fun e => hz (e ▸ hy))
 have em : ∀ y, y ∈ T.dom → updM T.m z s y = T.m y := fun y hy => updM_other (fun e => hz (e ▸ hy))
 have old : ∀ y, y ∈ T.dom → ∀ k, SS (G y) (T.m y) k → k < w.heap.size := fun y hy k hk => (hlt k (.inr (.inr ⟨y, hy, hk⟩))).2
 refine ⟨⟨q.at0, q.atm, hM2.blk q1.blk (fun e => q.mt e.symm), ?_, ?_, ?_, ?_, q.mt, q.tok, ?_, q.num⟩, ?_, ((hM.mono (T := fun k => k = mb) (fun _ _ h => h.elim)).trans hM2).mono (fun k _ e => .inr (.inl e))⟩
 ·have e : (fun y => Value.pointer (some ⟨(updG G z g y).sb, 0, none⟩)) = putF z (.pointer (some ⟨g.sb, 0, none⟩)) (fun z => .pointer (some ⟨(G z).sb, 0, none⟩)) := by
   funext y
   unfold putF updG
   split <;> rfl
  rw [e]
  exact hI
 ·intro y hy
  rcases mem_putD.1 hy with rfl | hyo
  ·rw [updG_same]
   show SBuf B w2 g (updM T.m y s y)
   rw [updM_same]
   exact hS.kept hM2 (fun k hk e => by have := hf k hk; omega)
  ·rw [eg y hyo]
   show SBuf B w2 (G y) (updM T.m z s y)
   rw [em y hyo]
   exact (q1.strs y hyo).kept hM2 (fun k hk e => (q.tops y hyo k hk).2 e)
 ·intro y hy y' hy' hne k hk hk'
  have hk1 : SS (updG G z g y) (updM T.m z s y) k := hk
  have hk2 : SS (updG G z g y') (updM T.m z s y') k := hk'
  rcases mem_putD.1 hy with rfl | hyo
  ·rcases mem_putD.1 hy' with rfl | hyo'
   ·exact hne rfl
   ·rw [updG_same, updM_same] at hk1
    rw [eg y' hyo', em y' hyo'] at hk2
    have := hf k hk1
    have := old y' hyo' k hk2
    omega
  ·rcases mem_putD.1 hy' with rfl | hyo'
   ·rw [updG_same, updM_same] at hk2
    rw [eg y hyo, em y hyo] at hk1
    have := hf k hk2
    have := old y hyo k hk1
    omega
   ·rw [eg y hyo, em y hyo] at hk1
    rw [eg y' hyo', em y' hyo'] at hk2
    exact q.apart y hyo y' hyo' hne k hk1 hk2
 ·intro y hy k hk
  have hk1 : SS (updG G z g y) (updM T.m z s y) k := hk
  rcases mem_putD.1 hy with rfl | hyo
  ·rw [updG_same, updM_same] at hk1
   have := hf k hk1
   exact ⟨by omega, by omega⟩
  ·rw [eg y hyo, em y hyo] at hk1
   exact q.tops y hyo k hk1
 ·intro y hy
  rcases mem_putD.1 hy with rfl | hyo
  ·exact hid
  ·exact q.ids y hyo
 ·rintro k (h | h | ⟨y, hy, hk⟩)
  ·exact .inl (.inl h)
  ·exact .inl (.inr (.inl h))
  ·have hk1 : SS (updG G z g y) (updM T.m z s y) k := hk
   rcases mem_putD.1 hy with rfl | hyo
   ·rw [updG_same, updM_same] at hk1
    exact .inr ⟨hf k hk1, Nat.lt_of_lt_of_le (hlt1 k hk1).2 hM2.size⟩
   ·rw [eg y hyo, em y hyo] at hk1
    exact .inl (.inr (.inr ⟨y, hyo, hk1⟩))
def hasOut (T : Tb) (id : Nat) : Bool := mineB T.client id || !oneWay id
def hasIn (T : Tb) (id : Nat) : Bool := !mineB T.client id || !oneWay id
def st0 (mx : Nat) : St := ⟨none, none, mx, 0, false, false, 0, 0, 0, false, false, false, false, false, false, 0⟩
def newS (T : Tb) (id : Nat) : St := { st0 T.stream with out := if hasOut T id then some (newO 0) else none, inn := if hasIn T id then some (newI T.own.s) else none }
def mkT (T : Tb) (id : Nat) : Tb := { T with dom := putD (id : Int) T.dom, m := updM T.m id (newS T id) }
theorem SBuf.fresh (B : Nat) (w : World) (hB : B ≤ w.heap.size) (mx : Nat) (hx : nat64 mx) : SBuf B ((w.alloc (.map #[] 0)).alloc (.cells (stC ⟨w.heap.size + 1, 0, .slice none 0 0, .slice none 0 0, 0, 0, w.heap.size⟩ (st0 mx)) 109)) ⟨w.heap.size + 1, 0, .slice none 0 0, .slice none 0 0, 0, 0, w.heap.size⟩ (st0 mx) := by
 have hb := Blk.new (w.alloc (.map #[] 0)) (stC ⟨w.heap.size + 1, 0, .slice none 0 0, .slice none 0 0, 0, 0, w.heap.size⟩ (st0 mx)) 109
 rw [World.size_alloc] at hb
 have hi := IMap.made 3 .i64 w (fun _ => .bool false)
 have z0 : nat64 0 := by unfold nat64; omega
 have no : ∀ g k, ¬ SO g (st0 mx) k := fun g k h => by have := h.1; cases this
 have ni : ∀ g k, ¬ SI g (st0 mx) k := fun g k h => by have := h.1; cases this
 refine ⟨by show B ≤ w.heap.size + 1; omega, hB, hb, fun o h => (by cases h), fun o h => (by cases h), ⟨[], fun _ => false, hi.kept (S := fun _ => False) ((Mod.refl _ _).alloc _) (fun h => h), fun z hz => (by cases hz), fun z => ?_⟩, fun k h => (no _ k h).elim, fun k h => (no _ k h).elim, fun k h => (ni _ k h).elim, by show w.heap.size ≠ w.heap.size + 1; omega, hx, z0, z0, z0, z0, z0⟩
 unfold tellF st0
 simp
end Go.Proofs.YtahgidkpjmecdaaGreatDoor
