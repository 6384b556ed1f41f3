/- Parts of the proof: SuC. -/
import Derived.Test.YtahgidkpjmecdaaGreatDoorB14
set_option maxRecDepth 100000
namespace Go.Proofs.YtahgidkpjmecdaaGreatDoor
open Go.RowKit Go.Maps
theorem SBuf.lookT {B : Nat} {w : World} {g : SM} {s : St} (q : SBuf B w g s) {z : Int} (hz : tellK z) {b : Bool} (hb : tellF s z = b) : (Instr.lookup 107 (.map (some g.tb)) (.int .i64 z) false).run Tryz.prog w = .ok (.bool b) w := by
 subst hb
 exact q.tell.look hz
def DueR' (w w' : World) (l : List Fr) (e : Ending) : Prop := ∃ v, e = .returned v ∧ OwnFI w' w.heap.size w'.heap.size v l ∧ Mod (fun _ => False) w w'
theorem due_nf {B : Nat} {w : World} {g : SM} {s : St} (q : SBuf B w g s) (id : Nat) (hS : s.tS = false) (hr : s.tR = false) (hm : s.tM = false) :
  Calls Tryz.prog 55 #[.pointer (some ⟨g.sb, 0, none⟩), .int .u64 (id : Int)] w fun e w' => DueR' w w' (dueL s id) e := by
 have HD : Hid (dueL s id = []) := Lib.hid (by unfold dueL; rw [hr, hm]; rfl)
 have HQ := Lib.hid q
 obtain ⟨tr, htr⟩ : ∃ tr, tr = false := ⟨_, rfl⟩
 have HTR : Hid (tr = tellF s 4) := Lib.hid (by rw [htr, ← hr]; rfl)
 have HTS : Hid (tellF s 5 = false) := Lib.hid hS
 have HTM : Hid (tellF s 17 = false) := Lib.hid hm
 have HMW : Hid (Mod (fun _ => False) w w) := Lib.hid (Mod.refl _ _)
 clear q hS hr hm
 have d11 : w.cell? ⟨g.sb, 11, none⟩ = some (.map (some g.tb)) := (HQ.out.still HMW.out).blk.cellAt 11 rfl
 have l4 : (Instr.lookup 107 (.map (some g.tb)) (.int .i64 4) false).run Tryz.prog w = .ok (.bool tr) w := (HQ.out.still HMW.out).lookT (.inl rfl) HTR.out.symm
 have l5 : (Instr.lookup 107 (.map (some g.tb)) (.int .i64 5) false).run Tryz.prog w = .ok (.bool false) w := (HQ.out.still HMW.out).lookT (.inr (.inl rfl)) HTS.out
 have l17 : (Instr.lookup 107 (.map (some g.tb)) (.int .i64 17) false).run Tryz.prog w = .ok (.bool false) w := (HQ.out.still HMW.out).lookT (.inr (.inr rfl)) HTM.out
 subst htr
 go_enter Tryz.func55, Tryz.ntmps55
 have HO0 : Hid (OwnFI w w.heap.size w.heap.size (.slice none 0 0) []) := Lib.hid (OwnFI.nil _ _ _)
 go_wp2_with fail
 go_ret
 exact ⟨_, rfl, by rw [HD.out]; exact HO0.out, HMW.out⟩
theorem due_no {B : Nat} {w : World} {g : SM} {s : St} (q : SBuf B w g s) (id : Nat) (hS : s.tS = false) (hr : s.tR = false) (hm : s.tM = true) (hv : s.over = true) :
  Calls Tryz.prog 55 #[.pointer (some ⟨g.sb, 0, none⟩), .int .u64 (id : Int)] w fun e w' => DueR' w w' (dueL s id) e := by
 have HD : Hid (dueL s id = []) := Lib.hid (by unfold dueL; rw [hr, hm, hv]; rfl)
 have HQ := Lib.hid q
 obtain ⟨tr, htr⟩ : ∃ tr, tr = false := ⟨_, rfl⟩
 have HTR : Hid (tr = tellF s 4) := Lib.hid (by rw [htr, ← hr]; rfl)
 have HTS : Hid (tellF s 5 = false) := Lib.hid hS
 have HTM : Hid (tellF s 17 = true) := Lib.hid hm
 have HOV := Lib.hid hv
 have HMW : Hid (Mod (fun _ => False) w w) := Lib.hid (Mod.refl _ _)
 clear q hS hr hm hv
 have d11 : w.cell? ⟨g.sb, 11, none⟩ = some (.map (some g.tb)) := (HQ.out.still HMW.out).blk.cellAt 11 rfl
 have l4 : (Instr.lookup 107 (.map (some g.tb)) (.int .i64 4) false).run Tryz.prog w = .ok (.bool tr) w := (HQ.out.still HMW.out).lookT (.inl rfl) HTR.out.symm
 have l5 : (Instr.lookup 107 (.map (some g.tb)) (.int .i64 5) false).run Tryz.prog w = .ok (.bool false) w := (HQ.out.still HMW.out).lookT (.inr (.inl rfl)) HTS.out
 have l17 : (Instr.lookup 107 (.map (some g.tb)) (.int .i64 17) false).run Tryz.prog w = .ok (.bool true) w := (HQ.out.still HMW.out).lookT (.inr (.inr rfl)) HTM.out
 have d5 : w.cell? ⟨g.sb, 5, none⟩ = some (.bool true) := by
  have := (HQ.out.still HMW.out).blk.cellAt 5 (v := .bool s.over) rfl
  rw [HOV.out] at this
  exact this
 subst htr
 go_enter Tryz.func55, Tryz.ntmps55
 have HO0 : Hid (OwnFI w w.heap.size w.heap.size (.slice none 0 0) []) := Lib.hid (OwnFI.nil _ _ _)
 go_wp2_with fail
 go_ret
 exact ⟨_, rfl, by rw [HD.out]; exact HO0.out, HMW.out⟩
theorem due_nl {B : Nat} {w : World} {g : SM} {s : St} (q : SBuf B w g s) (id : Nat) (hS : s.tS = false) (hr : s.tR = false) (hm : s.tM = true) (hv : s.over = false) {oi : IB} (hi : s.inn = some oi) :
  Calls Tryz.prog 55 #[.pointer (some ⟨g.sb, 0, none⟩), .int .u64 (id : Int)] w fun e w' => DueR' w w' (dueL s id) e := by
 have HD : Hid (dueL s id = [limitF id (oi.read + oi.win)]) := Lib.hid (by unfold dueL; rw [hr, hm, hv, hi]; rfl)
 have HQ := Lib.hid q
 obtain ⟨tr, htr⟩ : ∃ tr, tr = false := ⟨_, rfl⟩
 have HTR : Hid (tr = tellF s 4) := Lib.hid (by rw [htr, ← hr]; rfl)
 have HTS : Hid (tellF s 5 = false) := Lib.hid hS
 have HTM : Hid (tellF s 17 = true) := Lib.hid hm
 have HOV := Lib.hid hv
 have HIN : Hid (ptrI g.ib s.inn = .pointer (some ⟨g.ib, 0, none⟩)) := Lib.hid (by rw [hi]; rfl)
 have HLI := Lib.hid (fun W (hm : Mod (fun _ => False) w W) => ilimit_any ((q.inn oi hi).still hm))
 have HMW : Hid (Mod (fun _ => False) w w) := Lib.hid (Mod.refl _ _)
 clear q hS hr hm hv hi
 have d11 : w.cell? ⟨g.sb, 11, none⟩ = some (.map (some g.tb)) := (HQ.out.still HMW.out).blk.cellAt 11 rfl
 have l4 : (Instr.lookup 107 (.map (some g.tb)) (.int .i64 4) false).run Tryz.prog w = .ok (.bool tr) w := (HQ.out.still HMW.out).lookT (.inl rfl) HTR.out.symm
 have l5 : (Instr.lookup 107 (.map (some g.tb)) (.int .i64 5) false).run Tryz.prog w = .ok (.bool false) w := (HQ.out.still HMW.out).lookT (.inr (.inl rfl)) HTS.out
 have l17 : (Instr.lookup 107 (.map (some g.tb)) (.int .i64 17) false).run Tryz.prog w = .ok (.bool true) w := (HQ.out.still HMW.out).lookT (.inr (.inr rfl)) HTM.out
 have d5 : w.cell? ⟨g.sb, 5, none⟩ = some (.bool false) := by
  have := (HQ.out.still HMW.out).blk.cellAt 5 (v := .bool s.over) rfl
  rw [HOV.out] at this
  exact this
 have d1 : w.cell? ⟨g.sb, 1, none⟩ = some (.pointer (some ⟨g.ib, 0, none⟩)) := by
  have := (HQ.out.still HMW.out).blk.cellAt 1 (v := ptrI g.ib s.inn) rfl
  rw [HIN.out] at this
  exact this
 subst htr
 go_enter Tryz.func55, Tryz.ntmps55
 have HO0 : Hid (OwnFI w w.heap.size w.heap.size (.slice none 0 0) []) := Lib.hid (OwnFI.nil _ _ _)
 go_wp2_with (first
  | (go_at_call 101; (with_reducible refine (HLI.out _ HMW.out).mono ?_); rintro e w6 ⟨rfl, hm⟩; have HM6 := Lib.hid (HMW.out.trans hm); have HO6 := Lib.hid (HO0.out.still hm); have HSZ6 := Lib.hid hm.size; clear hm)
  | ((with_reducible refine wpList_build_c ?_ 91 [(0, .const (.int .i64 17)), (1, .tmp 59), (2, .tmp 64)] ?_ [(0, .int .i64 17), (1, .int .u64 (id : Int)), (2, .int .u64 ((oi.read + oi.win : Nat) : Int))] ?_ _ (built_limit id (oi.read + oi.win)) ?_); (iterate 3 exact rfl))
  | ((with_reducible refine wpList_build_fi ?_ (.tmp 65) ?_ (limitF id (oi.read + oi.win)) nilS nilS ?_ ?_ ?_); (iterate 4 exact rfl))
  | ((with_reducible refine wpList_append_fi ?_ (.tmp 58) (.tmp 66) ?_ (.slice none 0 0) [] w.heap.size (w6.heap.size + 1) ?_ ((HO6.out.more (E' := w6.heap.size + 1) (by have := HSZ6.out; omega) (Nat.le_refl _)).still ((Mod.refl _ _).alloc _)) _ (limitF id (oi.read + oi.win)) _ ?_ (fr_litI w6 (vd := nilS) (vr := nilS) rfl) (FrI.plain _ _ _ _ rfl rfl rfl) (by simp) 0 rfl (by decide) (by have := HM6.out.size; simp; omega) ?_); (iterate 4 exact rfl); intro ap cp w7 ho7 hg7; have HO7 := Lib.hid ho7; have HM7 : Hid (Mod (fun _ => False) w w7) := Lib.hid ((HM6.out.alloc _).grown hg7 (fun k hk hlt => by have := (HO6.out.lt k hk).1; omega)); clear ho7 hg7)
  | fail)
 go_ret
 exact ⟨_, rfl, by rw [HD.out]; exact HO7.out, HM7.out⟩
theorem due_rf {B : Nat} {w : World} {g : SM} {s : St} (q : SBuf B w g s) (id : Nat) (hS : s.tS = false) (hr : s.tR = true) (hm : s.tM = false) {oo : OB} (ho : s.out = some oo) :
  Calls Tryz.prog 55 #[.pointer (some ⟨g.sb, 0, none⟩), .int .u64 (id : Int)] w fun e w' => DueR' w w' (dueL s id) e := by
 have HD : Hid (dueL s id = [resetF id (sentO oo) s.code]) := Lib.hid (by unfold dueL; rw [hr, hm, ho]; rfl)
 have HQ := Lib.hid q
 obtain ⟨tr, htr⟩ : ∃ tr, tr = true := ⟨_, rfl⟩
 have HTR : Hid (tr = tellF s 4) := Lib.hid (by rw [htr, ← hr]; rfl)
 have HTS : Hid (tellF s 5 = false) := Lib.hid hS
 have HTM : Hid (tellF s 17 = false) := Lib.hid hm
 have k6 : w.cell? ⟨g.sb, 6, none⟩ = some (.int .u64 (s.code : Int)) := q.blk.cellAt 6 rfl
 have k0 : w.cell? ⟨g.sb, 0, none⟩ = some (.pointer (some ⟨g.ob, 0, none⟩)) := by
  have := q.blk.cellAt 0 (v := ptrO g.ob s.out) rfl
  rw [ho] at this
  exact this
 have HSE := Lib.hid (fun W (hm : Mod (fun _ => False) w W) => osent_any ((q.out oo ho).still hm))
 have HMW : Hid (Mod (fun _ => False) w w) := Lib.hid (Mod.refl _ _)
 clear q hS hr hm ho
 have d11 : w.cell? ⟨g.sb, 11, none⟩ = some (.map (some g.tb)) := (HQ.out.still HMW.out).blk.cellAt 11 rfl
 have l4 : (Instr.lookup 107 (.map (some g.tb)) (.int .i64 4) false).run Tryz.prog w = .ok (.bool tr) w := (HQ.out.still HMW.out).lookT (.inl rfl) HTR.out.symm
 have l5 : (Instr.lookup 107 (.map (some g.tb)) (.int .i64 5) false).run Tryz.prog w = .ok (.bool false) w := (HQ.out.still HMW.out).lookT (.inr (.inl rfl)) HTS.out
 have l17 : (Instr.lookup 107 (.map (some g.tb)) (.int .i64 17) false).run Tryz.prog w = .ok (.bool false) w := (HQ.out.still HMW.out).lookT (.inr (.inr rfl)) HTM.out
 subst htr
 go_enter Tryz.func55, Tryz.ntmps55
 go_upto_region 3 with fail
 refine wp_region_held_drew (S := fun X => Mod (fun _ => False) w X) (by kernel_rfl) (Mod.refl _ _).drew (fun hS => ?_)
 generalize w.drew = w2 at *
 refine' tk 0 _ (some 11) rfl rfl (by kernel_rfl) (fun _ _ _ h => h) (Or.inl ⟨by rfl, fun X hX => ?_⟩) hS ?_; rotate_left
 ·go_simp; exact rfl
 (try go_frame); refine' tk 1 _ (some 12) rfl rfl (by kernel_rfl) (fun _ _ _ h => h) (Or.inl ⟨by rfl, fun X hX => ?_⟩) hS ?_; rotate_left
 ·go_simp; exact rfl
 (try go_frame); refine' tk 2 _ (some 13) rfl rfl (by kernel_rfl) (fun _ _ _ h => h) (Or.inl ⟨by rfl, fun X hX => ?_⟩) hS ?_; rotate_left
 ·go_simp; exact rfl
 (try go_frame); refine' tk 3 _ (some 14) rfl rfl (by kernel_rfl) (fun _ _ _ h => h) (Or.inl ⟨by rfl, fun X hX => ?_⟩) hS ?_; rotate_left
 ·go_simp; exact rfl
 (try go_frame); refine' tk 4 _ (some 15) rfl rfl (by kernel_rfl) (fun _ _ _ h => h) (Or.inl ⟨by rfl, fun X hX => ?_⟩) hS ?_; rotate_left
 ·go_simp; exact rfl
 (try go_frame); refine' tk 5 _ (some 16) rfl rfl (by kernel_rfl) (fun _ _ _ h => h) (Or.inl ⟨by rfl, fun X hX => ?_⟩) hS ?_; rotate_left
 ·have h := (show Mod (fun _ => False) w X from hX).cellAt k6 (fun h => h); go_simp; exact rfl
 (try go_frame); refine' tk 6 _ (some 17) rfl rfl (by kernel_rfl) (fun _ _ _ h => h) (Or.inl ⟨by rfl, fun X hX => ?_⟩) hS ?_; rotate_left
 ·go_simp; exact rfl
 (try go_frame); refine' tk 7 _ (some 18) rfl rfl (by kernel_rfl) (fun _ _ _ h => h) (Or.inl ⟨by rfl, fun X hX => ?_⟩) hS ?_; rotate_left
 ·go_simp; exact rfl
 (try go_frame); refine' tk 8 _ (some 19) rfl rfl (by kernel_rfl) (fun _ _ _ h => h) (Or.inl ⟨by rfl, fun X hX => ?_⟩) hS ?_; rotate_left
 ·go_simp; exact rfl
 (try go_frame); refine' tk 9 _ (some 20) rfl rfl (by kernel_rfl) (fun _ _ _ h => h) (Or.inl ⟨by rfl, fun X hX => ?_⟩) hS ?_; rotate_left
 ·have h := (show Mod (fun _ => False) w X from hX).cellAt k0 (fun h => h); go_simp; exact rfl
 (try go_frame); refine wpAnyH_ready (rs := [10]) (by kernel_rfl) (by simp) ?_
 refine arH (o := ⟨some 21, _, _, _, _, none⟩) rfl fun K hK => ?_
 go_simp
 refine (HSE.out _ hS).mono ?_
 rintro e w3 ⟨rfl, rfl⟩
 refine hK.out _ _ hS (fun hS => ?_)
 clear hK K
 refine tk 11 (.agg (frC (resetF id (sentO oo) s.code) nilS nilS)) (some 22) rfl rfl (by kernel_rfl) (fun _ _ _ h => h) (Or.inl ⟨by rfl, fun X hX => ?_⟩) hS ?_
 ·exact exec_bu (pl := [(0, .const (.int .i64 4)), (1, .tmp 12), (4, .tmp 16), (2, .tmp 21)]) rfl [(0, .int .i64 4), (1, .int .u64 (id : Int)), (4, .int .u64 (s.code : Int)), (2, .int .u64 (sentO oo : Int))] rfl _ (built_reset id (sentO oo) s.code)
 (try go_frame); refine wpAnyH_ready (rs := [12]) (by kernel_rfl) (by simp) ?_
 refine arH (o := ⟨some 23, _, _, _, _, none⟩) rfl fun K hK => ?_
 refine step_build_fi rfl (.tmp 22) rfl (resetF id (sentO oo) s.code) nilS nilS rfl rfl ?_
 refine hK.out _ _ (Mod.alloc hS _) (fun hS => ?_)
 clear hK K
 refine wpAnyH_ready (rs := [13]) (by kernel_rfl) (by simp) ?_
 refine arH (o := ⟨some 24, _, _, _, _, none⟩) rfl fun K hK => ?_
 refine step_append_fi rfl (.tmp 11) (.tmp 23) rfl (.slice none 0 0) [] w.heap.size (w2.heap.size + 1) rfl (OwnFI.nil _ _ _) _ (resetF id (sentO oo) s.code) _ rfl (fr_litI w2 (vd := nilS) (vr := nilS) rfl) (FrI.plain _ _ _ _ rfl rfl rfl) (by simp) 0 rfl (by decide) (Mod.size hS) ?_
 intro ap cp w5 ho5 hg5
 refine hK.out _ _ (Mod.grown hS hg5 (fun k hk hlt => by simp [Value.ownBlock] at hk)) (fun hS => ?_)
 have HO5 := Lib.hid ho5
 clear hK K ho5 hg5
 refine' tk 14 _ (some 5) rfl rfl (by kernel_rfl) (fun _ _ _ h => h) (Or.inl ⟨by rfl, fun X hX => ?_⟩) hS ?_; rotate_left
 ·go_simp; exact rfl
 (try go_frame); refine wpAnyH_done (by kernel_rfl) ?_ _
 have HMW5 : Hid (Mod (fun _ => False) w w5) := Lib.hid hS
 clear HMW hS k6 k0 d11 l4 l5 l17
 have HMW := HMW5
 clear HMW5
 have d11 : w5.cell? ⟨g.sb, 11, none⟩ = some (.map (some g.tb)) := (HQ.out.still HMW.out).blk.cellAt 11 rfl
 have l4 : (Instr.lookup 107 (.map (some g.tb)) (.int .i64 4) false).run Tryz.prog w5 = .ok (.bool true) w5 := (HQ.out.still HMW.out).lookT (.inl rfl) HTR.out.symm
 have l5 : (Instr.lookup 107 (.map (some g.tb)) (.int .i64 5) false).run Tryz.prog w5 = .ok (.bool false) w5 := (HQ.out.still HMW.out).lookT (.inr (.inl rfl)) HTS.out
 have l17 : (Instr.lookup 107 (.map (some g.tb)) (.int .i64 17) false).run Tryz.prog w5 = .ok (.bool false) w5 := (HQ.out.still HMW.out).lookT (.inr (.inr rfl)) HTM.out
 go_wp2_with fail
 go_ret
 exact ⟨_, rfl, by rw [HD.out]; exact HO5.out, HMW.out⟩
theorem due_ro {B : Nat} {w : World} {g : SM} {s : St} (q : SBuf B w g s) (id : Nat) (hS : s.tS = false) (hr : s.tR = true) (hm : s.tM = true) (hv : s.over = true) {oo : OB} (ho : s.out = some oo) :
  Calls Tryz.prog 55 #[.pointer (some ⟨g.sb, 0, none⟩), .int .u64 (id : Int)] w fun e w' => DueR' w w' (dueL s id) e := by
 have HD : Hid (dueL s id = [resetF id (sentO oo) s.code]) := Lib.hid (by unfold dueL; rw [hr, hm, hv, ho]; rfl)
 have HQ := Lib.hid q
 obtain ⟨tr, htr⟩ : ∃ tr, tr = true := ⟨_, rfl⟩
 have HTR : Hid (tr = tellF s 4) := Lib.hid (by rw [htr, ← hr]; rfl)
 have HTS : Hid (tellF s 5 = false) := Lib.hid hS
 have HTM : Hid (tellF s 17 = true) := Lib.hid hm
 have HOV := Lib.hid hv
 have k6 : w.cell? ⟨g.sb, 6, none⟩ = some (.int .u64 (s.code : Int)) := q.blk.cellAt 6 rfl
 have k0 : w.cell? ⟨g.sb, 0, none⟩ = some (.pointer (some ⟨g.ob, 0, none⟩)) := by
  have := q.blk.cellAt 0 (v := ptrO g.ob s.out) rfl
  rw [ho] at this
  exact this
 have HSE := Lib.hid (fun W (hm : Mod (fun _ => False) w W) => osent_any ((q.out oo ho).still hm))
 have HMW : Hid (Mod (fun _ => False) w w) := Lib.hid (Mod.refl _ _)
 clear q hS hr hm hv ho
 have d11 : w.cell? ⟨g.sb, 11, none⟩ = some (.map (some g.tb)) := (HQ.out.still HMW.out).blk.cellAt 11 rfl
 have l4 : (Instr.lookup 107 (.map (some g.tb)) (.int .i64 4) false).run Tryz.prog w = .ok (.bool tr) w := (HQ.out.still HMW.out).lookT (.inl rfl) HTR.out.symm
 have l5 : (Instr.lookup 107 (.map (some g.tb)) (.int .i64 5) false).run Tryz.prog w = .ok (.bool false) w := (HQ.out.still HMW.out).lookT (.inr (.inl rfl)) HTS.out
 have l17 : (Instr.lookup 107 (.map (some g.tb)) (.int .i64 17) false).run Tryz.prog w = .ok (.bool true) w := (HQ.out.still HMW.out).lookT (.inr (.inr rfl)) HTM.out
 have d5 : w.cell? ⟨g.sb, 5, none⟩ = some (.bool true) := by
  have := (HQ.out.still HMW.out).blk.cellAt 5 (v := .bool s.over) rfl
  rw [HOV.out] at this
  exact this
 subst htr
 go_enter Tryz.func55, Tryz.ntmps55
 go_upto_region 3 with fail
 refine wp_region_held_drew (S := fun X => Mod (fun _ => False) w X) (by kernel_rfl) (Mod.refl _ _).drew (fun hS => ?_)
 generalize w.drew = w2 at *
 refine' tk 0 _ (some 11) rfl rfl (by kernel_rfl) (fun _ _ _ h => h) (Or.inl ⟨by rfl, fun X hX => ?_⟩) hS ?_; rotate_left
 ·go_simp; exact rfl
 (try go_frame); refine' tk 1 _ (some 12) rfl rfl (by kernel_rfl) (fun _ _ _ h => h) (Or.inl ⟨by rfl, fun X hX => ?_⟩) hS ?_; rotate_left
 ·go_simp; exact rfl
 (try go_frame); refine' tk 2 _ (some 13) rfl rfl (by kernel_rfl) (fun _ _ _ h => h) (Or.inl ⟨by rfl, fun X hX => ?_⟩) hS ?_; rotate_left
 ·go_simp; exact rfl
 (try go_frame); refine' tk 3 _ (some 14) rfl rfl (by kernel_rfl) (fun _ _ _ h => h) (Or.inl ⟨by rfl, fun X hX => ?_⟩) hS ?_; rotate_left
 ·go_simp; exact rfl
 (try go_frame); refine' tk 4 _ (some 15) rfl rfl (by kernel_rfl) (fun _ _ _ h => h) (Or.inl ⟨by rfl, fun X hX => ?_⟩) hS ?_; rotate_left
 ·go_simp; exact rfl
 (try go_frame); refine' tk 5 _ (some 16) rfl rfl (by kernel_rfl) (fun _ _ _ h => h) (Or.inl ⟨by rfl, fun X hX => ?_⟩) hS ?_; rotate_left
 ·have h := (show Mod (fun _ => False) w X from hX).cellAt k6 (fun h => h); go_simp; exact rfl
 (try go_frame); refine' tk 6 _ (some 17) rfl rfl (by kernel_rfl) (fun _ _ _ h => h) (Or.inl ⟨by rfl, fun X hX => ?_⟩) hS ?_; rotate_left
 ·go_simp; exact rfl
 (try go_frame); refine' tk 7 _ (some 18) rfl rfl (by kernel_rfl) (fun _ _ _ h => h) (Or.inl ⟨by rfl, fun X hX => ?_⟩) hS ?_; rotate_left
 ·go_simp; exact rfl
 (try go_frame); refine' tk 8 _ (some 19) rfl rfl (by kernel_rfl) (fun _ _ _ h => h) (Or.inl ⟨by rfl, fun X hX => ?_⟩) hS ?_; rotate_left
 ·go_simp; exact rfl
 (try go_frame); refine' tk 9 _ (some 20) rfl rfl (by kernel_rfl) (fun _ _ _ h => h) (Or.inl ⟨by rfl, fun X hX => ?_⟩) hS ?_; rotate_left
 ·have h := (show Mod (fun _ => False) w X from hX).cellAt k0 (fun h => h); go_simp; exact rfl
 (try go_frame); refine wpAnyH_ready (rs := [10]) (by kernel_rfl) (by simp) ?_
 refine arH (o := ⟨some 21, _, _, _, _, none⟩) rfl fun K hK => ?_
 go_simp
 refine (HSE.out _ hS).mono ?_
 rintro e w3 ⟨rfl, rfl⟩
 refine hK.out _ _ hS (fun hS => ?_)
 clear hK K
 refine tk 11 (.agg (frC (resetF id (sentO oo) s.code) nilS nilS)) (some 22) rfl rfl (by kernel_rfl) (fun _ _ _ h => h) (Or.inl ⟨by rfl, fun X hX => ?_⟩) hS ?_
 ·exact exec_bu (pl := [(0, .const (.int .i64 4)), (1, .tmp 12), (4, .tmp 16), (2, .tmp 21)]) rfl [(0, .int .i64 4), (1, .int .u64 (id : Int)), (4, .int .u64 (s.code : Int)), (2, .int .u64 (sentO oo : Int))] rfl _ (built_reset id (sentO oo) s.code)
 (try go_frame); refine wpAnyH_ready (rs := [12]) (by kernel_rfl) (by simp) ?_
 refine arH (o := ⟨some 23, _, _, _, _, none⟩) rfl fun K hK => ?_
 refine step_build_fi rfl (.tmp 22) rfl (resetF id (sentO oo) s.code) nilS nilS rfl rfl ?_
 refine hK.out _ _ (Mod.alloc hS _) (fun hS => ?_)
 clear hK K
 refine wpAnyH_ready (rs := [13]) (by kernel_rfl) (by simp) ?_
 refine arH (o := ⟨some 24, _, _, _, _, none⟩) rfl fun K hK => ?_
 refine step_append_fi rfl (.tmp 11) (.tmp 23) rfl (.slice none 0 0) [] w.heap.size (w2.heap.size + 1) rfl (OwnFI.nil _ _ _) _ (resetF id (sentO oo) s.code) _ rfl (fr_litI w2 (vd := nilS) (vr := nilS) rfl) (FrI.plain _ _ _ _ rfl rfl rfl) (by simp) 0 rfl (by decide) (Mod.size hS) ?_
 intro ap cp w5 ho5 hg5
 refine hK.out _ _ (Mod.grown hS hg5 (fun k hk hlt => by simp [Value.ownBlock] at hk)) (fun hS => ?_)
 have HO5 := Lib.hid ho5
 clear hK K ho5 hg5
 refine' tk 14 _ (some 5) rfl rfl (by kernel_rfl) (fun _ _ _ h => h) (Or.inl ⟨by rfl, fun X hX => ?_⟩) hS ?_; rotate_left
 ·go_simp; exact rfl
 (try go_frame); refine wpAnyH_done (by kernel_rfl) ?_ _
 have HMW5 : Hid (Mod (fun _ => False) w w5) := Lib.hid hS
 clear HMW hS k6 k0 d11 l4 l5 l17 d5
 have HMW := HMW5
 clear HMW5
 have d11 : w5.cell? ⟨g.sb, 11, none⟩ = some (.map (some g.tb)) := (HQ.out.still HMW.out).blk.cellAt 11 rfl
 have l4 : (Instr.lookup 107 (.map (some g.tb)) (.int .i64 4) false).run Tryz.prog w5 = .ok (.bool true) w5 := (HQ.out.still HMW.out).lookT (.inl rfl) HTR.out.symm
 have l5 : (Instr.lookup 107 (.map (some g.tb)) (.int .i64 5) false).run Tryz.prog w5 = .ok (.bool false) w5 := (HQ.out.still HMW.out).lookT (.inr (.inl rfl)) HTS.out
 have l17 : (Instr.lookup 107 (.map (some g.tb)) (.int .i64 17) false).run Tryz.prog w5 = .ok (.bool true) w5 := (HQ.out.still HMW.out).lookT (.inr (.inr rfl)) HTM.out
 have d5 : w5.cell? ⟨g.sb, 5, none⟩ = some (.bool true) := by
  have := (HQ.out.still HMW.out).blk.cellAt 5 (v := .bool s.over) rfl
  rw [HOV.out] at this
  exact this
 go_wp2_with fail
 go_ret
 exact ⟨_, rfl, by rw [HD.out]; exact HO5.out, HMW.out⟩
theorem due_rl {B : Nat} {w : World} {g : SM} {s : St} (q : SBuf B w g s) (id : Nat) (hS : s.tS = false) (hr : s.tR = true) (hm : s.tM = true) (hv : s.over = false) {oo : OB} (ho : s.out = some oo) {oi : IB} (hi : s.inn = some oi) :
  Calls Tryz.prog 55 #[.pointer (some ⟨g.sb, 0, none⟩), .int .u64 (id : Int)] w fun e w' => DueR' w w' (dueL s id) e := by
 have HD : Hid (dueL s id = [resetF id (sentO oo) s.code, limitF id (oi.read + oi.win)]) := Lib.hid (by unfold dueL; rw [hr, hm, hv, ho, hi]; rfl)
 have HQ := Lib.hid q
 obtain ⟨tr, htr⟩ : ∃ tr, tr = true := ⟨_, rfl⟩
 have HTR : Hid (tr = tellF s 4) := Lib.hid (by rw [htr, ← hr]; rfl)
 have HTS : Hid (tellF s 5 = false) := Lib.hid hS
 have HTM : Hid (tellF s 17 = true) := Lib.hid hm
 have HOV := Lib.hid hv
 have HIN : Hid (ptrI g.ib s.inn = .pointer (some ⟨g.ib, 0, none⟩)) := Lib.hid (by rw [hi]; rfl)
 have HLI := Lib.hid (fun W (hm : Mod (fun _ => False) w W) => ilimit_any ((q.inn oi hi).still hm))
 have k6 : w.cell? ⟨g.sb, 6, none⟩ = some (.int .u64 (s.code : Int)) := q.blk.cellAt 6 rfl
 have k0 : w.cell? ⟨g.sb, 0, none⟩ = some (.pointer (some ⟨g.ob, 0, none⟩)) := by
  have := q.blk.cellAt 0 (v := ptrO g.ob s.out) rfl
  rw [ho] at this
  exact this
 have HSE := Lib.hid (fun W (hm : Mod (fun _ => False) w W) => osent_any ((q.out oo ho).still hm))
 have HMW : Hid (Mod (fun _ => False) w w) := Lib.hid (Mod.refl _ _)
 clear q hS hr hm hv ho hi
 have d11 : w.cell? ⟨g.sb, 11, none⟩ = some (.map (some g.tb)) := (HQ.out.still HMW.out).blk.cellAt 11 rfl
 have l4 : (Instr.lookup 107 (.map (some g.tb)) (.int .i64 4) false).run Tryz.prog w = .ok (.bool tr) w := (HQ.out.still HMW.out).lookT (.inl rfl) HTR.out.symm
 have l5 : (Instr.lookup 107 (.map (some g.tb)) (.int .i64 5) false).run Tryz.prog w = .ok (.bool false) w := (HQ.out.still HMW.out).lookT (.inr (.inl rfl)) HTS.out
 have l17 : (Instr.lookup 107 (.map (some g.tb)) (.int .i64 17) false).run Tryz.prog w = .ok (.bool true) w := (HQ.out.still HMW.out).lookT (.inr (.inr rfl)) HTM.out
 have d5 : w.cell? ⟨g.sb, 5, none⟩ = some (.bool false) := by
  have := (HQ.out.still HMW.out).blk.cellAt 5 (v := .bool s.over) rfl
  rw [HOV.out] at this
  exact this
 have d1 : w.cell? ⟨g.sb, 1, none⟩ = some (.pointer (some ⟨g.ib, 0, none⟩)) := by
  have := (HQ.out.still HMW.out).blk.cellAt 1 (v := ptrI g.ib s.inn) rfl
  rw [HIN.out] at this
  exact this
 subst htr
 go_enter Tryz.func55, Tryz.ntmps55
 go_upto_region 3 with fail
 refine wp_region_held_drew (S := fun X => Mod (fun _ => False) w X) (by kernel_rfl) (Mod.refl _ _).drew (fun hS => ?_)
 generalize w.drew = w2 at *
 refine' tk 0 _ (some 11) rfl rfl (by kernel_rfl) (fun _ _ _ h => h) (Or.inl ⟨by rfl, fun X hX => ?_⟩) hS ?_; rotate_left
 ·go_simp; exact rfl
 (try go_frame); refine' tk 1 _ (some 12) rfl rfl (by kernel_rfl) (fun _ _ _ h => h) (Or.inl ⟨by rfl, fun X hX => ?_⟩) hS ?_; rotate_left
 ·go_simp; exact rfl
 (try go_frame); refine' tk 2 _ (some 13) rfl rfl (by kernel_rfl) (fun _ _ _ h => h) (Or.inl ⟨by rfl, fun X hX => ?_⟩) hS ?_; rotate_left
 ·go_simp; exact rfl
 (try go_frame); refine' tk 3 _ (some 14) rfl rfl (by kernel_rfl) (fun _ _ _ h => h) (Or.inl ⟨by rfl, fun X hX => ?_⟩) hS ?_; rotate_left
 ·go_simp; exact rfl
 (try go_frame); refine' tk 4 _ (some 15) rfl rfl (by kernel_rfl) (fun _ _ _ h => h) (Or.inl ⟨by rfl, fun X hX => ?_⟩) hS ?_; rotate_left
 ·go_simp; exact rfl
 (try go_frame); refine' tk 5 _ (some 16) rfl rfl (by kernel_rfl) (fun _ _ _ h => h) (Or.inl ⟨by rfl, fun X hX => ?_⟩) hS ?_; rotate_left
 ·have h := (show Mod (fun _ => False) w X from hX).cellAt k6 (fun h => h); go_simp; exact rfl
 (try go_frame); refine' tk 6 _ (some 17) rfl rfl (by kernel_rfl) (fun _ _ _ h => h) (Or.inl ⟨by rfl, fun X hX => ?_⟩) hS ?_; rotate_left
 ·go_simp; exact rfl
 (try go_frame); refine' tk 7 _ (some 18) rfl rfl (by kernel_rfl) (fun _ _ _ h => h) (Or.inl ⟨by rfl, fun X hX => ?_⟩) hS ?_; rotate_left
 ·go_simp; exact rfl
 (try go_frame); refine' tk 8 _ (some 19) rfl rfl (by kernel_rfl) (fun _ _ _ h => h) (Or.inl ⟨by rfl, fun X hX => ?_⟩) hS ?_; rotate_left
 ·go_simp; exact rfl
 (try go_frame); refine' tk 9 _ (some 20) rfl rfl (by kernel_rfl) (fun _ _ _ h => h) (Or.inl ⟨by rfl, fun X hX => ?_⟩) hS ?_; rotate_left
 ·have h := (show Mod (fun _ => False) w X from hX).cellAt k0 (fun h => h); go_simp; exact rfl
 (try go_frame); refine wpAnyH_ready (rs := [10]) (by kernel_rfl) (by simp) ?_
 refine arH (o := ⟨some 21, _, _, _, _, none⟩) rfl fun K hK => ?_
 go_simp
 refine (HSE.out _ hS).mono ?_
 rintro e w3 ⟨rfl, rfl⟩
 refine hK.out _ _ hS (fun hS => ?_)
 clear hK K
 refine tk 11 (.agg (frC (resetF id (sentO oo) s.code) nilS nilS)) (some 22) rfl rfl (by kernel_rfl) (fun _ _ _ h => h) (Or.inl ⟨by rfl, fun X hX => ?_⟩) hS ?_
 ·exact exec_bu (pl := [(0, .const (.int .i64 4)), (1, .tmp 12), (4, .tmp 16), (2, .tmp 21)]) rfl [(0, .int .i64 4), (1, .int .u64 (id : Int)), (4, .int .u64 (s.code : Int)), (2, .int .u64 (sentO oo : Int))] rfl _ (built_reset id (sentO oo) s.code)
 (try go_frame); refine wpAnyH_ready (rs := [12]) (by kernel_rfl) (by simp) ?_
 refine arH (o := ⟨some 23, _, _, _, _, none⟩) rfl fun K hK => ?_
 refine step_build_fi rfl (.tmp 22) rfl (resetF id (sentO oo) s.code) nilS nilS rfl rfl ?_
 refine hK.out _ _ (Mod.alloc hS _) (fun hS => ?_)
 clear hK K
 refine wpAnyH_ready (rs := [13]) (by kernel_rfl) (by simp) ?_
 refine arH (o := ⟨some 24, _, _, _, _, none⟩) rfl fun K hK => ?_
 refine step_append_fi rfl (.tmp 11) (.tmp 23) rfl (.slice none 0 0) [] w.heap.size (w2.heap.size + 1) rfl (OwnFI.nil _ _ _) _ (resetF id (sentO oo) s.code) _ rfl (fr_litI w2 (vd := nilS) (vr := nilS) rfl) (FrI.plain _ _ _ _ rfl rfl rfl) (by simp) 0 rfl (by decide) (Mod.size hS) ?_
 intro ap cp w5 ho5 hg5
 refine hK.out _ _ (Mod.grown hS hg5 (fun k hk hlt => by simp [Value.ownBlock] at hk)) (fun hS => ?_)
 have HO5 := Lib.hid ho5
 clear hK K ho5 hg5
 refine' tk 14 _ (some 5) rfl rfl (by kernel_rfl) (fun _ _ _ h => h) (Or.inl ⟨by rfl, fun X hX => ?_⟩) hS ?_; rotate_left
 ·go_simp; exact rfl
 (try go_frame); refine wpAnyH_done (by kernel_rfl) ?_ _
 have HMW5 : Hid (Mod (fun _ => False) w w5) := Lib.hid hS
 clear HMW hS k6 k0 d11 l4 l5 l17 d5 d1
 have HMW := HMW5
 clear HMW5
 have d11 : w5.cell? ⟨g.sb, 11, none⟩ = some (.map (some g.tb)) := (HQ.out.still HMW.out).blk.cellAt 11 rfl
 have l4 : (Instr.lookup 107 (.map (some g.tb)) (.int .i64 4) false).run Tryz.prog w5 = .ok (.bool true) w5 := (HQ.out.still HMW.out).lookT (.inl rfl) HTR.out.symm
 have l5 : (Instr.lookup 107 (.map (some g.tb)) (.int .i64 5) false).run Tryz.prog w5 = .ok (.bool false) w5 := (HQ.out.still HMW.out).lookT (.inr (.inl rfl)) HTS.out
 have l17 : (Instr.lookup 107 (.map (some g.tb)) (.int .i64 17) false).run Tryz.prog w5 = .ok (.bool true) w5 := (HQ.out.still HMW.out).lookT (.inr (.inr rfl)) HTM.out
 have d5 : w5.cell? ⟨g.sb, 5, none⟩ = some (.bool false) := by
  have := (HQ.out.still HMW.out).blk.cellAt 5 (v := .bool s.over) rfl
  rw [HOV.out] at this
  exact this
 have d1 : w5.cell? ⟨g.sb, 1, none⟩ = some (.pointer (some ⟨g.ib, 0, none⟩)) := by
  have := (HQ.out.still HMW.out).blk.cellAt 1 (v := ptrI g.ib s.inn) rfl
  rw [HIN.out] at this
  exact this
 go_wp2_with (first
  | (go_at_call 101; (with_reducible refine (HLI.out _ HMW.out).mono ?_); rintro e w6 ⟨rfl, hm⟩; have HM6 := Lib.hid (HMW.out.trans hm); have HO6 := Lib.hid (HO5.out.still hm); have HSZ6 := Lib.hid hm.size; clear hm)
  | ((with_reducible refine wpList_build_c ?_ 91 [(0, .const (.int .i64 17)), (1, .tmp 59), (2, .tmp 64)] ?_ [(0, .int .i64 17), (1, .int .u64 (id : Int)), (2, .int .u64 ((oi.read + oi.win : Nat) : Int))] ?_ _ (built_limit id (oi.read + oi.win)) ?_); (iterate 3 exact rfl))
  | ((with_reducible refine wpList_build_fi ?_ (.tmp 65) ?_ (limitF id (oi.read + oi.win)) nilS nilS ?_ ?_ ?_); (iterate 4 exact rfl))
  | ((with_reducible refine wpList_append_fi ?_ (.tmp 58) (.tmp 66) ?_ (.slice ap 1 cp) [resetF id (sentO oo) s.code] w.heap.size (w6.heap.size + 1) ?_ ((HO6.out.more (E' := w6.heap.size + 1) (by have := HSZ6.out; omega) (Nat.le_refl _)).still ((Mod.refl _ _).alloc _)) _ (limitF id (oi.read + oi.win)) _ ?_ (fr_litI w6 (vd := nilS) (vr := nilS) rfl) (FrI.plain _ _ _ _ rfl rfl rfl) (by simp) 1 rfl (by decide) (by have := HM6.out.size; simp; omega) ?_); (iterate 4 exact rfl); intro ap cp w7 ho7 hg7; have HO7 := Lib.hid ho7; have HM7 : Hid (Mod (fun _ => False) w w7) := Lib.hid ((HM6.out.alloc _).grown hg7 (fun k hk hlt => by have := (HO6.out.lt k hk).1; omega)); clear ho7 hg7)
  | fail)
 go_ret
 exact ⟨_, rfl, by rw [HD.out]; exact HO7.out, HM7.out⟩
theorem due_any {B : Nat} {w : World} {g : SM} {s : St} (q : SBuf B w g s) (id : Nat) (hS : s.tS = false) (hR : s.tR = true → ∃ o, s.out = some o) (hM : s.tM = true → s.over = false → ∃ o, s.inn = some o) :
  Calls Tryz.prog 55 #[.pointer (some ⟨g.sb, 0, none⟩), .int .u64 (id : Int)] w fun e w' => DueR' w w' (dueL s id) e := by
 cases hr : s.tR with
 | false =>
  cases hm : s.tM with
  | false => exact due_nf q id hS hr hm
  | true =>
   cases hv : s.over with
   | true => exact due_no q id hS hr hm hv
   | false =>
    obtain ⟨o, ho⟩ := hM hm hv
    exact due_nl q id hS hr hm hv ho
 | true =>
  obtain ⟨oo, hoo⟩ := hR hr
  cases hm : s.tM with
  | false => exact due_rf q id hS hr hm hoo
  | true =>
   cases hv : s.over with
   | true => exact due_ro q id hS hr hm hv hoo
   | false =>
    obtain ⟨o, ho⟩ := hM hm hv
    exact due_rl q id hS hr hm hv hoo ho
end Go.Proofs.YtahgidkpjmecdaaGreatDoor
