/- Parts of the proof: SuN SzK SzL SzM SzN SzO. -/
import Derived.Test.YtolgeghdkoodnaaGreatDoorPa02
import Derived.Deep.LoopGhost
set_option maxRecDepth 100000
namespace Go.Proofs.YtolgeghdkoodnaaGreatDoor
open Go.RowKit Go.Maps
set_option maxHeartbeats 4000000 in
theorem framesN_any {B : Nat} {w : World} {tb mb : Nat} {G : Int → SM} {T : Tb} (q : TBuf B w tb mb G T) (hi : FInv T) (ht : Tabs w) (hg : 2 < B) (room : Int) (hr : room < 0 ∧ -9223372036854775808 ≤ room) :
  Calls Tryz.prog 15 #[.pointer (some ⟨tb, 0, none⟩), .int .i64 room] w fun e w' => ∃ S rb, e = .returned (.slice none 0 0) ∧ FN B w tb mb G T rb room w' S := by
 have HF0 := Lib.hid (FN.start q hi ht hg room)
 have HID := Lib.hid (fun W (hm : Mod (fun _ => False) w W) => ids_any (q.still hm) hi.len)
 have HSZ : Hid (((w.alloc (.cells #[.int .i64 room] 3)).alloc (.cells #[.slice none 0 0] 47)).heap.size = w.heap.size + 2) := Lib.hid (by simp)
 have HMW : Hid (Mod (fun _ => False) w ((w.alloc (.cells #[.int .i64 room] 3)).alloc (.cells #[.slice none 0 0] 47))) := Lib.hid (((Mod.refl _ _).alloc _).alloc _)
 have HI := Lib.hid hi
 have HNEG := Lib.hid hr
 clear q hi ht hg hr
 go_enter Tryz.func15, Tryz.ntmps15
 go_wp2_with (first
  | (go_at_call 12; (with_reducible refine (HID.out _ HMW.out).mono ?_); rintro e w1 ⟨v, rfl, hv, hm⟩; obtain ⟨a, cap, rfl⟩ := hv.val; have HV := Lib.hid hv; have HM := Lib.hid hm; clear hv hm)
  | fail)
 generalize hL : sortI T.dom = L at *
 have HL := Lib.hid hL
 clear hL
 have hnb : (L.length : Int) ≤ 1000 := by rw [← HL.out, sortI_len]; have := HI.out.small.len; omega
 generalize hn : L.length = n at *
 have HLn := Lib.hid hn
 clear hn
 have HF1 := Lib.hid (HF0.out.still HM.out)
 generalize hrb : w.heap.size = rb at *
 have HRB := Lib.hid hrb
 clear hrb
 have HU0 : Hid (OwnU w1 (rb + 2) (.slice a n cap) L) := Lib.hid (by have := HV.out; rw [HSZ.out] at this; exact this)
 clear HF0 HV HID HMW HM HSZ
 go_loopw [21] (fun s21 wr => ∃ (i : Nat), i ≤ n ∧ s21 = .int .i64 i ∧ Hid (FN B w tb mb G T rb room wr T ∧ OwnU wr (rb + 2) (.slice a n cap) L)) (fun s21 _ => n - (intOf s21).toNat)
 case atStart => exact ⟨0, Nat.zero_le _, rfl, Lib.hid ⟨HF1.out, HU0.out⟩⟩
 case round =>
  obtain ⟨i, hin, rfl, HC⟩ := hrel
  by_cases hlt : i < n
  ·obtain ⟨z, hz⟩ : ∃ z, L[i]? = some z := ⟨_, List.getElem?_eq_getElem (by rw [HLn.out]; exact hlt)⟩
   obtain ⟨g, rfl, cg⟩ := HC.out.2.at hz
   have hzd : z ∈ T.dom := by rw [← sortI_mem, HL.out]; exact List.mem_of_getElem? hz
   have q1 := HC.out.1.tt.1
   have cm := q1.mapc
   have hl := q1.lookI hzd
   obtain ⟨id, rfl⟩ := Int.eq_ofNat_of_zero_le (HC.out.1.inv.ids z hzd).1
   have HDU := Lib.hid (due_any (q1.strs _ hzd) id (HC.out.1.inv.tS _ hzd) (HC.out.1.inv.tR _ hzd) (HC.out.1.inv.tM _ hzd))
   have tl : decide ((i : Int) < (n : Int)) = true := decide_eq_true (by omega)
   clear q1 hzd hz
   go_wp2_with (first
    | (go_at_call 36; (with_reducible refine HDU.out.mono ?_); rintro e w2 ⟨vd, rfl, hvd, hm⟩; obtain ⟨da, dc, rfl⟩ := hvd.val; have HVD := Lib.hid hvd; have HM2 := Lib.hid hm; clear hvd hm)
    | fail)
   have HC2 := Lib.hid (HC.out.1.still HM2.out)
   have HU2 : Hid (OwnU w2 (rb + 2) (.slice (some ⟨g, 0, none⟩) n cap) L) := Lib.hid (HC.out.2.kept HM2.out (fun _ _ h => h))
   have HDL := Lib.hid (dueL_frames (T.m id) id)
   have HRW : Hid (rb + 1 < wr.heap.size) := Lib.hid HC.out.1.o.lt
   generalize hLd : dueL (T.m id) id = Ld at *
   have hmb : (Ld.length : Int) ≤ 2 := by rw [← hLd]; exact dueL_len _ _
   clear hLd
   generalize hm : Ld.length = m at *
   have HLm := Lib.hid hm
   clear hm
   clear cg cm hl
   generalize hDD : wr.heap.size = D at *
   have HDE : Hid (D ≤ w2.heap.size) := Lib.hid (by have := HM2.out.size; omega)
   have HDD := Lib.hid hDD
   clear hDD
   go_loopw [34] (fun s34 wq => ∃ (j : Nat), j ≤ m ∧ s34 = .int .i64 j ∧ Hid (FN B w tb mb G T rb room wq T ∧ OwnU wq (rb + 2) (.slice (some ⟨g, 0, none⟩) n cap) L ∧ OwnFI wq D w2.heap.size (.slice da m dc) Ld)) (fun s34 _ => m - (intOf s34).toNat)
   case atStart => exact ⟨0, Nat.zero_le _, rfl, Lib.hid ⟨HC2.out, HU2.out, HVD.out⟩⟩
   case round =>
    obtain ⟨j, hjm, rfl, HJ⟩ := hrel
    by_cases hj : j < m
    ·obtain ⟨f, hf⟩ : ∃ f, Ld[j]? = some f := ⟨_, List.getElem?_eq_getElem (by rw [HLm.out]; exact hj)⟩
     obtain ⟨fd, fr, f16, fk, ftk⟩ := HDL.out f (List.mem_of_getElem? hf)
     obtain ⟨gd, c, rfl, hfi, hrg⟩ := HJ.out.2.2.at hf
     obtain ⟨vdd, rfl, hvdd⟩ := hfi.frv (by rw [fd]; decide)
     obtain ⟨aa, cc, rfl, -⟩ := Sl.val hvdd.d
     have HFV := Lib.hid hvdd
     have HRG : Hid (wr.rangeAt gd (j * 24) (frL f (.slice aa f.d.length cc) nilS)) := Lib.hid hrg
     have HSZ := Lib.hid (sizeFrR f (.slice aa f.d.length cc) nilS f16)
     have HSL : Hid ((Tryz.prog.info? 52).map (·.size) = some (frL f (.slice aa f.d.length cc) nilS).length) := Lib.hid (HSZ.out.trans (by unfold frC; rw [List.size_toArray]))
     have HFL : Hid (frZx.size = (frC f (.slice aa f.d.length cc) nilS).size) := Lib.hid (frC_size _ _ _ f16).symm
     have HP := Lib.hid (And.intro fd (And.intro fr (And.intro f16 (And.intro fk ftk))))
     have tj : decide ((j : Int) < (m : Int)) = true := decide_eq_true (by omega)
     clear hf fd fr f16 fk ftk hfi hrg hvdd
     go_wp2_with (first
      | ((with_reducible refine wpList_load_mid ?_ 52 (.tmp 36) ?_ gd (j * 24) ?_ (frL f (.slice aa f.d.length cc) nilS) _ HRG.out Tryz.underlying52 ?_ HSL.out ?_); (iterate 4 exact rfl))
      | ((with_reducible refine wpList_store_blk ?_ 52 (.tmp 10) (.tmp 37) ?_ wr.heap.size ?_ frZx (frC f (.slice aa f.d.length cc) nilS) ?_ 52 (Blk.new _ _ _) HSZ.out HFL.out (frC_one1 _ _ _ _) ?_); (iterate 4 exact rfl); intro w4 hB4 hM4; go_loud (have HB4 := Lib.hid hB4; have HMW4 : Hid (Mod (fun _ => False) wr w4) := Lib.hid (((Mod.refl (fun _ => False) wr).alloc _).trans' hM4 (fun k hk e => by omega)); have HC4 := Lib.hid (HJ.out.1.still HMW4.out); have HFIT := Lib.hid (fit_neg (ob := rb + 1) (HC4.out.r.cellAt 0 rfl) HNEG.out.1 HC4.out.tabs (HFV.out.kept HMW4.out) (by rw [HP.out.2.1]; decide) HP.out.2.2.2.1 (by intro x hx; rw [HP.out.2.1] at hx; cases hx)); clear hB4 hM4))
      | ((with_reducible refine wpList_load_blk ?_ 52 (.tmp 10) ?_ wr.heap.size ?_ (frC f (.slice aa f.d.length cc) nilS) 52 _ HB4.out Tryz.underlying52 ?_ HSZ.out ?_); (iterate 4 exact rfl))
      | (go_at_call 34; (with_reducible refine HFIT.out.mono ?_); rintro e w5 ⟨rfl, hM5⟩; have HC5 := Lib.hid (HC4.out.still hM5); have co5 : w5.cell? ⟨rb + 1, 0, none⟩ = some (.slice none 0 0) := HC5.out.o.cellAt 0 rfl; clear hM5)
      | fail)
     refine bodyPost_ret (results_tmp rfl _ _ _) rfl ?_
     exact ⟨T, rb, rfl, HC5.out⟩
    ·have ej : j = m := by omega
     subst ej
     have tj : decide ((j : Int) < (j : Int)) = false := decide_eq_false (by omega)
     go_wp2_with fail
     go_roundw
     case rel => exact ⟨i + 1, by omega, by simp, Lib.hid ⟨HJ.out.1, HJ.out.2.1⟩⟩
     case measure => simp [intOf]; omega
  ·have ei : n = i := by omega
   subst ei
   have tl : decide ((n : Int) < (n : Int)) = false := decide_eq_false (by omega)
   have HF := Lib.hid HC.out.1
   have HNT : Hid (¬ rb ≤ tb) := Lib.hid (by have := (HF.out.old.lt tb (.inl rfl)).2; have := HRB.out; omega)
   clear HC HU0 HF1
   go_upto_region 14 with fail
   go_cut [79] (fun s79 wx => ∃ (b : Bool), s79 = .bool b ∧ Hid (FN B w tb mb G T rb room wx T))
   case first =>
    have c32 : wr.cell? ⟨tb, 32, none⟩ = some (.bool T.tell) := HF.out.tt.1.cell 10 rfl
    cases htl : T.tell with
    | false =>
     rw [htl] at c32
     clear htl
     refine wp_region_held_drew (S := fun X => Mod (fun k => rb ≤ k) wr X) (by kernel_rfl) (Mod.refl _ _).drew (fun hS => ?_)
     refine' tk 0 _ (some 56) rfl rfl (by kernel_rfl) (fun _ _ _ h => h) (Or.inl ⟨by rfl, fun X hX => ?_⟩) hS ?_; rotate_left
     ·go_simp; exact rfl
     (try go_frame); refine' tk 1 _ (some 57) rfl rfl (by kernel_rfl) (fun _ _ _ h => h) (Or.inl ⟨by rfl, fun X hX => ?_⟩) hS ?_; rotate_left
     ·go_simp; exact rfl
     (try go_frame); refine' tk 2 _ (some 58) rfl rfl (by kernel_rfl) (fun _ _ _ h => h) (Or.inl ⟨by rfl, fun X hX => ?_⟩) hS ?_; rotate_left
     ·go_simp; exact rfl
     (try go_frame); refine' tk 3 _ (some 59) rfl rfl (by kernel_rfl) (fun _ _ _ h => h) (Or.inl ⟨by rfl, fun X hX => ?_⟩) hS ?_; rotate_left
     ·go_simp; exact rfl
     (try go_frame); refine' tk 4 _ (some 60) rfl rfl (by kernel_rfl) (fun _ _ _ h => h) (Or.inl ⟨by rfl, fun X hX => ?_⟩) hS ?_; rotate_left
     ·go_simp; exact rfl
     (try go_frame); refine' tk 5 _ (some 61) rfl rfl (by kernel_rfl) (fun _ _ _ h => h) (Or.inl ⟨by rfl, fun X hX => ?_⟩) hS ?_; rotate_left
     ·go_simp; exact rfl
     (try go_frame); refine' tk 6 _ (some 62) rfl rfl (by kernel_rfl) (fun _ _ _ h => h) (Or.inl ⟨by rfl, fun X hX => ?_⟩) hS ?_; rotate_left
     ·have h := (show Mod (fun k => rb ≤ k) wr X from hX).cellAt c32 HNT.out; go_simp; exact rfl
     (try go_frame); refine' tk 7 _ (some 63) rfl rfl (by kernel_rfl) (fun _ _ _ h => h) (Or.inl ⟨by rfl, fun X hX => ?_⟩) hS ?_; rotate_left
     ·go_simp; exact rfl
     (try go_frame); refine tk 8 undef (some 64) rfl rfl (by kernel_rfl) (fun _ _ _ h => h) (Or.inr ⟨by rfl, rfl⟩) hS ?_
     (try go_frame); refine tk 9 undef (some 65) rfl rfl (by kernel_rfl) (fun _ _ _ h => h) (Or.inr ⟨by rfl, rfl⟩) hS ?_
     (try go_frame); refine tk 10 undef (some 66) rfl rfl (by kernel_rfl) (fun _ _ _ h => h) (Or.inr ⟨by rfl, rfl⟩) hS ?_
     (try go_frame); refine tk 11 undef (some 67) rfl rfl (by kernel_rfl) (fun _ _ _ h => h) (Or.inr ⟨by rfl, rfl⟩) hS ?_
     (try go_frame); refine tk 12 undef (some 68) rfl rfl (by kernel_rfl) (fun _ _ _ h => h) (Or.inr ⟨by rfl, rfl⟩) hS ?_
     (try go_frame); refine tk 13 undef (some 69) rfl rfl (by kernel_rfl) (fun _ _ _ h => h) (Or.inr ⟨by rfl, rfl⟩) hS ?_
     (try go_frame); refine tk 14 undef (some 70) rfl rfl (by kernel_rfl) (fun _ _ _ h => h) (Or.inr ⟨by rfl, rfl⟩) hS ?_
     (try go_frame); refine tk 15 undef (some 71) rfl rfl (by kernel_rfl) (fun _ _ _ h => h) (Or.inr ⟨by rfl, rfl⟩) hS ?_
     (try go_frame); refine tk 16 undef (some 72) rfl rfl (by kernel_rfl) (fun _ _ _ h => h) (Or.inr ⟨by rfl, rfl⟩) hS ?_
     (try go_frame); refine tk 17 undef (some 73) rfl rfl (by kernel_rfl) (fun _ _ _ h => h) (Or.inr ⟨by rfl, rfl⟩) hS ?_
     (try go_frame); refine tk 18 undef (some 74) rfl rfl (by kernel_rfl) (fun _ _ _ h => h) (Or.inr ⟨by rfl, rfl⟩) hS ?_
     (try go_frame); refine tk 19 undef (some 75) rfl rfl (by kernel_rfl) (fun _ _ _ h => h) (Or.inr ⟨by rfl, rfl⟩) hS ?_
     (try go_frame); refine tk 20 undef (some 76) rfl rfl (by kernel_rfl) (fun _ _ _ h => h) (Or.inr ⟨by rfl, rfl⟩) hS ?_
     (try go_frame); refine tk 21 undef (some 77) rfl rfl (by kernel_rfl) (fun _ _ _ h => h) (Or.inr ⟨by rfl, rfl⟩) hS ?_
     (try go_frame); refine' tk 22 _ (some 78) rfl rfl (by kernel_rfl) (fun _ _ _ h => h) (Or.inl ⟨by rfl, fun X hX => ?_⟩) hS ?_; rotate_left
     ·go_simp; exact rfl
     (try go_frame); refine' tk 23 _ (some 79) rfl rfl (by kernel_rfl) (fun _ _ _ h => h) (Or.inl ⟨by rfl, fun X hX => ?_⟩) hS ?_; rotate_left
     ·go_simp; exact rfl
     (try go_frame); refine wpAnyH_done (by kernel_rfl) ?_ _
     go_wp2_with fail
     go_meet
     exact ⟨false, rfl, Lib.hid (HF.out.still (Mod.refl _ _).drew)⟩
    | true =>
     rw [htl] at c32
     have hnum := HF.out.tt.1.num.2.1
     have hrd := HF.out.inv.small.read
     have c31 : wr.cell? ⟨tb, 31, none⟩ = some (.int .u64 (T.read : Int)) := HF.out.tt.1.cell 9 rfl
     have c2 : wr.cell? ⟨tb, 2, none⟩ = some (.int .u64 (T.own.d : Int)) := HF.out.tt.1.blk.cellAt 2 rfl
     have u1 : IntKind.u64.wrap ((T.read : Int) + (T.own.d : Int)) = ((T.read + T.own.d : Nat) : Int) := by
      rw [IntWalk.u64_in _ (by omega)]
      push_cast
      rfl
     have HY := Lib.hid (HF.out.still (w' := wr.drew) (Mod.refl _ _).drew)
     have HFIT := Lib.hid (dataF_neg (ob := rb + 1) (HY.out.r.cellAt 0 rfl) HNEG.out.1 HY.out.tabs (T.read + T.own.d))
     clear htl hnum hrd
     refine wp_region_held_drew (S := fun X => Mod (fun k => rb ≤ k) wr X) (by kernel_rfl) (Mod.refl _ _).drew (fun hS => ?_)
     generalize wr.drew = Y at *
     refine' tk 0 _ (some 56) rfl rfl (by kernel_rfl) (fun _ _ _ h => h) (Or.inl ⟨by rfl, fun X hX => ?_⟩) hS ?_; rotate_left
     ·go_simp; exact rfl
     (try go_frame); refine' tk 1 _ (some 57) rfl rfl (by kernel_rfl) (fun _ _ _ h => h) (Or.inl ⟨by rfl, fun X hX => ?_⟩) hS ?_; rotate_left
     ·go_simp; exact rfl
     (try go_frame); refine' tk 2 _ (some 58) rfl rfl (by kernel_rfl) (fun _ _ _ h => h) (Or.inl ⟨by rfl, fun X hX => ?_⟩) hS ?_; rotate_left
     ·go_simp; exact rfl
     (try go_frame); refine' tk 3 _ (some 59) rfl rfl (by kernel_rfl) (fun _ _ _ h => h) (Or.inl ⟨by rfl, fun X hX => ?_⟩) hS ?_; rotate_left
     ·go_simp; exact rfl
     (try go_frame); refine' tk 4 _ (some 60) rfl rfl (by kernel_rfl) (fun _ _ _ h => h) (Or.inl ⟨by rfl, fun X hX => ?_⟩) hS ?_; rotate_left
     ·go_simp; exact rfl
     (try go_frame); refine' tk 5 _ (some 61) rfl rfl (by kernel_rfl) (fun _ _ _ h => h) (Or.inl ⟨by rfl, fun X hX => ?_⟩) hS ?_; rotate_left
     ·go_simp; exact rfl
     (try go_frame); refine' tk 6 _ (some 62) rfl rfl (by kernel_rfl) (fun _ _ _ h => h) (Or.inl ⟨by rfl, fun X hX => ?_⟩) hS ?_; rotate_left
     ·have h := (show Mod (fun k => rb ≤ k) wr X from hX).cellAt c32 HNT.out; go_simp; exact rfl
     (try go_frame); refine' tk 7 _ (some 63) rfl rfl (by kernel_rfl) (fun _ _ _ h => h) (Or.inl ⟨by rfl, fun X hX => ?_⟩) hS ?_; rotate_left
     ·go_simp; exact rfl
     (try go_frame); refine' tk 8 _ (some 64) rfl rfl (by kernel_rfl) (fun _ _ _ h => h) (Or.inl ⟨by rfl, fun X hX => ?_⟩) hS ?_; rotate_left
     ·go_simp; exact rfl
     (try go_frame); refine' tk 9 _ (some 65) rfl rfl (by kernel_rfl) (fun _ _ _ h => h) (Or.inl ⟨by rfl, fun X hX => ?_⟩) hS ?_; rotate_left
     ·go_simp; exact rfl
     (try go_frame); refine' tk 10 _ (some 66) rfl rfl (by kernel_rfl) (fun _ _ _ h => h) (Or.inl ⟨by rfl, fun X hX => ?_⟩) hS ?_; rotate_left
     ·go_simp; exact rfl
     (try go_frame); refine' tk 11 _ (some 67) rfl rfl (by kernel_rfl) (fun _ _ _ h => h) (Or.inl ⟨by rfl, fun X hX => ?_⟩) hS ?_; rotate_left
     ·go_simp; exact rfl
     (try go_frame); refine' tk 12 _ (some 68) rfl rfl (by kernel_rfl) (fun _ _ _ h => h) (Or.inl ⟨by rfl, fun X hX => ?_⟩) hS ?_; rotate_left
     ·have h := (show Mod (fun k => rb ≤ k) wr X from hX).cellAt c31 HNT.out; go_simp; exact rfl
     (try go_frame); refine' tk 13 _ (some 69) rfl rfl (by kernel_rfl) (fun _ _ _ h => h) (Or.inl ⟨by rfl, fun X hX => ?_⟩) hS ?_; rotate_left
     ·go_simp; exact rfl
     (try go_frame); refine' tk 14 _ (some 70) rfl rfl (by kernel_rfl) (fun _ _ _ h => h) (Or.inl ⟨by rfl, fun X hX => ?_⟩) hS ?_; rotate_left
     ·go_simp; exact rfl
     (try go_frame); refine' tk 15 _ (some 71) rfl rfl (by kernel_rfl) (fun _ _ _ h => h) (Or.inl ⟨by rfl, fun X hX => ?_⟩) hS ?_; rotate_left
     ·go_simp; exact rfl
     (try go_frame); refine' tk 16 _ (some 72) rfl rfl (by kernel_rfl) (fun _ _ _ h => h) (Or.inl ⟨by rfl, fun X hX => ?_⟩) hS ?_; rotate_left
     ·go_simp; exact rfl
     (try go_frame); refine' tk 17 _ (some 73) rfl rfl (by kernel_rfl) (fun _ _ _ h => h) (Or.inl ⟨by rfl, fun X hX => ?_⟩) hS ?_; rotate_left
     ·have h := (show Mod (fun k => rb ≤ k) wr X from hX).cellAt c2 HNT.out; go_simp; exact rfl
     (try go_frame); refine tk 18 (.int .u64 ((T.read + T.own.d : Nat) : Int)) (some 74) rfl rfl (by kernel_rfl) (fun _ _ _ h => h) (Or.inl ⟨by rfl, fun X hX => ?_⟩) hS ?_
     ·go_simp
     (try go_frame); refine tk 19 (.agg (frC (dataF (T.read + T.own.d)) nilS nilS)) (some 75) rfl rfl (by kernel_rfl) (fun _ _ _ h => h) (Or.inl ⟨by rfl, fun X hX => ?_⟩) hS ?_
     ·exact exec_bu (pl := [(0, .const (.int .i64 16)), (2, .tmp 74)]) rfl [(0, .int .i64 16), (2, .int .u64 ((T.read + T.own.d : Nat) : Int))] rfl _ (built_data _)
     (try go_frame); refine wpAnyH_ready (rs := [20]) (by kernel_rfl) (by simp) ?_
     refine arH (o := ⟨some 76, _, _, _, _, some (7, true)⟩) rfl fun K hK => ?_
     go_simp
     refine HFIT.out.mono ?_
     rintro e w5 ⟨rfl, hM5⟩
     have HM5 := Lib.hid hM5
     refine hK.out _ _ (Mod.trans hS (hM5.mono (fun k _ e => e.elim))) (fun hS => ?_)
     clear hK K hM5
     refine' tk 21 _ (some 77) rfl rfl (by kernel_rfl) (fun _ _ _ h => h) (Or.inl ⟨by rfl, fun X hX => ?_⟩) hS ?_; rotate_left
     ·go_simp; exact rfl
     (try go_frame); refine' tk 22 _ (some 78) rfl rfl (by kernel_rfl) (fun _ _ _ h => h) (Or.inl ⟨by rfl, fun X hX => ?_⟩) hS ?_; rotate_left
     ·go_simp; exact rfl
     (try go_frame); refine' tk 23 _ (some 79) rfl rfl (by kernel_rfl) (fun _ _ _ h => h) (Or.inl ⟨by rfl, fun X hX => ?_⟩) hS ?_; rotate_left
     ·go_simp; exact rfl
     (try go_frame); refine wpAnyH_done (by kernel_rfl) ?_ _
     go_wp2_with fail
     go_meet
     exact ⟨true, rfl, Lib.hid (HY.out.still HM5.out)⟩
   case rest =>
    obtain ⟨b, rfl, HK⟩ := hcut
    have co : wc.cell? ⟨rb + 1, 0, none⟩ = some (.slice none 0 0) := HK.out.o.cellAt 0 rfl
    cases b with
    | true =>
     go_wp2_with fail
     refine bodyPost_ret (results_tmp rfl _ _ _) rfl ?_
     exact ⟨T, rb, rfl, HK.out⟩
    | false =>
     have c32 : wc.cell? ⟨tb, 32, none⟩ = some (.bool T.tell) := HK.out.tt.1.cell 10 rfl
     have f32 : wc.frozen? ⟨tb, 32, none⟩ = false := HK.out.tt.1.blk.free 32
     have HT3 : TT B wc (wc.setCell ⟨tb, 32, none⟩ (.bool false)) tb mb G G T { T with tell := false } := HK.out.tt.1.setTT { T with tell := false } 10 (.bool false) rfl rfl rfl rfl rfl HK.out.tt.1.num
     have hf3 := HK.out.table HT3 (HK.out.inv.tell false) rfl (fun k hk => hk) (.tell .refl)
     have HF3 := Lib.hid hf3
     have HID2 := Lib.hid (by
      have h := ids_any hf3.tt.1 hf3.inv.len
      rw [hf3.dom, HL.out] at h
      exact h)
     clear HT3 hf3
     go_wp2_with (first
      | (go_at_call 12; (with_reducible refine HID2.out.mono ?_); rintro e w7 ⟨v7, rfl, hv7, hm7⟩; obtain ⟨a7, c7, hvv⟩ := hv7.val; rw [HLn.out] at hvv; subst hvv; have HV7 := Lib.hid hv7; have HM7 := Lib.hid hm7; clear hv7 hm7)
      | fail)
     obtain ⟨W0, hW0⟩ : ∃ W0, W0 = (wc.setCell ⟨tb, 32, none⟩ (.bool false)).heap.size := ⟨_, rfl⟩
     have HV8 : Hid (OwnU w7 W0 (.slice a7 n c7) L) := Lib.hid (by rw [hW0]; exact HV7.out)
     have HW0 : Hid (rb ≤ W0) := Lib.hid (by rw [hW0]; have := HF3.out.tt.2.2.size; have := HRB.out; omega)
     have HF7 := Lib.hid (HF3.out.still HM7.out)
     clear hW0 HV7 HF3 HM7 HID2 c32 f32 co HK
     go_loopw [87] (fun s87 wq => ∃ (i : Nat) (S : Tb), i ≤ n ∧ s87 = .int .i64 i ∧ Hid (FN B w tb mb G T rb room wq S ∧ OwnU wq W0 (.slice a7 n c7) L)) (fun s87 _ => n - (intOf s87).toNat)
     case atStart => exact ⟨0, _, Nat.zero_le _, rfl, Lib.hid ⟨HF7.out, HV8.out⟩⟩
     case round =>
      obtain ⟨i, S, hin, rfl, HC⟩ := hrel
      by_cases hlt : i < n
      ·obtain ⟨z, hz⟩ : ∃ z, L[i]? = some z := ⟨_, List.getElem?_eq_getElem (by rw [HLn.out]; exact hlt)⟩
       obtain ⟨g, rfl, cg⟩ := HC.out.2.at hz
       have hzd : z ∈ S.dom := by rw [HC.out.1.dom, ← sortI_mem, HL.out]; exact List.mem_of_getElem? hz
       have cm := HC.out.1.tt.1.mapc
       have hl := HC.out.1.tt.1.lookI hzd
       obtain ⟨id, rfl⟩ := Int.eq_ofNat_of_zero_le (HC.out.1.inv.ids z hzd).1
       have HZD : Hid ((id : Int) ∈ T.dom) := Lib.hid (by rw [← HC.out.1.dom]; exact hzd)
       have tl3 : decide ((i : Int) < (n : Int)) = true := decide_eq_true (by omega)
       have tl4 : decide (i < n) = true := decide_eq_true hlt
       have HIN : Hid (i < n) := Lib.hid hlt
       clear hz hzd hlt
       go_wp2_with fail
       clear cg cm hl
       go_loopg [14] (leftS (S.m id)) (fun gq s14 wq => ∃ (x : Value) (S' : Tb), s14 = x ∧ Hid (FN B w tb mb G T rb room wq S' ∧ OwnU wq W0 (.slice (some ⟨g, 0, none⟩) n c7) L ∧ leftS (S'.m id) ≤ gq))
       case atStart => exact ⟨_, S, rfl, Lib.hid ⟨HC.out.1, HC.out.2, Nat.le_refl _⟩⟩
       case round =>
        obtain ⟨x, S', rfl, HJ⟩ := hrel
        have hzd : (id : Int) ∈ S'.dom := by rw [HJ.out.1.dom]; exact HZD.out
        have hsq := HJ.out.1.tt.1.strs _ hzd
        have k0 : wr.cell? ⟨(G id).sb, 0, none⟩ = some (ptrO (G id).ob (S'.m id).out) := hsq.blk.cellAt 0 rfl
        have k4 : wr.cell? ⟨(G id).sb, 4, none⟩ = some (.bool (S'.m id).reset) := hsq.blk.cellAt 4 rfl
        cases ho : (S'.m id).out with
        | none =>
         rw [ho] at k0
         unfold ptrO at k0
         clear ho hsq hzd k4
         go_wp2_with fail
         go_roundw
         case rel => exact ⟨i + 1, S', by have := HIN.out; omega, by simp, Lib.hid ⟨HJ.out.1, HJ.out.2.1⟩⟩
         case measure => have := HIN.out; simp [intOf]; omega
        | some o =>
         rw [ho] at k0
         unfold ptrO at k0
         cases hrs : (S'.m id).reset with
         | true =>
          rw [hrs] at k4
          clear ho hsq hzd hrs
          go_wp2_with fail
          go_roundw
          case rel => exact ⟨i + 1, S', by have := HIN.out; omega, by simp, Lib.hid ⟨HJ.out.1, HJ.out.2.1⟩⟩
          case measure => have := HIN.out; simp [intOf]; omega
         | false =>
          rw [hrs] at k4
          have cr : wr.cell? ⟨rb, 0, none⟩ = some (.int .i64 room) := HJ.out.1.r.cellAt 0 rfl
          have hwl := wrap_low HNEG.out.1 HNEG.out.2
          generalize hxw : IntKind.i64.wrap (room - 20) = xw at hwl
          by_cases h21 : xw < 1
          ·have co : wr.cell? ⟨rb + 1, 0, none⟩ = some (.slice none 0 0) := HJ.out.1.o.cellAt 0 rfl
           have mm : min xw 200 = xw := by omega
           have t1 : decide (xw < 1) = true := decide_eq_true h21
           clear ho hsq hzd hrs h21 hwl
           go_wp2_with fail
           refine bodyPost_ret (results_tmp rfl _ _ _) rfl ?_
           first | exact ⟨S', rb, rfl, HJ.out.1⟩ | exact ⟨rfl, S', rb, HJ.out.1⟩
          ·obtain ⟨many, hmany⟩ : ∃ many : Nat, 200 = many := ⟨_, rfl⟩
           have mm : min xw 200 = (many : Int) := by omega
           have t1 : decide ((many : Int) < 1) = false := decide_eq_false (by omega)
           have HNX := Lib.hid (next_any HJ.out.1.tt.1 hzd ho HJ.out.1.inv.small many (by omega) (by omega))
           have HIV := Lib.hid (HJ.out.1.inv.next hzd ho many)
           have HSU := Lib.hid (TS_next tb mb G S' ho many)
           have HST := Lib.hid (Star.next HJ.out.1.star id o many hzd ho)
           have HR16 : Hid ((nextF' S' id o many).rs = [] ∧ (nextF' S' id o many).t.length = 16 ∧ (nextF' S' id o many).k = 8 ∧ ((nextF' S' id o many).d.length : Int) ≤ 1000) := Lib.hid ⟨rfl, rfl, rfl, by have := nextB_len (nextO1 S' (S'.m id) o many) many; show ((nextB (nextO1 S' (S'.m id) o many) many).length : Int) ≤ 1000; omega⟩
           have HLF := Lib.hid (left_nextT (T := S') ho (many := many) (by omega))
           cases hok : (dueO (nextO1 S' (S'.m id) o many) many).ok with
           | false =>
            have HOK := Lib.hid hok
            clear ho hsq hzd hrs h21 hwl hmany hok
            go_wp2_with (first
             | (go_at_call 37; (with_reducible refine HNX.out.mono ?_); rintro e w5 ⟨vd, he, hvd, htt⟩; rw [HOK.out] at he; subst he; obtain ⟨da, dc, rfl, -⟩ := Sl.val hvd.byts; have HVD := Lib.hid hvd; have HC5 := Lib.hid (HJ.out.1.table htt HIV.out rfl HSU.out HST.out); have HU5 := Lib.hid (HJ.out.2.1.kept htt.2.2 (fun g hg e => by have h1 := (OwnU.lt HJ.out.2.1 g hg).1; have h2 := HJ.out.1.lt g e; have h3 := HRB.out; have h4 := HW0.out; omega)); have HSZW : Hid (w.heap.size ≤ wr.heap.size) := Lib.hid HJ.out.1.tt.2.2.size; clear hvd htt)
             | ((with_reducible refine wpList_store_blk ?_ 52 (.tmp 15) (.tmp 121) ?_ w5.heap.size ?_ frZx (frC (nextF' S' id o many) (.slice da (nextF' S' id o many).d.length dc) nilS) ?_ 52 (Blk.new _ _ _) (sizeFrR _ _ _ HR16.out.2.1) (frC_size _ _ _ HR16.out.2.1).symm (frC_one1 _ _ _ _) ?_); (iterate 4 exact rfl); intro w9 hB9 hM9; go_loud (have HB9 := Lib.hid hB9; have HMW9 : Hid (Mod (fun _ => False) w5 w9) := Lib.hid (((Mod.refl (fun _ => False) w5).alloc _).trans' hM9 (fun k hk e => by omega)); have HX := Lib.hid (And.intro (HC5.out.still HMW9.out) (And.intro (HU5.out.kept HMW9.out (fun _ _ h => h)) trivial)); have HVD9 := Lib.hid ((HVD.out.keptM HMW9.out (fun _ _ h => h)).base HSZW.out); have HFIT := Lib.hid (fit_neg (ob := rb + 1) (HX.out.1.r.cellAt 0 rfl) HNEG.out.1 HX.out.1.tabs (f := nextF' S' id o many) (strm_frv HVD9.out HR16.out.1 HR16.out.2.1 (by have := HR16.out.2.2.2; omega)) (by rw [HR16.out.1]; decide) (by rw [HR16.out.2.2.1]; exact okKey_small (by decide) (by decide)) (by intro x hx; rw [HR16.out.1] at hx; cases hx)); clear hB9 hM9))
             | fail)
            go_roundw
            case rel => exact ⟨i + 1, _, by have := HIN.out; omega, by simp, Lib.hid ⟨HX.out.1, HX.out.2.1⟩⟩
            case measure => have := HIN.out; simp [intOf]; omega
           | true =>
            have HOK := Lib.hid hok
            clear ho hsq hzd hrs h21 hwl hmany hok
            go_wp2_with (first
             | (go_at_call 37; (with_reducible refine HNX.out.mono ?_); rintro e w5 ⟨vd, he, hvd, htt⟩; rw [HOK.out] at he; subst he; obtain ⟨da, dc, rfl, -⟩ := Sl.val hvd.byts; have HVD := Lib.hid hvd; have HC5 := Lib.hid (HJ.out.1.table htt HIV.out rfl HSU.out HST.out); have HU5 := Lib.hid (HJ.out.2.1.kept htt.2.2 (fun g hg e => by have h1 := (OwnU.lt HJ.out.2.1 g hg).1; have h2 := HJ.out.1.lt g e; have h3 := HRB.out; have h4 := HW0.out; omega)); have HSZW : Hid (w.heap.size ≤ wr.heap.size) := Lib.hid HJ.out.1.tt.2.2.size; clear hvd htt)
             | ((with_reducible refine wpList_store_blk ?_ 52 (.tmp 15) (.tmp 121) ?_ w5.heap.size ?_ frZx (frC (nextF' S' id o many) (.slice da (nextF' S' id o many).d.length dc) nilS) ?_ 52 (Blk.new _ _ _) (sizeFrR _ _ _ HR16.out.2.1) (frC_size _ _ _ HR16.out.2.1).symm (frC_one1 _ _ _ _) ?_); (iterate 4 exact rfl); intro w9 hB9 hM9; go_loud (have HB9 := Lib.hid hB9; have HMW9 : Hid (Mod (fun _ => False) w5 w9) := Lib.hid (((Mod.refl (fun _ => False) w5).alloc _).trans' hM9 (fun k hk e => by omega)); have HX := Lib.hid (And.intro (HC5.out.still HMW9.out) (And.intro (HU5.out.kept HMW9.out (fun _ _ h => h)) trivial)); have HVD9 := Lib.hid ((HVD.out.keptM HMW9.out (fun _ _ h => h)).base HSZW.out); have HFIT := Lib.hid (fit_neg (ob := rb + 1) (HX.out.1.r.cellAt 0 rfl) HNEG.out.1 HX.out.1.tabs (f := nextF' S' id o many) (strm_frv HVD9.out HR16.out.1 HR16.out.2.1 (by have := HR16.out.2.2.2; omega)) (by rw [HR16.out.1]; decide) (by rw [HR16.out.2.2.1]; exact okKey_small (by decide) (by decide)) (by intro x hx; rw [HR16.out.1] at hx; cases hx)); clear hB9 hM9))
             | ((with_reducible refine wpList_load_blk ?_ 52 (.tmp 15) ?_ w5.heap.size ?_ (frC (nextF' S' id o many) (.slice da (nextF' S' id o many).d.length dc) nilS) 52 _ HB9.out Tryz.underlying52 ?_ (sizeFrR _ _ _ HR16.out.2.1) ?_); (iterate 4 exact rfl))
             | (go_at_call 34; (with_reducible refine HFIT.out.mono ?_); rintro e w6 ⟨rfl, hM6⟩; have HM6 := Lib.hid hM6; clear hM6)
             | fail)
            have hlf := HLF.out HOK.out
            go_roundg (leftS ((nextT S' id o many).m id))
            case rel => exact ⟨_, _, rfl, Lib.hid ⟨HX.out.1.still HM6.out, HX.out.2.1.kept HM6.out (fun _ _ h => h), Nat.le_refl _⟩⟩
            case measure =>
             have := HJ.out.2.2
             omega
      ·have ei : n = i := by omega
       subst ei
       have tl3 : decide ((n : Int) < (n : Int)) = false := decide_eq_false (by omega)
       have co : wr.cell? ⟨rb + 1, 0, none⟩ = some (.slice none 0 0) := HC.out.1.o.cellAt 0 rfl
       go_wp2_with fail
       refine bodyPost_ret (results_tmp rfl _ _ _) rfl ?_
       exact ⟨S, rb, rfl, HC.out.1⟩
end Go.Proofs.YtolgeghdkoodnaaGreatDoor
set_option maxRecDepth 100000
namespace Go.Proofs.YtolgeghdkoodnaaGreatDoor
open Go.RowKit Go.Maps
theorem Star.pair {A S B : Tb} {pa pb : Nat} {ia ib : List Int} {ra rb : Int → List UInt8} {N : Kn} (hs : Star A S) (h : Pair A B pa pb ia ib ra rb) (hc : Cnt A N) : Pair S B pa pb ia ib ra rb ∧ Cnt S N := by
 induction hs with
 | refl => exact ⟨h, hc⟩
 | next _ id o many hz ho ih => exact ⟨ih.1.next hz ho many, ih.2.next id o many ho⟩
 | tell _ ih => exact ⟨ih.1.tell false, ih.2.tell false⟩
theorem framesA2_s {W w : World} (l : List Th) {tb mb : Nat} {G : Int → SM} {A B : Tb} {m : List Th} (h : At W w (l ++ tabTh W.heap.size tb mb G A :: m)) (hT : Tabs W) {pa pb : Nat} {ia ib : List Int} {ra rb : Int → List UInt8} {N : Kn} (hp : Pair A B pa pb ia ib ra rb) (hc : Cnt A N) (room : Int) (hr : -9223372036854775808 ≤ room ∧ room ≤ 3000) :
  Calls Tryz.prog 15 #[.pointer (some ⟨tb, 0, none⟩), .int .i64 room] w fun e w' => ∃ a c D E L A', e = .returned (.slice a (L : List Fr).length c) ∧ At W w' (frsTh D E (.slice a L.length c) L :: (l ++ tabTh W.heap.size tb mb G A' :: m)) ∧ Pair A' B pa pb ia ib ra rb ∧ Cnt A' N ∧ (∀ f ∈ L, FAny A' ia ib f) ∧ (L.length : Int) ≤ 90000 := by
 by_cases hn : 0 ≤ room
 ·refine (frames_s l h hT hp.ga.1 room ⟨hn, by omega⟩).mono ?_
  rintro e w' ⟨a, c, D, E, rfl, hs, -, -, hl⟩
  have ho := hp.frames hc room
  exact ⟨a, c, D, E, _, _, rfl, hs, ho.pair, ho.cnt, ho.all, hl⟩
 ·refine (framesN_any (h.get l) hp.ga.1 (h.tabs hT) (tabs_lt hT) room ⟨by omega, hr.1⟩).mono ?_
  rintro e w' ⟨S, rb, rfl, hf⟩
  obtain ⟨h1, h2⟩ := hf.star.pair hp hc
  refine ⟨none, 0, w'.heap.size, w'.heap.size, [], S, rfl, ?_, h1, h2, fun f hf => (by cases hf), by simp⟩
  exact h.turnNew l (o' := tabTh W.heap.size tb mb G S) hf.tt.1 hf.sub hf.tt.2.2 (frsTh _ _ _ _) (OwnFI.nil _ _ _) (fun k hk => by have : w'.heap.size ≤ k ∧ k < w'.heap.size := hk; omega)
theorem readA_s {W w : World} (l : List Th) {tb mb : Nat} {G : Int → SM} {A B : Tb} {m : List Th} (h : At W w (l ++ tabTh W.heap.size tb mb G B :: m)) {pa pb : Nat} {ia ib : List Int} {ra rb : Int → List UInt8} {N : Kn} (hp : Pair A B pa pb ia ib ra rb) (hc : Cnt B N) (hN : N.N ≤ 1000000) {id : Nat} (hz : (id : Int) ∈ ia) (n : Int) (hn : n ≤ 3000) :
  Calls Tryz.prog 20 #[.pointer (some ⟨tb, 0, none⟩), .int .u64 (id : Int), .int .i64 n] w fun e w' => ∃ a c x y, e = .returned (.tuple #[.slice a (rdB B id n).length c, x, y]) ∧ At W w' (rowTh W.heap.size (.slice a (rdB B id n).length c) (rdB B id n) :: (l ++ tabTh W.heap.size tb mb G (rdT B id n) :: m)) ∧ Pair A (rdT B id n) pa pb ia ib (updR ra id (ra id ++ rdB B id n)) rb ∧ Cnt (rdT B id n) { N with N := N.N + 2000 } := by
 have q : TBuf W.heap.size w tb mb G B := h.get l
 have hi := hp.ga.1.ids _ (hp.ab.sub _ hz)
 have h1 := hc.1
 have h2 := hc.2.1 id
 refine (read_s l h (id := id) (by unfold okId; omega) n (by omega) (by omega) (by omega) (TS_read _ _ _ _ _ _)).mono ?_
 rintro e w' ⟨a, c, rfl, hs⟩
 exact ⟨a, c, _, _, rfl, hs, (hp.read hz n (by omega) q.num.2.2.1).1, hc.read id n (hp.readLen hz n)⟩
theorem Pair.begins {A B : Tb} {pa pb : Nat} {ia ib : List Int} {ra rb : Int → List UInt8} (h : Pair A B pa pb ia ib ra rb) {K : Kn} (hc : Cnt A K) {z : Int} (hz : z ∈ ia) (hk : z ∈ K.ia) : ra z = (K.wr z).take (ra z).length ∧ (ra z).length ≤ (K.wr z).length ∧ (K.wr z).length ≤ 2000 := by
 obtain ⟨-, o, ho, hb⟩ := hc.2.2 z hk
 obtain ⟨o2, k, l2, l3⟩ := h.ab.link z hz
 have e : o2 = o := by have := k.out; rw [ho] at this; exact (Option.some.inj this).symm
 subst e
 rw [← hb]
 by_cases hd : z ∈ B.dom
 ·obtain ⟨-, r, -, -, a4, -⟩ := l2 hd
  have hl : (ra z).length = min r.read o2.b.length := by rw [a4.rd, List.length_take]
  refine ⟨?_, by omega, k.most⟩
  rw [hl, a4.rd]
  have h1 := a4.le
  have h2 := a4.top
  have h3 := k.glen
  rw [Nat.min_eq_left (by omega)]
 ·rw [(l3 hd).1]
  exact ⟨rfl, Nat.zero_le _, k.most⟩
end Go.Proofs.YtolgeghdkoodnaaGreatDoor
set_option maxRecDepth 100000
namespace Go.Proofs.YtolgeghdkoodnaaGreatDoor
open Go.RowKit Go.Maps
def upd2 {α : Type} (f : Nat → α) (i : Nat) (a : α) : Nat → α := fun j => if j = i then a else f j
theorem upd2_same {α : Type} (f : Nat → α) (i : Nat) (a : α) : upd2 f i a i = a := if_pos rfl
theorem upd2_other {α : Type} (f : Nat → α) {i j : Nat} (a : α) (h : j ≠ i) : upd2 f i a j = f j := if_neg h
def rows6 (B : Nat) (V : Nat → Value) (L : Nat → List UInt8) : List Th := [rowTh B (V 0) (L 0), rowTh B (V 1) (L 1), rowTh B (V 2) (L 2), rowTh B (V 3) (L 3), rowTh B (V 4) (L 4), rowTh B (V 5) (L 5)]
theorem At.row6 {W w w' : World} (l : List Th) {V : Nat → Value} {L : Nat → List UInt8} {m : List Th} (h : At W w (l ++ (rows6 W.heap.size V L ++ m))) {j : Nat} (hj : j < 6) {v' : Value} {l' : List UInt8} (hP : OwnB w' W.heap.size v' l') (hR : ∀ k, v'.ownBlock = some k → (V j).ownBlock = some k ∨ (w.heap.size ≤ k ∧ k < w'.heap.size)) (hM : Mod (fun k => (V j).ownBlock = some k) w w') : At W w' (l ++ (rows6 W.heap.size (upd2 V j v') (upd2 L j l') ++ m)) := by
 have key : ∀ (a b : List Th), At W w (l ++ (a ++ rowTh W.heap.size (V j) (L j) :: b ++ m)) → At W w' (l ++ (a ++ rowTh W.heap.size v' l' :: b ++ m)) := fun a b h => by
  have e : ∀ o : Th, l ++ (a ++ o :: b ++ m) = (l ++ a) ++ o :: (b ++ m) := fun o => by simp
  rw [e] at h ⊢
  exact h.turn (l ++ a) (o' := rowTh W.heap.size v' l') hP hR hM
 obtain rfl | rfl | rfl | rfl | rfl | rfl : j = 0 ∨ j = 1 ∨ j = 2 ∨ j = 3 ∨ j = 4 ∨ j = 5 := by omega
 ·exact key [] [_, _, _, _, _] h
 ·exact key [_] [_, _, _, _] h
 ·exact key [_, _] [_, _, _] h
 ·exact key [_, _, _] [_, _] h
 ·exact key [_, _, _, _] [_] h
 ·exact key [_, _, _, _, _] [] h
theorem At.row6_get {W w : World} (l : List Th) {V : Nat → Value} {L : Nat → List UInt8} {m : List Th} (h : At W w (l ++ (rows6 W.heap.size V L ++ m))) {j : Nat} (hj : j < 6) : OwnB w W.heap.size (V j) (L j) := by
 have hm : rowTh W.heap.size (V j) (L j) ∈ l ++ (rows6 W.heap.size V L ++ m) := by
  refine List.mem_append.2 (.inr (List.mem_append.2 (.inl ?_)))
  unfold rows6
  obtain rfl | rfl | rfl | rfl | rfl | rfl : j = 0 ∨ j = 1 ∨ j = 2 ∨ j = 3 ∨ j = 4 ∨ j = 5 := by omega
  all_goals simp
 exact (h.1.mem _ hm).1
def idTh (B : Nat) (v : Value) (l : List Int) : Th := ⟨fun w => OwnU w B v l, fun k => v.ownBlock = some k, fun _ _ _ h hM hS => h.kept hM (fun g hg => hS g hg)⟩
structure AcMem where
 bx : Nat
 tb : Nat → Nat
 mb : Nat → Nat
 b8 : Nat
 b9 : Nat
 b10 : Nat
 V8 : Nat → Value
 V9 : Nat → Value
 VI : Nat → Value
def gridC (V : Nat → Value) : Array Value := #[V 0, V 1, V 2, V 3, V 4, V 5]
def acRest (B : Nat) (M : AcMem) (L8 L9 : Nat → List UInt8) (ids : Nat → List Int) : List Th :=
 blkTh M.bx #[.pointer (some ⟨M.tb 0, 0, none⟩), .pointer (some ⟨M.tb 1, 0, none⟩)] 24 :: blkTh M.b8 (gridC M.V8) 64 :: (rows6 B M.V8 L8 ++ (blkTh M.b9 (gridC M.V9) 64 :: (rows6 B M.V9 L9 ++ [blkTh M.b10 #[M.VI 0, M.VI 1] 65, idTh B (M.VI 0) (ids 0), idTh B (M.VI 1) (ids 1)])))
def AcAt (W w : World) (ex : List Th) (M : AcMem) (T : Nat → Tb) (L8 L9 : Nat → List UInt8) (ids : Nat → List Int) : Prop :=
 ∃ G : Nat → Int → SM, At W w (ex ++ (tabTh W.heap.size (M.tb 0) (M.mb 0) (G 0) (T 0) :: tabTh W.heap.size (M.tb 1) (M.mb 1) (G 1) (T 1) :: acRest W.heap.size M L8 L9 ids))
theorem AcAt.tab {W w : World} {ex : List Th} {M : AcMem} {T : Nat → Tb} {L8 L9 : Nat → List UInt8} {ids : Nat → List Int} (h : AcAt W w ex M T L8 L9 ids) {v : Nat} (hv : v < 2) :
  ∃ l m G, At W w (l ++ tabTh W.heap.size (M.tb v) (M.mb v) G (T v) :: m) ∧ ∀ (e : List Th) w' T' G', At W w' (e ++ (l ++ tabTh W.heap.size (M.tb v) (M.mb v) G' T' :: m)) → AcAt W w' (e ++ ex) M (upd2 T v T') L8 L9 ids := by
 obtain ⟨G, h⟩ := h
 obtain rfl | rfl : v = 0 ∨ v = 1 := by omega
 ·refine ⟨ex, _, _, h, fun e w' T' G' h2 => ⟨upd2 G 0 G', ?_⟩⟩
  rw [List.append_assoc]
  exact h2
 ·have e1 : ∀ (a b : Th) (r : List Th), ex ++ (a :: b :: r) = (ex ++ [a]) ++ b :: r := fun a b r => by simp
  refine ⟨ex ++ [tabTh W.heap.size (M.tb 0) (M.mb 0) (G 0) (T 0)], acRest W.heap.size M L8 L9 ids, G 1, by rw [← e1]; exact h, fun e w' T' G' h2 => ⟨upd2 G 1 G', ?_⟩⟩
  rw [← e1] at h2
  rw [List.append_assoc]
  exact h2
theorem AcAt.still {W w w' : World} {ex : List Th} {M : AcMem} {T : Nat → Tb} {L8 L9 : Nat → List UInt8} {ids : Nat → List Int} (h : AcAt W w ex M T L8 L9 ids) (hM : Mod (fun _ => False) w w') : AcAt W w' ex M T L8 L9 ids := by
 obtain ⟨G, h⟩ := h
 exact ⟨G, h.still hM⟩
structure AcI (N : Nat) (pd : Nat → Nat) (ids : Nat → List Int) (T : Nat → Tb) (wr rd : Nat → Int → List UInt8) : Prop where
 pair : ∀ v, v < 2 → Pair (T v) (T (1 - v)) (pd v) (pd (1 - v)) (ids v) (ids (1 - v)) (rd v) (rd (1 - v))
 cnt : ∀ v, v < 2 → Cnt (T v) ⟨N, ids v, wr v⟩
theorem AcI.mk2 {N : Nat} {pd : Nat → Nat} {ids : Nat → List Int} {T : Nat → Tb} {wr rd : Nat → Int → List UInt8} {v : Nat} (hv : v < 2) (h : Pair (T v) (T (1 - v)) (pd v) (pd (1 - v)) (ids v) (ids (1 - v)) (rd v) (rd (1 - v))) (c1 : Cnt (T v) ⟨N, ids v, wr v⟩) (c2 : Cnt (T (1 - v)) ⟨N, ids (1 - v), wr (1 - v)⟩) : AcI N pd ids T wr rd := by
 refine ⟨fun u hu => ?_, fun u hu => ?_⟩
 ·by_cases e : u = v
  ·subst e; exact h
  ·obtain rfl : u = 1 - v := by omega
   have e2 : 1 - (1 - v) = v := by omega
   rw [e2]
   exact h.swap
 ·by_cases e : u = v
  ·subst e; exact c1
  ·obtain rfl : u = 1 - v := by omega
   exact c2
theorem Cnt.more {T : Tb} {N N' : Nat} {ia : List Int} {wr : Int → List UInt8} (h : Cnt T ⟨N, ia, wr⟩) (hN : N ≤ N') : Cnt T ⟨N', ia, wr⟩ := ⟨Nat.le_trans h.1 hN, fun y => Nat.le_trans (h.2.1 y) hN, h.2.2⟩
theorem not_self {v : Nat} (hv : v < 2) : 1 - v ≠ v := by omega
theorem AcI.at1 {N : Nat} {pd : Nat → Nat} {ids : Nat → List Int} {T : Nat → Tb} {wr rd : Nat → Int → List UInt8} (h : AcI N pd ids T wr rd) {v : Nat} (hv : v < 2) {T' : Tb} {wr' : Int → List UInt8} (hp : Pair T' (T (1 - v)) (pd v) (pd (1 - v)) (ids v) (ids (1 - v)) (rd v) (rd (1 - v))) (hc : Cnt T' ⟨N, ids v, wr'⟩) : AcI N pd ids (upd2 T v T') (upd2 wr v wr') rd := by
 refine .mk2 hv ?_ ?_ ?_
 ·rw [upd2_same, upd2_other _ _ (not_self hv)]; exact hp
 ·rw [upd2_same, upd2_same]; exact hc
 ·rw [upd2_other _ _ (not_self hv), upd2_other _ _ (not_self hv)]; exact h.cnt _ (by omega)
theorem AcI.at2 {N N' : Nat} {pd : Nat → Nat} {ids : Nat → List Int} {T : Nat → Tb} {wr rd : Nat → Int → List UInt8} (h : AcI N pd ids T wr rd) {v : Nat} (hv : v < 2) (hN : N ≤ N') {T' : Tb} {rd' : Int → List UInt8} (hp : Pair (T v) T' (pd v) (pd (1 - v)) (ids v) (ids (1 - v)) rd' (rd (1 - v))) (hc : Cnt T' ⟨N', ids (1 - v), wr (1 - v)⟩) : AcI N' pd ids (upd2 T (1 - v) T') wr (upd2 rd v rd') := by
 refine .mk2 hv ?_ ?_ ?_
 ·rw [upd2_same, upd2_same, upd2_other T _ (fun e => not_self hv e.symm), upd2_other rd _ (not_self hv)]; exact hp
 ·rw [upd2_other _ _ (fun e => not_self hv e.symm)]; exact (h.cnt v hv).more hN
 ·rw [upd2_same]; exact hc
theorem upd2_self {α : Type} (f : Nat → α) (i : Nat) : upd2 f i (f i) = f := by
 funext j
 unfold upd2
 split
 ·rename_i e; rw [e]
 ·rfl
end Go.Proofs.YtolgeghdkoodnaaGreatDoor
set_option maxRecDepth 100000
namespace Go.Proofs.YtolgeghdkoodnaaGreatDoor
open Go.RowKit Go.Maps
theorem writeN_le (o : OB) (data : List UInt8) : writeN o data ≤ data.length := by unfold writeN; split <;> omega
theorem wrN_le (T : Tb) (id : Nat) (data : List UInt8) : wrN T id data ≤ data.length := by
 unfold wrN
 split
 ·cases (T.m id).out with
  | none => exact Nat.zero_le _
  | some o => exact writeN_le o data
 ·exact Nat.zero_le _
theorem AcI.okId {N : Nat} {pd : Nat → Nat} {ids : Nat → List Int} {T : Nat → Tb} {wr rd : Nat → Int → List UInt8} (I : AcI N pd ids T wr rd) {v : Nat} (hv : v < 2) {id : Nat} (hz : (id : Int) ∈ ids v) : okId id := by
 have h := (I.pair v hv).ga.1.ids _ ((I.pair v hv).ab.sub _ hz)
 unfold Go.Proofs.YtolgeghdkoodnaaGreatDoor.okId
 omega
theorem acWrite_s {W w : World} {ex : List Th} {M : AcMem} {N : Nat} {pd : Nat → Nat} {T : Nat → Tb} {L8 L9 : Nat → List UInt8} {ids : Nat → List Int} {wr rd : Nat → Int → List UInt8} (h : AcAt W w ex M T L8 L9 ids) (I : AcI N pd ids T wr rd) {v : Nat} (hv : v < 2) {id : Nat} (hz : (id : Int) ∈ ids v) {dv : Value} {data : List UInt8} (hd : Byts w dv data) (hdl : data.length ≤ 300) :
  Calls Tryz.prog 14 #[.pointer (some ⟨M.tb v, 0, none⟩), .int .u64 (id : Int), dv] w fun e w' => ∃ T' n x, e = .returned (.tuple #[.int .i64 ((n : Nat) : Int), x]) ∧ n ≤ data.length ∧ AcAt W w' ex M T' L8 L9 ids ∧ AcI N pd ids T' (upd2 wr v (updR (wr v) id (wr v id ++ data.take n))) rd := by
 obtain ⟨l, m, G, h1, hb⟩ := h.tab hv
 refine (write_s l h1 (I.okId hv hz) hd (by omega)).mono ?_
 rintro e w' ⟨rfl, G', hs⟩
 exact ⟨_, _, _, rfl, wrN_le _ _ _, hb [] _ _ _ hs, I.at1 hv ((I.pair v hv).write hz data) ((I.cnt v hv).write id data hz)⟩
theorem acFinish_s {W w : World} {ex : List Th} {M : AcMem} {N : Nat} {pd : Nat → Nat} {T : Nat → Tb} {L8 L9 : Nat → List UInt8} {ids : Nat → List Int} {wr rd : Nat → Int → List UInt8} (h : AcAt W w ex M T L8 L9 ids) (I : AcI N pd ids T wr rd) {v : Nat} (hv : v < 2) {id : Nat} (hz : (id : Int) ∈ ids v) :
  Calls Tryz.prog 22 #[.pointer (some ⟨M.tb v, 0, none⟩), .int .u64 (id : Int)] w fun e w' => ∃ T' x, e = .returned x ∧ AcAt W w' ex M T' L8 L9 ids ∧ AcI N pd ids T' wr rd := by
 obtain ⟨l, m, G, h1, hb⟩ := h.tab hv
 refine (finish_s l h1 (I.okId hv hz)).mono ?_
 rintro e w' ⟨⟨x, rfl⟩, G', hs⟩
 have h2 := I.at1 hv ((I.pair v hv).finish hz) ((I.cnt v hv).finish id)
 rw [upd2_self] at h2
 exact ⟨_, x, rfl, hb [] _ _ _ hs, h2⟩
theorem acRead_s {W w : World} {ex : List Th} {M : AcMem} {N : Nat} {pd : Nat → Nat} {T : Nat → Tb} {L8 L9 : Nat → List UInt8} {ids : Nat → List Int} {wr rd : Nat → Int → List UInt8} (h : AcAt W w ex M T L8 L9 ids) (I : AcI N pd ids T wr rd) (hN : N ≤ 1000000) {v : Nat} (hv : v < 2) {id : Nat} (hz : (id : Int) ∈ ids v) (n : Int) (hn : n ≤ 3000) :
  Calls Tryz.prog 20 #[.pointer (some ⟨M.tb (1 - v), 0, none⟩), .int .u64 (id : Int), .int .i64 n] w fun e w' => ∃ T' a c x y l, e = .returned (.tuple #[.slice a (l : List UInt8).length c, x, y]) ∧ AcAt W w' (rowTh W.heap.size (.slice a l.length c) l :: ex) M T' L8 L9 ids ∧ AcI (N + 2000) pd ids T' wr (upd2 rd v (updR (rd v) id (rd v id ++ l))) ∧ l.length ≤ 2000 := by
 have hv2 : 1 - v < 2 := by omega
 obtain ⟨l, m, G, h1, hb⟩ := h.tab hv2
 refine (readA_s l h1 (I.pair v hv) (I.cnt _ hv2) hN hz n hn).mono ?_
 rintro e w' ⟨a, c, x, y, rfl, hs, hp, hc⟩
 exact ⟨_, a, c, x, y, _, rfl, hb [_] _ _ _ hs, I.at2 hv (Nat.le_add_right _ _) hp hc, (I.pair v hv).readLen hz n⟩
theorem acFrames_s {W w : World} {ex : List Th} {M : AcMem} {N : Nat} {pd : Nat → Nat} {T : Nat → Tb} {L8 L9 : Nat → List UInt8} {ids : Nat → List Int} {wr rd : Nat → Int → List UInt8} (h : AcAt W w ex M T L8 L9 ids) (hT : Tabs W) (I : AcI N pd ids T wr rd) {v : Nat} (hv : v < 2) (room : Int) (hr : -9223372036854775808 ≤ room ∧ room ≤ 3000) :
  Calls Tryz.prog 15 #[.pointer (some ⟨M.tb v, 0, none⟩), .int .i64 room] w fun e w' => ∃ T' a c D E L, e = .returned (.slice a (L : List Fr).length c) ∧ AcAt W w' (frsTh D E (.slice a L.length c) L :: ex) M T' L8 L9 ids ∧ AcI N pd ids T' wr rd ∧ (∀ f ∈ L, FAny (T' v) (ids v) (ids (1 - v)) f) ∧ (L.length : Int) ≤ 90000 := by
 obtain ⟨l, m, G, h1, hb⟩ := h.tab hv
 refine (framesA2_s l h1 hT (I.pair v hv) (I.cnt v hv) room hr).mono ?_
 rintro e w' ⟨a, c, D, E, L, A', rfl, hs, hp, hc, hf, hl⟩
 have h2 := I.at1 hv hp hc
 rw [upd2_self] at h2
 exact ⟨_, a, c, D, E, L, rfl, hb [_] _ _ _ hs, h2, by rw [upd2_same]; exact hf, hl⟩
theorem acLost_s {W w : World} {ex : List Th} {M : AcMem} {N : Nat} {pd : Nat → Nat} {T : Nat → Tb} {L8 L9 : Nat → List UInt8} {ids : Nat → List Int} {wr rd : Nat → Int → List UInt8} (h : AcAt W w ex M T L8 L9 ids) (I : AcI N pd ids T wr rd) {v : Nat} (hv : v < 2) {f : Fr} (hf : FAny (T v) (ids v) (ids (1 - v)) f) {vd vr : Value} (hfv : FrV w f vd vr) :
  Calls Tryz.prog 23 #[.pointer (some ⟨M.tb v, 0, none⟩), .agg (frC f vd vr)] w fun e w' => ∃ T', e = .returned (.tuple #[]) ∧ AcAt W w' ex M T' L8 L9 ids ∧ AcI N pd ids T' wr rd ∧ ∀ g, FAny (T v) (ids v) (ids (1 - v)) g → FAny (T' v) (ids v) (ids (1 - v)) g := by
 obtain ⟨l, m, G, h1, hb⟩ := h.tab hv
 have hp := I.pair v hv
 have hl := FAny.len hp hf
 refine (lost_s l h1 hfv (FAny.id hp hf) (by omega) hf.k5).mono ?_
 rintro e w' ⟨rfl, G', hs⟩
 obtain ⟨p1, p2⟩ := hp.lost hf
 have h2 := I.at1 hv p1 ((I.cnt v hv).lost f)
 rw [upd2_self] at h2
 exact ⟨_, rfl, hb [] _ _ _ hs, h2, fun g hg => by rw [upd2_same]; exact p2 g hg⟩
theorem acAcked_s {W w : World} {ex : List Th} {M : AcMem} {N : Nat} {pd : Nat → Nat} {T : Nat → Tb} {L8 L9 : Nat → List UInt8} {ids : Nat → List Int} {wr rd : Nat → Int → List UInt8} (h : AcAt W w ex M T L8 L9 ids) (I : AcI N pd ids T wr rd) {v : Nat} (hv : v < 2) {f : Fr} (hf : FAny (T v) (ids v) (ids (1 - v)) f) {vd vr : Value} (hfv : FrV w f vd vr) :
  Calls Tryz.prog 24 #[.pointer (some ⟨M.tb v, 0, none⟩), .agg (frC f vd vr)] w fun e w' => ∃ T', e = .returned (.tuple #[]) ∧ AcAt W w' ex M T' L8 L9 ids ∧ AcI N pd ids T' wr rd ∧ ∀ g, FAny (T v) (ids v) (ids (1 - v)) g → FAny (T' v) (ids v) (ids (1 - v)) g := by
 obtain ⟨l, m, G, h1, hb⟩ := h.tab hv
 have hp := I.pair v hv
 have hl := FAny.len hp hf
 refine (acked_s l h1 hfv (FAny.id hp hf) (by omega)).mono ?_
 rintro e w' ⟨rfl, G', hs⟩
 obtain ⟨p1, p2⟩ := hp.acked hf
 have h2 := I.at1 hv p1 ((I.cnt v hv).acked f)
 rw [upd2_self] at h2
 exact ⟨_, rfl, hb [] _ _ _ hs, h2, fun g hg => by rw [upd2_same]; exact p2 g hg⟩
theorem acTake_s {W w : World} {ex : List Th} {M : AcMem} {N : Nat} {pd : Nat → Nat} {T : Nat → Tb} {L8 L9 : Nat → List UInt8} {ids : Nat → List Int} {wr rd : Nat → Int → List UInt8} (h : AcAt W w ex M T L8 L9 ids) (I : AcI N pd ids T wr rd) {v : Nat} (hv : v < 2) {f : Fr} (hf : FAny (T v) (ids v) (ids (1 - v)) f) {vd vr : Value} (hfv : FrV w f vd vr) :
  Calls Tryz.prog 17 #[.pointer (some ⟨M.tb (1 - v), 0, none⟩), .agg (frC f vd vr)] w fun e w' => ∃ T', e = .returned (.int .i64 0) ∧ AcAt W w' ex M T' L8 L9 ids ∧ AcI N pd ids T' wr rd ∧ T' v = T v := by
 have hv2 : 1 - v < 2 := by omega
 obtain ⟨l, m, G, h1, hb⟩ := h.tab hv2
 have hp := I.pair v hv
 have q : TBuf W.heap.size w (M.tb (1 - v)) (M.mb (1 - v)) G (T (1 - v)) := h1.get l
 refine (takeA_s l h1 hp hf hfv).mono ?_
 rintro e w' ⟨rfl, G', hs⟩
 have h2 := I.at2 hv (Nat.le_refl _) (rd' := rd v) (hp.take q.num.2.2.1 hf) ((I.cnt _ hv2).take f)
 rw [upd2_self] at h2
 exact ⟨_, rfl, hb [] _ _ _ hs, h2, upd2_other _ _ (fun e => not_self hv e.symm)⟩
end Go.Proofs.YtolgeghdkoodnaaGreatDoor
set_option maxRecDepth 100000
namespace Go.Proofs.YtolgeghdkoodnaaGreatDoor
open Go.RowKit Go.Maps
theorem Side.perm {B : Nat} {w : World} {l l' : List Th} (hp : l.Perm l') : Side B w l → Side B w l' := by
 induction hp with
 | nil => exact fun h => h
 | cons x hp ih => exact fun h => ⟨h.1, fun p hp2 => h.2.1 p (hp.mem_iff.2 hp2), ih h.2.2⟩
 | swap x y l => exact fun h => h.swap
 | trans _ _ ih1 ih2 => exact fun h => ih2 (ih1 h)
theorem At.perm {W w : World} {l l' : List Th} (h : At W w l) (hp : l.Perm l') : At W w l' := ⟨h.1.perm hp, h.2⟩
theorem At.none {W w : World} {l : List Th} (h : At W w l) (o : Th) (hP : o.P w) (hR : ∀ k, ¬ o.R k) : At W w (o :: l) := h.push (Mod.refl _ _) o hP (fun k hk => absurd hk (hR k))
def nil3 : Nat → Value := fun _ => .slice Option.none 0 0
theorem At.rows {W w : World} {l : List Th} (h : At W w l) : At W w (rows6 W.heap.size nil3 (fun _ => []) ++ l) := by
 have hr : ∀ {l : List Th}, At W w l → At W w (rowTh W.heap.size (.slice Option.none 0 0) [] :: l) := fun h => h.none _ (OwnB.nil _ _) (fun k hk => by cases hk)
 exact hr (hr (hr (hr (hr (hr h)))))
theorem acStart {W w : World} {ta ma tb mb bx : Nat} {Ga Gb : Int → SM} {A B : Tb} {o1 o2 : Th} (h : At W w [blkTh bx #[.pointer (some ⟨ta, 0, none⟩), .pointer (some ⟨tb, 0, none⟩)] 24, tabTh W.heap.size tb mb Gb B, tabTh W.heap.size ta ma Ga A, o1, o2]) :
  AcAt W (((w.alloc (.cells (gridC nil3) 64)).alloc (.cells (gridC nil3) 64)).alloc (.cells #[nil3 0, nil3 1] 65)) [o2, o1] ⟨bx, fun v => if v = 0 then ta else tb, fun v => if v = 0 then ma else mb, w.heap.size, w.heap.size + 1, w.heap.size + 1 + 1, nil3, nil3, nil3⟩ (fun v => if v = 0 then A else B) (fun _ => []) (fun _ => []) (fun _ => []) := by
 have b2 := Blk.new (w.alloc (.cells (gridC nil3) 64)) (gridC nil3) 64
 have b3 := Blk.new ((w.alloc (.cells (gridC nil3) 64)).alloc (.cells (gridC nil3) 64)) #[nil3 0, nil3 1] 65
 rw [World.size_alloc] at b2
 rw [World.size_alloc, World.size_alloc] at b3
 have h1 := (h.push ((Mod.refl (fun _ => False) w).alloc _) (blkTh w.heap.size (gridC nil3) 64) (Blk.new _ _ _) (fun k hk => by have e : k = w.heap.size := hk; rw [World.size_alloc]; omega)).rows
 have h2 := (h1.push ((Mod.refl (fun _ => False) _).alloc _) (blkTh (w.heap.size + 1) (gridC nil3) 64) b2 (fun k hk => by have e : k = w.heap.size + 1 := hk; simp only [World.size_alloc]; omega)).rows
 have h3 := h2.push ((Mod.refl (fun _ => False) _).alloc _) (blkTh (w.heap.size + 1 + 1) #[nil3 0, nil3 1] 65) b3 (fun k hk => by have e : k = w.heap.size + 1 + 1 := hk; simp only [World.size_alloc]; omega)
 have h4 := h3.none (idTh W.heap.size (nil3 0) []) (World.ownsRow_nil _ _ _ _) (fun k hk => by cases hk)
 have h5 := h4.none (idTh W.heap.size (nil3 1) []) (World.ownsRow_nil _ _ _ _) (fun k hk => by cases hk)
 exact ⟨fun v => if v = 0 then Ga else Gb, h5.perm (List.reverse_perm _).symm⟩
structure AcO (p q : Pm) (ids : Nat → List Int) (T : Nat → Tb) (bd : Nat → Nat) : Prop where
 ini : ∀ v, v < 2 → Ini (decide (v = 0)) (if v = 0 then p else q) (if v = 0 then q else p) (T v)
 ids : ∀ v, v < 2 → ids v = (T v).dom
 len : ∀ v, v < 2 → (T v).dom.length ≤ bd v
theorem AcO.start {p q : Pm} (hp : mayB p = true) (hq : mayB q = true) : AcO p q (fun _ => []) (fun v => if v = 0 then peerT (newT true p) q else peerT (newT false q) p) (fun _ => 0) := by
 have d : ∀ {c : Bool} {p q : Pm}, mayB q = true → (peerT (newT c p) q).dom = [] := fun {c p q} hq => by
  have e : peerT (newT c p) q = maxT (limT { newT c p with data := max (newT c p).data q.d, stream := max (newT c p).stream q.s } (min q.n 40) 2) (max (newT c p).stream q.s) (newT c p).dom := by unfold peerT; rw [if_pos hq]
  have e2 : (newT c p).dom = [] := rfl
  rw [e, e2, maxT_nil]
  rfl
 refine ⟨fun v hv => ?_, fun v hv => ?_, fun v hv => ?_⟩ <;> obtain rfl | rfl : v = 0 ∨ v = 1 := by omega
 ·exact Ini.start true hq
 ·exact Ini.start false hp
 ·exact (d hq).symm
 ·exact (d hp).symm
 ·show (peerT (newT true p) q).dom.length ≤ 0; rw [d hq]; exact Nat.le_refl _
 ·show (peerT (newT false q) p).dom.length ≤ 0; rw [d hp]; exact Nat.le_refl _
theorem AcO.done {p q : Pm} {ids : Nat → List Int} {T : Nat → Tb} {bd : Nat → Nat} (h : AcO p q ids T bd) (hb : ∀ v, v < 2 → bd v ≤ 3) (hp : p.s ≤ 5000) (hq : q.s ≤ 5000) : AcI 0 (fun v => if v = 0 then p.d else q.d) ids T (fun _ _ => []) (fun _ _ => []) := by
 have h0 := h.ini 0 (by decide)
 have h1 := h.ini 1 (by decide)
 have l0 := h.len 0 (by decide)
 have l1 := h.len 1 (by decide)
 have b0 := hb 0 (by decide)
 have b1 := hb 1 (by decide)
 refine .mk2 (v := 0) (by decide) ?_ ?_ ?_
 ·have := Ini.pair h0 h1 (by omega) (by omega) hp hq
  rw [← h.ids 0 (by decide), ← h.ids 1 (by decide)] at this
  exact this
 ·have := h0.cnt; rw [← h.ids 0 (by decide)] at this; exact this
 ·have := h1.cnt; rw [← h.ids 1 (by decide)] at this; exact this
theorem acOpen_s {W w : World} {ex : List Th} {M : AcMem} {T : Nat → Tb} {L8 L9 : Nat → List UInt8} {ids : Nat → List Int} {p q : Pm} {bd : Nat → Nat} (h : AcAt W w ex M T L8 L9 ids) (O : AcO p q ids T bd) {v : Nat} (hv : v < 2) (b : Bool) (hb : bd v ≤ 2) :
  Calls Tryz.prog 11 #[.pointer (some ⟨M.tb v, 0, none⟩), .bool b] w fun e w' => ∃ T' z r, e = .returned (.tuple #[.int .u64 ((z : Nat) : Int), .int .i64 r]) ∧ AcAt W w' ex M T' L8 L9 ids ∧ ((r = 5 ∧ AcO p q ids T' bd) ∨ (r = 0 ∧ AcO p q (upd2 ids v (ids v ++ [(z : Int)])) T' (upd2 bd v (bd v + 1)))) := by
 obtain ⟨l, m, G, h1, hb2⟩ := h.tab hv
 have hi := O.ini v hv
 have hl := O.len v hv
 obtain ⟨h2, h3⟩ := hi.opened b
 refine (open_s l h1 b (hi.fresh b) (by omega)).mono ?_
 rintro e w' ⟨rfl, G', hs⟩
 refine ⟨_, _, _, rfl, hb2 [] _ _ _ hs, ?_⟩
 rcases h3 with ⟨e1, e2⟩ | ⟨e1, e2⟩
 ·refine .inr ⟨e1, fun u hu => ?_, fun u hu => ?_, fun u hu => ?_⟩ <;> by_cases e : u = v
  ·subst e; rw [upd2_same]; exact h2
  ·rw [upd2_other _ _ e]; exact O.ini u hu
  ·subst e; rw [upd2_same, upd2_same, e2, O.ids u hu]
  ·rw [upd2_other _ _ e, upd2_other _ _ e]; exact O.ids u hu
  ·subst e; rw [upd2_same, upd2_same, e2, List.length_append, List.length_singleton]; omega
  ·rw [upd2_other _ _ e, upd2_other _ _ e]; exact O.len u hu
 ·rw [e2, upd2_self]
  exact .inl ⟨e1, O⟩
end Go.Proofs.YtolgeghdkoodnaaGreatDoor
set_option maxRecDepth 100000
namespace Go.Proofs.YtolgeghdkoodnaaGreatDoor
open Go.RowKit Go.Maps
theorem AcAt.fin {W w : World} {ex : List Th} {M : AcMem} {T : Nat → Tb} {L8 L9 : Nat → List UInt8} {ids : Nat → List Int} (h : AcAt W w ex M T L8 L9 ids) : Mod (fun _ => False) W w := by
 obtain ⟨G, h⟩ := h
 exact h.fin
theorem AcAt.xcell {W w : World} {ex : List Th} {M : AcMem} {T : Nat → Tb} {L8 L9 : Nat → List UInt8} {ids : Nat → List Int} (h : AcAt W w ex M T L8 L9 ids) {v : Nat} (hv : v < 2) : w.cell? ⟨M.bx, v, none⟩ = some (.pointer (some ⟨M.tb v, 0, none⟩)) := by
 obtain ⟨G, h⟩ := h
 have hb : Blk w M.bx #[.pointer (some ⟨M.tb 0, 0, none⟩), .pointer (some ⟨M.tb 1, 0, none⟩)] 24 := by
  have hm := h.1.mem (blkTh M.bx #[.pointer (some ⟨M.tb 0, 0, none⟩), .pointer (some ⟨M.tb 1, 0, none⟩)] 24) (by unfold acRest; simp)
  exact hm.1
 obtain rfl | rfl : v = 0 ∨ v = 1 := by omega
 ·exact hb.cellAt 0 rfl
 ·exact hb.cellAt 1 rfl
theorem AcAt.b10 {W w : World} {ex : List Th} {M : AcMem} {T : Nat → Tb} {L8 L9 : Nat → List UInt8} {ids : Nat → List Int} (h : AcAt W w ex M T L8 L9 ids) : Blk w M.b10 #[M.VI 0, M.VI 1] 65 := by
 obtain ⟨G, h⟩ := h
 exact (h.1.mem (blkTh M.b10 #[M.VI 0, M.VI 1] 65) (by unfold acRest; simp)).1
theorem AcAt.b10cell {W w : World} {ex : List Th} {M : AcMem} {T : Nat → Tb} {L8 L9 : Nat → List UInt8} {ids : Nat → List Int} (h : AcAt W w ex M T L8 L9 ids) {v : Nat} (hv : v < 2) : w.cell? ⟨M.b10, v, none⟩ = some (M.VI v) := by
 have hb := h.b10
 obtain rfl | rfl : v = 0 ∨ v = 1 := by omega
 ·exact hb.cellAt 0 rfl
 ·exact hb.cellAt 1 rfl
theorem AcAt.idrow {W w : World} {ex : List Th} {M : AcMem} {T : Nat → Tb} {L8 L9 : Nat → List UInt8} {ids : Nat → List Int} (h : AcAt W w ex M T L8 L9 ids) {v : Nat} (hv : v < 2) : OwnU w W.heap.size (M.VI v) (ids v) := by
 obtain ⟨G, h⟩ := h
 obtain rfl | rfl : v = 0 ∨ v = 1 := by omega
 ·exact (h.1.mem (idTh W.heap.size (M.VI 0) (ids 0)) (by unfold acRest; simp)).1
 ·exact (h.1.mem (idTh W.heap.size (M.VI 1) (ids 1)) (by unfold acRest; simp)).1
theorem AcAt.idset {W w w1 : World} {ex : List Th} {M : AcMem} {T : Nat → Tb} {L8 L9 : Nat → List UInt8} {ids : Nat → List Int} (h : AcAt W w ex M T L8 L9 ids) {v : Nat} (hv : v < 2) {u : Value} {l : List Int} (hP : OwnU w1 W.heap.size u l) (hR : ∀ k, u.ownBlock = some k → (M.VI v).ownBlock = some k ∨ (w.heap.size ≤ k ∧ k < w1.heap.size)) (hM : Mod (fun k => (M.VI v).ownBlock = some k) w w1) :
  AcAt W (w1.setCell ⟨M.b10, v, none⟩ u) ex { M with VI := upd2 M.VI v u } T L8 L9 (upd2 ids v l) := by
 obtain ⟨G, h⟩ := h
 refine ⟨G, ?_⟩
 obtain ⟨pre, hpre⟩ : ∃ pre : List Th, ∀ X : List Th, ex ++ (tabTh W.heap.size (M.tb 0) (M.mb 0) (G 0) (T 0) :: tabTh W.heap.size (M.tb 1) (M.mb 1) (G 1) (T 1) :: blkTh M.bx #[.pointer (some ⟨M.tb 0, 0, none⟩), .pointer (some ⟨M.tb 1, 0, none⟩)] 24 :: blkTh M.b8 (gridC M.V8) 64 :: (rows6 W.heap.size M.V8 L8 ++ (blkTh M.b9 (gridC M.V9) 64 :: (rows6 W.heap.size M.V9 L9 ++ X)))) = pre ++ X :=
  ⟨ex ++ (tabTh W.heap.size (M.tb 0) (M.mb 0) (G 0) (T 0) :: tabTh W.heap.size (M.tb 1) (M.mb 1) (G 1) (T 1) :: blkTh M.bx #[.pointer (some ⟨M.tb 0, 0, none⟩), .pointer (some ⟨M.tb 1, 0, none⟩)] 24 :: blkTh M.b8 (gridC M.V8) 64 :: (rows6 W.heap.size M.V8 L8 ++ (blkTh M.b9 (gridC M.V9) 64 :: rows6 W.heap.size M.V9 L9))), fun X => by simp⟩
 unfold acRest at h ⊢
 rw [hpre] at h
 have h2 : At W w1 (pre ++ [blkTh M.b10 #[M.VI 0, M.VI 1] 65, idTh W.heap.size (upd2 M.VI v u 0) (upd2 ids v l 0), idTh W.heap.size (upd2 M.VI v u 1) (upd2 ids v l 1)]) := by
  obtain rfl | rfl : v = 0 ∨ v = 1 := by omega
  ·have e : ∀ o : Th, pre ++ [blkTh M.b10 #[M.VI 0, M.VI 1] 65, o, idTh W.heap.size (M.VI 1) (ids 1)] = (pre ++ [blkTh M.b10 #[M.VI 0, M.VI 1] 65]) ++ o :: [idTh W.heap.size (M.VI 1) (ids 1)] := fun o => by simp
   rw [e] at h
   have := h.turn _ (o' := idTh W.heap.size u l) hP hR hM
   rw [← e] at this
   exact this
  ·have e : ∀ o : Th, pre ++ [blkTh M.b10 #[M.VI 0, M.VI 1] 65, idTh W.heap.size (M.VI 0) (ids 0), o] = (pre ++ [blkTh M.b10 #[M.VI 0, M.VI 1] 65, idTh W.heap.size (M.VI 0) (ids 0)]) ++ o :: [] := fun o => by simp
   rw [e] at h
   have := h.turn _ (o' := idTh W.heap.size u l) hP hR hM
   rw [← e] at this
   exact this
 have h3 := h2.turn (w' := w1.setCell ⟨M.b10, v, none⟩ u) pre (o' := blkTh M.b10 #[upd2 M.VI v u 0, upd2 M.VI v u 1] 65) (by
  have hb := (show Blk w1 M.b10 #[M.VI 0, M.VI 1] 65 from h2.get pre).set v u
  obtain rfl | rfl : v = 0 ∨ v = 1 := by omega
  ·exact hb
  ·exact hb) (fun k hk => .inl hk) ((Mod.refl (fun k => k = M.b10) _).setCell (p := ⟨M.b10, v, none⟩) (fun _ => rfl) _)
 rw [← hpre] at h3
 exact h3
end Go.Proofs.YtolgeghdkoodnaaGreatDoor
