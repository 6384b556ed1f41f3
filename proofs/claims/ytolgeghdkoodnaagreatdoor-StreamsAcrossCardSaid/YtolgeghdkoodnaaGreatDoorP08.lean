/- Parts of the proof: GaO. -/
import Derived.Test.YtolgeghdkoodnaaGreatDoorP07
set_option maxRecDepth 100000
namespace Go.Proofs.YtolgeghdkoodnaaGreatDoor
open Go.RowKit Go.Maps
set_option maxHeartbeats 16000000 in
set_option maxRecDepth 10000 in
theorem fput_k18 {w : World} {f : Fr} {vd vr : Value} (hv : FrV w f vd vr) (hrl : (f.rs.length : Int) ≤ 100000) (hok : okKey f.k) (hro : RngOk f) (hr : rightF f = true) {n : Nat} {body : List UInt8} (hk : f.k = 18) (hz0 : (n : Int) = 18 + bitN f.fl 1) (hn : n = tagN f) (hn255 : n ≤ 255) (hbody : bodyN f.k.toNat f = body) (hbl : body.length ≤ 100000)
  {fn1 fn2 fn3 : Nat} {v4 : Value} (hkf : kindsF f.k = some (.agg #[fnV fn1, fnV fn2, fnV fn3, v4])) (hp : ∀ X, Mod (fun _ => False) w X → Puts fn3 X f vd vr body) (en3 : Enter fn3) (o4 : v4.oneCell' = true) :
  Calls Tryz.prog 35 #[frV f vd vr] w fun e w' => ∃ v, e = .returned v ∧ OwnB w' w.heap.size v (fputL f) ∧ Mod (fun _ => False) w w' := by
 have hM := (Mod.refl (fun _ => False) w).alloc (.cells (frC f vd vr) 52)
 have HR := Lib.hid (right_any (hv.kept hM) hrl hok hro)
 rw [hr] at HR
 rw [show fputL f = UInt8.ofNat n :: body by unfold fputL; rw [if_pos hr, ← hn, hbody]]
 have HW := Lib.hid (loadWhole w f vd vr hv.t)
 have HF0 := Lib.hid (FrB.new w f vd vr hv.t)
 have HM := Lib.hid hM
 have HKF := Lib.hid hkf
 have HOK := Lib.hid hok
 have HP := Lib.hid hp
 have O4 := Lib.hid o4
 have H16 := Lib.hid hv.t
 have HZ := Lib.hid hn255
 have HLEN : Hid ((([UInt8.ofNat n].length + body.length : Nat) : Int) ≤ 140737488355328) := by show _ ≤ _; simp; omega
 have e0 : (frC f vd vr)[0]? = some (.int .i64 f.k) := rfl
 have e5 : (frC f vd vr)[5]? = some (.bool f.fl) := rfl
 obtain ⟨z, hz⟩ : ∃ z : Int, (n : Int) = z := ⟨_, rfl⟩
 have HZN := Lib.hid hz
 have hzw : IntKind.u8.wrap z = z := IntWalk.u8_in _ (by omega)
 have t8 : (f.k != 8) = true := by rw [hk]; rfl
 have t18 : (f.k == 18) = true := by rw [hk]; rfl
 have hwb : IntKind.i64.wrap (f.k + bitN f.fl 1) = z := by rw [show f.k + bitN f.fl 1 = z by omega]; exact IntWalk.i64_in _ (by omega)
 clear hk hz0
 unfold Enter at en3
 clear hv hrl hok hro hr hM hkf hp o4 hn hbody hbl hz hn255
 unfold frV at *
 go_enter Tryz.func35, Tryz.ntmps35
 go_wp2_with (first
  | ((with_reducible refine wpList_load_v 52 (.tmp 1) ?_ ?_ (.pointer (some ⟨w.heap.size, 0, none⟩)) (.agg (frC f vd vr)) ?_ (HW.out _ rfl) ?_); (iterate 3 exact rfl))
  | fail)
 refine (HR.out).mono ?_
 rintro e w1 ⟨rfl, hM1⟩
 have HM1 := Lib.hid (HM.out.trans hM1)
 have HF1 := Lib.hid (HF0.out.kept hM1)
 have c0 := HF1.out.cells.1
 have c5 := HF1.out.cells.2.2.2.2.2.1
 clear hM1 e0 e5
 go_upto_region 7 with (first
  | (go_at_call 63; refine (bit_any _ _ _).mono ?_; rintro e w' ⟨rfl, rfl⟩)
  | fail)
 go_cut [2] (fun s2 wx => ∃ ap cp, s2 = .slice ap ([UInt8.ofNat n].length + body.length) cp ∧ Hid (OwnB wx w.heap.size (.slice ap ([UInt8.ofNat n].length + body.length) cp) (UInt8.ofNat n :: body) ∧ Mod (fun _ => False) w wx))
 case first =>
  refine wp_region_held_drew (S := fun X => FrB X w.heap.size f vd vr ∧ Mod (fun _ => False) w X) (by kernel_rfl) ⟨HF1.out.kept (Mod.refl _ _).drew, HM1.out.drew⟩ (fun hS => ?_)
  refine tk 0 (.int .i64 z) (some 31) rfl rfl (by kernel_rfl) (fun _ _ _ => id) (Or.inl ⟨by rfl, fun X hX => ?_⟩) hS ?_
  ·go_simp
  (try go_frame); refine tk 1 (.int .u8 z) (some 32) rfl rfl (by kernel_rfl) (fun _ _ _ => id) (Or.inl ⟨by rfl, fun X hX => ?_⟩) hS ?_
  ·go_simp
  (try go_frame); refine tk 4 (.pointer (some ⟨w.heap.size, 0, none⟩)) (some 35) rfl rfl (by kernel_rfl) (fun _ _ _ => id) (Or.inl ⟨by rfl, fun X hX => ?_⟩) hS ?_
  ·go_simp
  (try go_frame); refine tk 5 (.int .i64 f.k) (some 36) rfl rfl (by kernel_rfl) (fun _ _ _ => id) (Or.inl ⟨by rfl, fun X hX => ?_⟩) hS ?_
  ·have := hX.1.cells.1; go_simp
  (try go_frame); refine tk 8 (frV f vd vr) (some 39) rfl rfl (by kernel_rfl) (fun _ _ _ => id) (Or.inl ⟨by rfl, fun X hX => ?_⟩) hS ?_
  ·exact exec_load' rfl (p := .pointer (some ⟨w.heap.size, 0, none⟩)) (by rfl) (blk_loadAt hX.1)
  (try go_frame)
  generalize w1.drew = W0 at *
  refine wpAnyH_ready (rs := [2, 3]) (by kernel_rfl) (by simp) ?_
  refine AllReadyH.cons rfl (fun K hK => ?_) (AllReadyH.cons rfl (fun K hK => ?_) AllReadyH.nil)
  ·skip
   go_simp
   have hk2 := (Mod.refl (fun _ => False) W0).alloc (.cells #[.int .u8 z] 5)
   have hO := tag_own W0 w.heap.size HZN.out HZ.out hS.2.size
   refine hK.out _ _ ⟨hS.1.kept hk2, hS.2.trans hk2⟩ (fun hS => ?_)
   clear hK K
   generalize hg2 : W0.alloc (.cells #[.int .u8 z] 5) = W2 at *
   refine wpAnyH_ready (rs := [3]) (by kernel_rfl) (by simp) ?_
   refine arH rfl fun K hK => ?_
   go_simp
   refine (kinds_any _).mono ?_
   rintro e W3 ⟨mb, rfl, hV, hk3⟩
   refine hK.out _ _ ⟨hS.1.kept hk3, hS.2.trans hk3⟩ (fun hS => ?_)
   clear hK K
   refine wpAnyH_ready (rs := [6]) (by kernel_rfl) (by simp) ?_
   refine arH rfl fun K hK => ?_
   have hlk := hV.look (t := 115) (e := 114) HOK.out Tryz.underlying115 (zero_kind W3)
   rw [HKF.out] at hlk
   simp only [Option.getD_some] at hlk
   go_simp
   refine hK.out _ _ hS (fun hS => ?_)
   clear hK K
   refine tk 7 (.func (.func fn3) #[] #[]) (some 38) rfl rfl (by kernel_rfl) (fun _ _ _ => id) (Or.inl ⟨by rfl, fun X hX => ?_⟩) hS ?_
   ·have := field2 X fn1 fn2 fn3 v4 O4.out; go_simp
   (try go_frame); refine wpAnyH_ready (rs := [9]) (by kernel_rfl) (by simp) ?_
   refine arH rfl fun K hK => ?_
   go_simp
   refine (HP.out W3 hS.2).mono ?_
   rintro e W9 ⟨vb, rfl, hb9, hk9⟩
   obtain ⟨a9, c9, rfl, _⟩ := byts_val hb9
   refine hK.out _ _ ⟨hS.1.kept hk9, hS.2.trans hk9⟩ (fun hS => ?_)
   clear hK K
   refine wpAnyH_ready (rs := [10]) (by kernel_rfl) (by simp) ?_
   refine arH rfl fun K hK => ?_
   refine step_append_b rfl (.tmp 33) (.tmp 40) rfl (.slice (some ⟨W0.heap.size, 0, none⟩) 1 1) [UInt8.ofNat n] w.heap.size _ (by rfl) ((hO.keptF hk3).keptF hk9) (.slice a9 body.length c9) body (by rfl) hb9 (UInt8.ofNat n :: body) rfl rfl HLEN.out hS.2.size ?_
   intro ap cp X3 hA
   (try go_frame)
   have hM3 : Mod (fun _ => False) w X3 := hA.modF hS.2 (Nat.le_refl _)
   have hB3 := (hA.mod (w0 := W9) (S := fun k => (Value.slice (some ⟨W0.heap.size, 0, none⟩) 1 1).ownBlock = some k) (Mod.refl _ _) (fun g hg _ => hg)).blk hS.1.blk (OwnB.apart ((hO.keptF hk3).keptF hk9) hS.1.blk (by decide))
   refine hK.out _ _ ⟨⟨hB3, H16.out⟩, hM3⟩ (fun hS => ?_)
   clear hK K
   refine wpAnyH_ready (rs := [11]) (by kernel_rfl) (by simp) ?_
   refine arH rfl fun K hK => ?_
   go_simp
   refine hK.out _ _ hS (fun hS => ?_)
   clear hK K
   refine wpAnyH_done (by kernel_rfl) ?_ _
   go_wp2_with fail
   go_meet
   exact ⟨ap, cp, rfl, ⟨hA.own, hM3⟩⟩
  ·skip
   go_simp
   refine (kinds_any _).mono ?_
   rintro e W3 ⟨mb, rfl, hV, hk3⟩
   refine hK.out _ _ ⟨hS.1.kept hk3, hS.2.trans hk3⟩ (fun hS => ?_)
   clear hK K
   refine wpAnyH_ready (rs := [2, 6]) (by kernel_rfl) (by simp) ?_
   refine AllReadyH.cons rfl (fun K hK => ?_) (AllReadyH.cons rfl (fun K hK => ?_) AllReadyH.nil)
   ·skip
    go_simp
    have hk2 := (Mod.refl (fun _ => False) W3).alloc (.cells #[.int .u8 z] 5)
    have hO := tag_own W3 w.heap.size HZN.out HZ.out hS.2.size
    refine hK.out _ _ ⟨hS.1.kept hk2, hS.2.trans hk2⟩ (fun hS => ?_)
    clear hK K
    generalize hg2 : W3.alloc (.cells #[.int .u8 z] 5) = W2 at *
    refine wpAnyH_ready (rs := [6]) (by kernel_rfl) (by simp) ?_
    refine arH rfl fun K hK => ?_
    have hlk := (hV.kept hk2 (fun h => h)).look (t := 115) (e := 114) HOK.out Tryz.underlying115 (zero_kind W2)
    rw [HKF.out] at hlk
    simp only [Option.getD_some] at hlk
    go_simp
    refine hK.out _ _ hS (fun hS => ?_)
    clear hK K
    refine tk 7 (.func (.func fn3) #[] #[]) (some 38) rfl rfl (by kernel_rfl) (fun _ _ _ => id) (Or.inl ⟨by rfl, fun X hX => ?_⟩) hS ?_
    ·have := field2 X fn1 fn2 fn3 v4 O4.out; go_simp
    (try go_frame); refine wpAnyH_ready (rs := [9]) (by kernel_rfl) (by simp) ?_
    refine arH rfl fun K hK => ?_
    go_simp
    refine (HP.out W2 hS.2).mono ?_
    rintro e W9 ⟨vb, rfl, hb9, hk9⟩
    obtain ⟨a9, c9, rfl, _⟩ := byts_val hb9
    refine hK.out _ _ ⟨hS.1.kept hk9, hS.2.trans hk9⟩ (fun hS => ?_)
    clear hK K
    refine wpAnyH_ready (rs := [10]) (by kernel_rfl) (by simp) ?_
    refine arH rfl fun K hK => ?_
    refine step_append_b rfl (.tmp 33) (.tmp 40) rfl (.slice (some ⟨W3.heap.size, 0, none⟩) 1 1) [UInt8.ofNat n] w.heap.size _ (by rfl) (hO.keptF hk9) (.slice a9 body.length c9) body (by rfl) hb9 (UInt8.ofNat n :: body) rfl rfl HLEN.out hS.2.size ?_
    intro ap cp X3 hA
    (try go_frame)
    have hM3 : Mod (fun _ => False) w X3 := hA.modF hS.2 (Nat.le_refl _)
    have hB3 := (hA.mod (w0 := W9) (S := fun k => (Value.slice (some ⟨W3.heap.size, 0, none⟩) 1 1).ownBlock = some k) (Mod.refl _ _) (fun g hg _ => hg)).blk hS.1.blk (OwnB.apart (hO.keptF hk9) hS.1.blk (by decide))
    refine hK.out _ _ ⟨⟨hB3, H16.out⟩, hM3⟩ (fun hS => ?_)
    clear hK K
    refine wpAnyH_ready (rs := [11]) (by kernel_rfl) (by simp) ?_
    refine arH rfl fun K hK => ?_
    go_simp
    refine hK.out _ _ hS (fun hS => ?_)
    clear hK K
    refine wpAnyH_done (by kernel_rfl) ?_ _
    go_wp2_with fail
    go_meet
    exact ⟨ap, cp, rfl, ⟨hA.own, hM3⟩⟩
   ·skip
    have hlk := hV.look (t := 115) (e := 114) HOK.out Tryz.underlying115 (zero_kind W3)
    rw [HKF.out] at hlk
    simp only [Option.getD_some] at hlk
    go_simp
    refine hK.out _ _ hS (fun hS => ?_)
    clear hK K
    refine tk 7 (.func (.func fn3) #[] #[]) (some 38) rfl rfl (by kernel_rfl) (fun _ _ _ => id) (Or.inl ⟨by rfl, fun X hX => ?_⟩) hS ?_
    ·have := field2 X fn1 fn2 fn3 v4 O4.out; go_simp
    (try go_frame); refine wpAnyH_ready (rs := [2, 9]) (by kernel_rfl) (by simp) ?_
    refine AllReadyH.cons rfl (fun K hK => ?_) (AllReadyH.cons rfl (fun K hK => ?_) AllReadyH.nil)
    ·skip
     go_simp
     have hk2 := (Mod.refl (fun _ => False) W3).alloc (.cells #[.int .u8 z] 5)
     have hO := tag_own W3 w.heap.size HZN.out HZ.out hS.2.size
     refine hK.out _ _ ⟨hS.1.kept hk2, hS.2.trans hk2⟩ (fun hS => ?_)
     clear hK K
     generalize hg2 : W3.alloc (.cells #[.int .u8 z] 5) = W2 at *
     refine wpAnyH_ready (rs := [9]) (by kernel_rfl) (by simp) ?_
     refine arH rfl fun K hK => ?_
     go_simp
     refine (HP.out W2 hS.2).mono ?_
     rintro e W9 ⟨vb, rfl, hb9, hk9⟩
     obtain ⟨a9, c9, rfl, _⟩ := byts_val hb9
     refine hK.out _ _ ⟨hS.1.kept hk9, hS.2.trans hk9⟩ (fun hS => ?_)
     clear hK K
     refine wpAnyH_ready (rs := [10]) (by kernel_rfl) (by simp) ?_
     refine arH rfl fun K hK => ?_
     refine step_append_b rfl (.tmp 33) (.tmp 40) rfl (.slice (some ⟨W3.heap.size, 0, none⟩) 1 1) [UInt8.ofNat n] w.heap.size _ (by rfl) (hO.keptF hk9) (.slice a9 body.length c9) body (by rfl) hb9 (UInt8.ofNat n :: body) rfl rfl HLEN.out hS.2.size ?_
     intro ap cp X3 hA
     (try go_frame)
     have hM3 : Mod (fun _ => False) w X3 := hA.modF hS.2 (Nat.le_refl _)
     have hB3 := (hA.mod (w0 := W9) (S := fun k => (Value.slice (some ⟨W3.heap.size, 0, none⟩) 1 1).ownBlock = some k) (Mod.refl _ _) (fun g hg _ => hg)).blk hS.1.blk (OwnB.apart (hO.keptF hk9) hS.1.blk (by decide))
     refine hK.out _ _ ⟨⟨hB3, H16.out⟩, hM3⟩ (fun hS => ?_)
     clear hK K
     refine wpAnyH_ready (rs := [11]) (by kernel_rfl) (by simp) ?_
     refine arH rfl fun K hK => ?_
     go_simp
     refine hK.out _ _ hS (fun hS => ?_)
     clear hK K
     refine wpAnyH_done (by kernel_rfl) ?_ _
     go_wp2_with fail
     go_meet
     exact ⟨ap, cp, rfl, ⟨hA.own, hM3⟩⟩
    ·skip
     go_simp
     refine (HP.out W3 hS.2).mono ?_
     rintro e W9 ⟨vb, rfl, hb9, hk9⟩
     obtain ⟨a9, c9, rfl, _⟩ := byts_val hb9
     refine hK.out _ _ ⟨hS.1.kept hk9, hS.2.trans hk9⟩ (fun hS => ?_)
     clear hK K
     refine wpAnyH_ready (rs := [2]) (by kernel_rfl) (by simp) ?_
     refine arH rfl fun K hK => ?_
     go_simp
     have hk2 := (Mod.refl (fun _ => False) W9).alloc (.cells #[.int .u8 z] 5)
     have hO := tag_own W9 w.heap.size HZN.out HZ.out hS.2.size
     refine hK.out _ _ ⟨hS.1.kept hk2, hS.2.trans hk2⟩ (fun hS => ?_)
     clear hK K
     generalize hg2 : W9.alloc (.cells #[.int .u8 z] 5) = W2 at *
     refine wpAnyH_ready (rs := [10]) (by kernel_rfl) (by simp) ?_
     refine arH rfl fun K hK => ?_
     refine step_append_b rfl (.tmp 33) (.tmp 40) rfl (.slice (some ⟨W9.heap.size, 0, none⟩) 1 1) [UInt8.ofNat n] w.heap.size _ (by rfl) hO (.slice a9 body.length c9) body (by rfl) (byts_kept hb9 hk2) (UInt8.ofNat n :: body) rfl rfl HLEN.out hS.2.size ?_
     intro ap cp X3 hA
     (try go_frame)
     have hM3 : Mod (fun _ => False) w X3 := hA.modF hS.2 (Nat.le_refl _)
     have hB3 := (hA.mod (w0 := W2) (S := fun k => (Value.slice (some ⟨W9.heap.size, 0, none⟩) 1 1).ownBlock = some k) (Mod.refl _ _) (fun g hg _ => hg)).blk hS.1.blk (OwnB.apart hO hS.1.blk (by decide))
     refine hK.out _ _ ⟨⟨hB3, H16.out⟩, hM3⟩ (fun hS => ?_)
     clear hK K
     refine wpAnyH_ready (rs := [11]) (by kernel_rfl) (by simp) ?_
     refine arH rfl fun K hK => ?_
     go_simp
     refine hK.out _ _ hS (fun hS => ?_)
     clear hK K
     refine wpAnyH_done (by kernel_rfl) ?_ _
     go_wp2_with fail
     go_meet
     exact ⟨ap, cp, rfl, ⟨hA.own, hM3⟩⟩
 case rest =>
  obtain ⟨ap, cp, rfl, HC⟩ := hcut
  go_wp2_with fail
  go_ret
  exact ⟨_, rfl, HC.out.1, HC.out.2⟩
set_option maxHeartbeats 16000000 in
set_option maxRecDepth 10000 in
theorem fput_k22 {w : World} {f : Fr} {vd vr : Value} (hv : FrV w f vd vr) (hrl : (f.rs.length : Int) ≤ 100000) (hok : okKey f.k) (hro : RngOk f) (hr : rightF f = true) {n : Nat} {body : List UInt8} (hk : f.k = 22) (hz0 : (n : Int) = 22 + bitN f.fl 1) (hn : n = tagN f) (hn255 : n ≤ 255) (hbody : bodyN f.k.toNat f = body) (hbl : body.length ≤ 100000)
  {fn1 fn2 fn3 : Nat} {v4 : Value} (hkf : kindsF f.k = some (.agg #[fnV fn1, fnV fn2, fnV fn3, v4])) (hp : ∀ X, Mod (fun _ => False) w X → Puts fn3 X f vd vr body) (en3 : Enter fn3) (o4 : v4.oneCell' = true) :
  Calls Tryz.prog 35 #[frV f vd vr] w fun e w' => ∃ v, e = .returned v ∧ OwnB w' w.heap.size v (fputL f) ∧ Mod (fun _ => False) w w' := by
 have hM := (Mod.refl (fun _ => False) w).alloc (.cells (frC f vd vr) 52)
 have HR := Lib.hid (right_any (hv.kept hM) hrl hok hro)
 rw [hr] at HR
 rw [show fputL f = UInt8.ofNat n :: body by unfold fputL; rw [if_pos hr, ← hn, hbody]]
 have HW := Lib.hid (loadWhole w f vd vr hv.t)
 have HF0 := Lib.hid (FrB.new w f vd vr hv.t)
 have HM := Lib.hid hM
 have HKF := Lib.hid hkf
 have HOK := Lib.hid hok
 have HP := Lib.hid hp
 have O4 := Lib.hid o4
 have H16 := Lib.hid hv.t
 have HZ := Lib.hid hn255
 have HLEN : Hid ((([UInt8.ofNat n].length + body.length : Nat) : Int) ≤ 140737488355328) := by show _ ≤ _; simp; omega
 have e0 : (frC f vd vr)[0]? = some (.int .i64 f.k) := rfl
 have e5 : (frC f vd vr)[5]? = some (.bool f.fl) := rfl
 obtain ⟨z, hz⟩ : ∃ z : Int, (n : Int) = z := ⟨_, rfl⟩
 have HZN := Lib.hid hz
 have hzw : IntKind.u8.wrap z = z := IntWalk.u8_in _ (by omega)
 have t8 : (f.k != 8) = true := by rw [hk]; rfl
 have t18 : (f.k == 18) = false := by rw [hk]; rfl
 have t22 : (f.k == 22) = true := by rw [hk]; rfl
 have hwb : IntKind.i64.wrap (f.k + bitN f.fl 1) = z := by rw [show f.k + bitN f.fl 1 = z by omega]; exact IntWalk.i64_in _ (by omega)
 clear hk hz0
 unfold Enter at en3
 clear hv hrl hok hro hr hM hkf hp o4 hn hbody hbl hz hn255
 unfold frV at *
 go_enter Tryz.func35, Tryz.ntmps35
 go_wp2_with (first
  | ((with_reducible refine wpList_load_v 52 (.tmp 1) ?_ ?_ (.pointer (some ⟨w.heap.size, 0, none⟩)) (.agg (frC f vd vr)) ?_ (HW.out _ rfl) ?_); (iterate 3 exact rfl))
  | fail)
 refine (HR.out).mono ?_
 rintro e w1 ⟨rfl, hM1⟩
 have HM1 := Lib.hid (HM.out.trans hM1)
 have HF1 := Lib.hid (HF0.out.kept hM1)
 have c0 := HF1.out.cells.1
 have c5 := HF1.out.cells.2.2.2.2.2.1
 clear hM1 e0 e5
 go_upto_region 7 with (first
  | (go_at_call 63; refine (bit_any _ _ _).mono ?_; rintro e w' ⟨rfl, rfl⟩)
  | fail)
 go_cut [2] (fun s2 wx => ∃ ap cp, s2 = .slice ap ([UInt8.ofNat n].length + body.length) cp ∧ Hid (OwnB wx w.heap.size (.slice ap ([UInt8.ofNat n].length + body.length) cp) (UInt8.ofNat n :: body) ∧ Mod (fun _ => False) w wx))
 case first =>
  refine wp_region_held_drew (S := fun X => FrB X w.heap.size f vd vr ∧ Mod (fun _ => False) w X) (by kernel_rfl) ⟨HF1.out.kept (Mod.refl _ _).drew, HM1.out.drew⟩ (fun hS => ?_)
  refine tk 0 (.int .i64 z) (some 31) rfl rfl (by kernel_rfl) (fun _ _ _ => id) (Or.inl ⟨by rfl, fun X hX => ?_⟩) hS ?_
  ·go_simp
  (try go_frame); refine tk 1 (.int .u8 z) (some 32) rfl rfl (by kernel_rfl) (fun _ _ _ => id) (Or.inl ⟨by rfl, fun X hX => ?_⟩) hS ?_
  ·go_simp
  (try go_frame); refine tk 4 (.pointer (some ⟨w.heap.size, 0, none⟩)) (some 35) rfl rfl (by kernel_rfl) (fun _ _ _ => id) (Or.inl ⟨by rfl, fun X hX => ?_⟩) hS ?_
  ·go_simp
  (try go_frame); refine tk 5 (.int .i64 f.k) (some 36) rfl rfl (by kernel_rfl) (fun _ _ _ => id) (Or.inl ⟨by rfl, fun X hX => ?_⟩) hS ?_
  ·have := hX.1.cells.1; go_simp
  (try go_frame); refine tk 8 (frV f vd vr) (some 39) rfl rfl (by kernel_rfl) (fun _ _ _ => id) (Or.inl ⟨by rfl, fun X hX => ?_⟩) hS ?_
  ·exact exec_load' rfl (p := .pointer (some ⟨w.heap.size, 0, none⟩)) (by rfl) (blk_loadAt hX.1)
  (try go_frame)
  generalize w1.drew = W0 at *
  refine wpAnyH_ready (rs := [2, 3]) (by kernel_rfl) (by simp) ?_
  refine AllReadyH.cons rfl (fun K hK => ?_) (AllReadyH.cons rfl (fun K hK => ?_) AllReadyH.nil)
  ·skip
   go_simp
   have hk2 := (Mod.refl (fun _ => False) W0).alloc (.cells #[.int .u8 z] 5)
   have hO := tag_own W0 w.heap.size HZN.out HZ.out hS.2.size
   refine hK.out _ _ ⟨hS.1.kept hk2, hS.2.trans hk2⟩ (fun hS => ?_)
   clear hK K
   generalize hg2 : W0.alloc (.cells #[.int .u8 z] 5) = W2 at *
   refine wpAnyH_ready (rs := [3]) (by kernel_rfl) (by simp) ?_
   refine arH rfl fun K hK => ?_
   go_simp
   refine (kinds_any _).mono ?_
   rintro e W3 ⟨mb, rfl, hV, hk3⟩
   refine hK.out _ _ ⟨hS.1.kept hk3, hS.2.trans hk3⟩ (fun hS => ?_)
   clear hK K
   refine wpAnyH_ready (rs := [6]) (by kernel_rfl) (by simp) ?_
   refine arH rfl fun K hK => ?_
   have hlk := hV.look (t := 115) (e := 114) HOK.out Tryz.underlying115 (zero_kind W3)
   rw [HKF.out] at hlk
   simp only [Option.getD_some] at hlk
   go_simp
   refine hK.out _ _ hS (fun hS => ?_)
   clear hK K
   refine tk 7 (.func (.func fn3) #[] #[]) (some 38) rfl rfl (by kernel_rfl) (fun _ _ _ => id) (Or.inl ⟨by rfl, fun X hX => ?_⟩) hS ?_
   ·have := field2 X fn1 fn2 fn3 v4 O4.out; go_simp
   (try go_frame); refine wpAnyH_ready (rs := [9]) (by kernel_rfl) (by simp) ?_
   refine arH rfl fun K hK => ?_
   go_simp
   refine (HP.out W3 hS.2).mono ?_
   rintro e W9 ⟨vb, rfl, hb9, hk9⟩
   obtain ⟨a9, c9, rfl, _⟩ := byts_val hb9
   refine hK.out _ _ ⟨hS.1.kept hk9, hS.2.trans hk9⟩ (fun hS => ?_)
   clear hK K
   refine wpAnyH_ready (rs := [10]) (by kernel_rfl) (by simp) ?_
   refine arH rfl fun K hK => ?_
   refine step_append_b rfl (.tmp 33) (.tmp 40) rfl (.slice (some ⟨W0.heap.size, 0, none⟩) 1 1) [UInt8.ofNat n] w.heap.size _ (by rfl) ((hO.keptF hk3).keptF hk9) (.slice a9 body.length c9) body (by rfl) hb9 (UInt8.ofNat n :: body) rfl rfl HLEN.out hS.2.size ?_
   intro ap cp X3 hA
   (try go_frame)
   have hM3 : Mod (fun _ => False) w X3 := hA.modF hS.2 (Nat.le_refl _)
   have hB3 := (hA.mod (w0 := W9) (S := fun k => (Value.slice (some ⟨W0.heap.size, 0, none⟩) 1 1).ownBlock = some k) (Mod.refl _ _) (fun g hg _ => hg)).blk hS.1.blk (OwnB.apart ((hO.keptF hk3).keptF hk9) hS.1.blk (by decide))
   refine hK.out _ _ ⟨⟨hB3, H16.out⟩, hM3⟩ (fun hS => ?_)
   clear hK K
   refine wpAnyH_ready (rs := [11]) (by kernel_rfl) (by simp) ?_
   refine arH rfl fun K hK => ?_
   go_simp
   refine hK.out _ _ hS (fun hS => ?_)
   clear hK K
   refine wpAnyH_done (by kernel_rfl) ?_ _
   go_wp2_with fail
   go_meet
   exact ⟨ap, cp, rfl, ⟨hA.own, hM3⟩⟩
  ·skip
   go_simp
   refine (kinds_any _).mono ?_
   rintro e W3 ⟨mb, rfl, hV, hk3⟩
   refine hK.out _ _ ⟨hS.1.kept hk3, hS.2.trans hk3⟩ (fun hS => ?_)
   clear hK K
   refine wpAnyH_ready (rs := [2, 6]) (by kernel_rfl) (by simp) ?_
   refine AllReadyH.cons rfl (fun K hK => ?_) (AllReadyH.cons rfl (fun K hK => ?_) AllReadyH.nil)
   ·skip
    go_simp
    have hk2 := (Mod.refl (fun _ => False) W3).alloc (.cells #[.int .u8 z] 5)
    have hO := tag_own W3 w.heap.size HZN.out HZ.out hS.2.size
    refine hK.out _ _ ⟨hS.1.kept hk2, hS.2.trans hk2⟩ (fun hS => ?_)
    clear hK K
    generalize hg2 : W3.alloc (.cells #[.int .u8 z] 5) = W2 at *
    refine wpAnyH_ready (rs := [6]) (by kernel_rfl) (by simp) ?_
    refine arH rfl fun K hK => ?_
    have hlk := (hV.kept hk2 (fun h => h)).look (t := 115) (e := 114) HOK.out Tryz.underlying115 (zero_kind W2)
    rw [HKF.out] at hlk
    simp only [Option.getD_some] at hlk
    go_simp
    refine hK.out _ _ hS (fun hS => ?_)
    clear hK K
    refine tk 7 (.func (.func fn3) #[] #[]) (some 38) rfl rfl (by kernel_rfl) (fun _ _ _ => id) (Or.inl ⟨by rfl, fun X hX => ?_⟩) hS ?_
    ·have := field2 X fn1 fn2 fn3 v4 O4.out; go_simp
    (try go_frame); refine wpAnyH_ready (rs := [9]) (by kernel_rfl) (by simp) ?_
    refine arH rfl fun K hK => ?_
    go_simp
    refine (HP.out W2 hS.2).mono ?_
    rintro e W9 ⟨vb, rfl, hb9, hk9⟩
    obtain ⟨a9, c9, rfl, _⟩ := byts_val hb9
    refine hK.out _ _ ⟨hS.1.kept hk9, hS.2.trans hk9⟩ (fun hS => ?_)
    clear hK K
    refine wpAnyH_ready (rs := [10]) (by kernel_rfl) (by simp) ?_
    refine arH rfl fun K hK => ?_
    refine step_append_b rfl (.tmp 33) (.tmp 40) rfl (.slice (some ⟨W3.heap.size, 0, none⟩) 1 1) [UInt8.ofNat n] w.heap.size _ (by rfl) (hO.keptF hk9) (.slice a9 body.length c9) body (by rfl) hb9 (UInt8.ofNat n :: body) rfl rfl HLEN.out hS.2.size ?_
    intro ap cp X3 hA
    (try go_frame)
    have hM3 : Mod (fun _ => False) w X3 := hA.modF hS.2 (Nat.le_refl _)
    have hB3 := (hA.mod (w0 := W9) (S := fun k => (Value.slice (some ⟨W3.heap.size, 0, none⟩) 1 1).ownBlock = some k) (Mod.refl _ _) (fun g hg _ => hg)).blk hS.1.blk (OwnB.apart (hO.keptF hk9) hS.1.blk (by decide))
    refine hK.out _ _ ⟨⟨hB3, H16.out⟩, hM3⟩ (fun hS => ?_)
    clear hK K
    refine wpAnyH_ready (rs := [11]) (by kernel_rfl) (by simp) ?_
    refine arH rfl fun K hK => ?_
    go_simp
    refine hK.out _ _ hS (fun hS => ?_)
    clear hK K
    refine wpAnyH_done (by kernel_rfl) ?_ _
    go_wp2_with fail
    go_meet
    exact ⟨ap, cp, rfl, ⟨hA.own, hM3⟩⟩
   ·skip
    have hlk := hV.look (t := 115) (e := 114) HOK.out Tryz.underlying115 (zero_kind W3)
    rw [HKF.out] at hlk
    simp only [Option.getD_some] at hlk
    go_simp
    refine hK.out _ _ hS (fun hS => ?_)
    clear hK K
    refine tk 7 (.func (.func fn3) #[] #[]) (some 38) rfl rfl (by kernel_rfl) (fun _ _ _ => id) (Or.inl ⟨by rfl, fun X hX => ?_⟩) hS ?_
    ·have := field2 X fn1 fn2 fn3 v4 O4.out; go_simp
    (try go_frame); refine wpAnyH_ready (rs := [2, 9]) (by kernel_rfl) (by simp) ?_
    refine AllReadyH.cons rfl (fun K hK => ?_) (AllReadyH.cons rfl (fun K hK => ?_) AllReadyH.nil)
    ·skip
     go_simp
     have hk2 := (Mod.refl (fun _ => False) W3).alloc (.cells #[.int .u8 z] 5)
     have hO := tag_own W3 w.heap.size HZN.out HZ.out hS.2.size
     refine hK.out _ _ ⟨hS.1.kept hk2, hS.2.trans hk2⟩ (fun hS => ?_)
     clear hK K
     generalize hg2 : W3.alloc (.cells #[.int .u8 z] 5) = W2 at *
     refine wpAnyH_ready (rs := [9]) (by kernel_rfl) (by simp) ?_
     refine arH rfl fun K hK => ?_
     go_simp
     refine (HP.out W2 hS.2).mono ?_
     rintro e W9 ⟨vb, rfl, hb9, hk9⟩
     obtain ⟨a9, c9, rfl, _⟩ := byts_val hb9
     refine hK.out _ _ ⟨hS.1.kept hk9, hS.2.trans hk9⟩ (fun hS => ?_)
     clear hK K
     refine wpAnyH_ready (rs := [10]) (by kernel_rfl) (by simp) ?_
     refine arH rfl fun K hK => ?_
     refine step_append_b rfl (.tmp 33) (.tmp 40) rfl (.slice (some ⟨W3.heap.size, 0, none⟩) 1 1) [UInt8.ofNat n] w.heap.size _ (by rfl) (hO.keptF hk9) (.slice a9 body.length c9) body (by rfl) hb9 (UInt8.ofNat n :: body) rfl rfl HLEN.out hS.2.size ?_
     intro ap cp X3 hA
     (try go_frame)
     have hM3 : Mod (fun _ => False) w X3 := hA.modF hS.2 (Nat.le_refl _)
     have hB3 := (hA.mod (w0 := W9) (S := fun k => (Value.slice (some ⟨W3.heap.size, 0, none⟩) 1 1).ownBlock = some k) (Mod.refl _ _) (fun g hg _ => hg)).blk hS.1.blk (OwnB.apart (hO.keptF hk9) hS.1.blk (by decide))
     refine hK.out _ _ ⟨⟨hB3, H16.out⟩, hM3⟩ (fun hS => ?_)
     clear hK K
     refine wpAnyH_ready (rs := [11]) (by kernel_rfl) (by simp) ?_
     refine arH rfl fun K hK => ?_
     go_simp
     refine hK.out _ _ hS (fun hS => ?_)
     clear hK K
     refine wpAnyH_done (by kernel_rfl) ?_ _
     go_wp2_with fail
     go_meet
     exact ⟨ap, cp, rfl, ⟨hA.own, hM3⟩⟩
    ·skip
     go_simp
     refine (HP.out W3 hS.2).mono ?_
     rintro e W9 ⟨vb, rfl, hb9, hk9⟩
     obtain ⟨a9, c9, rfl, _⟩ := byts_val hb9
     refine hK.out _ _ ⟨hS.1.kept hk9, hS.2.trans hk9⟩ (fun hS => ?_)
     clear hK K
     refine wpAnyH_ready (rs := [2]) (by kernel_rfl) (by simp) ?_
     refine arH rfl fun K hK => ?_
     go_simp
     have hk2 := (Mod.refl (fun _ => False) W9).alloc (.cells #[.int .u8 z] 5)
     have hO := tag_own W9 w.heap.size HZN.out HZ.out hS.2.size
     refine hK.out _ _ ⟨hS.1.kept hk2, hS.2.trans hk2⟩ (fun hS => ?_)
     clear hK K
     generalize hg2 : W9.alloc (.cells #[.int .u8 z] 5) = W2 at *
     refine wpAnyH_ready (rs := [10]) (by kernel_rfl) (by simp) ?_
     refine arH rfl fun K hK => ?_
     refine step_append_b rfl (.tmp 33) (.tmp 40) rfl (.slice (some ⟨W9.heap.size, 0, none⟩) 1 1) [UInt8.ofNat n] w.heap.size _ (by rfl) hO (.slice a9 body.length c9) body (by rfl) (byts_kept hb9 hk2) (UInt8.ofNat n :: body) rfl rfl HLEN.out hS.2.size ?_
     intro ap cp X3 hA
     (try go_frame)
     have hM3 : Mod (fun _ => False) w X3 := hA.modF hS.2 (Nat.le_refl _)
     have hB3 := (hA.mod (w0 := W2) (S := fun k => (Value.slice (some ⟨W9.heap.size, 0, none⟩) 1 1).ownBlock = some k) (Mod.refl _ _) (fun g hg _ => hg)).blk hS.1.blk (OwnB.apart hO hS.1.blk (by decide))
     refine hK.out _ _ ⟨⟨hB3, H16.out⟩, hM3⟩ (fun hS => ?_)
     clear hK K
     refine wpAnyH_ready (rs := [11]) (by kernel_rfl) (by simp) ?_
     refine arH rfl fun K hK => ?_
     go_simp
     refine hK.out _ _ hS (fun hS => ?_)
     clear hK K
     refine wpAnyH_done (by kernel_rfl) ?_ _
     go_wp2_with fail
     go_meet
     exact ⟨ap, cp, rfl, ⟨hA.own, hM3⟩⟩
 case rest =>
  obtain ⟨ap, cp, rfl, HC⟩ := hcut
  go_wp2_with fail
  go_ret
  exact ⟨_, rfl, HC.out.1, HC.out.2⟩
set_option maxHeartbeats 16000000 in
set_option maxRecDepth 10000 in
theorem fput_k28 {w : World} {f : Fr} {vd vr : Value} (hv : FrV w f vd vr) (hrl : (f.rs.length : Int) ≤ 100000) (hok : okKey f.k) (hro : RngOk f) (hr : rightF f = true) {n : Nat} {body : List UInt8} (hk : f.k = 28) (hz0 : (n : Int) = 28 + bitN f.fl 1) (hn : n = tagN f) (hn255 : n ≤ 255) (hbody : bodyN f.k.toNat f = body) (hbl : body.length ≤ 100000)
  {fn1 fn2 fn3 : Nat} {v4 : Value} (hkf : kindsF f.k = some (.agg #[fnV fn1, fnV fn2, fnV fn3, v4])) (hp : ∀ X, Mod (fun _ => False) w X → Puts fn3 X f vd vr body) (en3 : Enter fn3) (o4 : v4.oneCell' = true) :
  Calls Tryz.prog 35 #[frV f vd vr] w fun e w' => ∃ v, e = .returned v ∧ OwnB w' w.heap.size v (fputL f) ∧ Mod (fun _ => False) w w' := by
 have hM := (Mod.refl (fun _ => False) w).alloc (.cells (frC f vd vr) 52)
 have HR := Lib.hid (right_any (hv.kept hM) hrl hok hro)
 rw [hr] at HR
 rw [show fputL f = UInt8.ofNat n :: body by unfold fputL; rw [if_pos hr, ← hn, hbody]]
 have HW := Lib.hid (loadWhole w f vd vr hv.t)
 have HF0 := Lib.hid (FrB.new w f vd vr hv.t)
 have HM := Lib.hid hM
 have HKF := Lib.hid hkf
 have HOK := Lib.hid hok
 have HP := Lib.hid hp
 have O4 := Lib.hid o4
 have H16 := Lib.hid hv.t
 have HZ := Lib.hid hn255
 have HLEN : Hid ((([UInt8.ofNat n].length + body.length : Nat) : Int) ≤ 140737488355328) := by show _ ≤ _; simp; omega
 have e0 : (frC f vd vr)[0]? = some (.int .i64 f.k) := rfl
 have e5 : (frC f vd vr)[5]? = some (.bool f.fl) := rfl
 obtain ⟨z, hz⟩ : ∃ z : Int, (n : Int) = z := ⟨_, rfl⟩
 have HZN := Lib.hid hz
 have hzw : IntKind.u8.wrap z = z := IntWalk.u8_in _ (by omega)
 have t8 : (f.k != 8) = true := by rw [hk]; rfl
 have t18 : (f.k == 18) = false := by rw [hk]; rfl
 have t22 : (f.k == 22) = false := by rw [hk]; rfl
 have t28 : (f.k == 28) = true := by rw [hk]; rfl
 have hwb : IntKind.i64.wrap (f.k + bitN f.fl 1) = z := by rw [show f.k + bitN f.fl 1 = z by omega]; exact IntWalk.i64_in _ (by omega)
 clear hk hz0
 unfold Enter at en3
 clear hv hrl hok hro hr hM hkf hp o4 hn hbody hbl hz hn255
 unfold frV at *
 go_enter Tryz.func35, Tryz.ntmps35
 go_wp2_with (first
  | ((with_reducible refine wpList_load_v 52 (.tmp 1) ?_ ?_ (.pointer (some ⟨w.heap.size, 0, none⟩)) (.agg (frC f vd vr)) ?_ (HW.out _ rfl) ?_); (iterate 3 exact rfl))
  | fail)
 refine (HR.out).mono ?_
 rintro e w1 ⟨rfl, hM1⟩
 have HM1 := Lib.hid (HM.out.trans hM1)
 have HF1 := Lib.hid (HF0.out.kept hM1)
 have c0 := HF1.out.cells.1
 have c5 := HF1.out.cells.2.2.2.2.2.1
 clear hM1 e0 e5
 go_upto_region 7 with (first
  | (go_at_call 63; refine (bit_any _ _ _).mono ?_; rintro e w' ⟨rfl, rfl⟩)
  | fail)
 go_cut [2] (fun s2 wx => ∃ ap cp, s2 = .slice ap ([UInt8.ofNat n].length + body.length) cp ∧ Hid (OwnB wx w.heap.size (.slice ap ([UInt8.ofNat n].length + body.length) cp) (UInt8.ofNat n :: body) ∧ Mod (fun _ => False) w wx))
 case first =>
  refine wp_region_held_drew (S := fun X => FrB X w.heap.size f vd vr ∧ Mod (fun _ => False) w X) (by kernel_rfl) ⟨HF1.out.kept (Mod.refl _ _).drew, HM1.out.drew⟩ (fun hS => ?_)
  refine tk 0 (.int .i64 z) (some 31) rfl rfl (by kernel_rfl) (fun _ _ _ => id) (Or.inl ⟨by rfl, fun X hX => ?_⟩) hS ?_
  ·go_simp
  (try go_frame); refine tk 1 (.int .u8 z) (some 32) rfl rfl (by kernel_rfl) (fun _ _ _ => id) (Or.inl ⟨by rfl, fun X hX => ?_⟩) hS ?_
  ·go_simp
  (try go_frame); refine tk 4 (.pointer (some ⟨w.heap.size, 0, none⟩)) (some 35) rfl rfl (by kernel_rfl) (fun _ _ _ => id) (Or.inl ⟨by rfl, fun X hX => ?_⟩) hS ?_
  ·go_simp
  (try go_frame); refine tk 5 (.int .i64 f.k) (some 36) rfl rfl (by kernel_rfl) (fun _ _ _ => id) (Or.inl ⟨by rfl, fun X hX => ?_⟩) hS ?_
  ·have := hX.1.cells.1; go_simp
  (try go_frame); refine tk 8 (frV f vd vr) (some 39) rfl rfl (by kernel_rfl) (fun _ _ _ => id) (Or.inl ⟨by rfl, fun X hX => ?_⟩) hS ?_
  ·exact exec_load' rfl (p := .pointer (some ⟨w.heap.size, 0, none⟩)) (by rfl) (blk_loadAt hX.1)
  (try go_frame)
  generalize w1.drew = W0 at *
  refine wpAnyH_ready (rs := [2, 3]) (by kernel_rfl) (by simp) ?_
  refine AllReadyH.cons rfl (fun K hK => ?_) (AllReadyH.cons rfl (fun K hK => ?_) AllReadyH.nil)
  ·skip
   go_simp
   have hk2 := (Mod.refl (fun _ => False) W0).alloc (.cells #[.int .u8 z] 5)
   have hO := tag_own W0 w.heap.size HZN.out HZ.out hS.2.size
   refine hK.out _ _ ⟨hS.1.kept hk2, hS.2.trans hk2⟩ (fun hS => ?_)
   clear hK K
   generalize hg2 : W0.alloc (.cells #[.int .u8 z] 5) = W2 at *
   refine wpAnyH_ready (rs := [3]) (by kernel_rfl) (by simp) ?_
   refine arH rfl fun K hK => ?_
   go_simp
   refine (kinds_any _).mono ?_
   rintro e W3 ⟨mb, rfl, hV, hk3⟩
   refine hK.out _ _ ⟨hS.1.kept hk3, hS.2.trans hk3⟩ (fun hS => ?_)
   clear hK K
   refine wpAnyH_ready (rs := [6]) (by kernel_rfl) (by simp) ?_
   refine arH rfl fun K hK => ?_
   have hlk := hV.look (t := 115) (e := 114) HOK.out Tryz.underlying115 (zero_kind W3)
   rw [HKF.out] at hlk
   simp only [Option.getD_some] at hlk
   go_simp
   refine hK.out _ _ hS (fun hS => ?_)
   clear hK K
   refine tk 7 (.func (.func fn3) #[] #[]) (some 38) rfl rfl (by kernel_rfl) (fun _ _ _ => id) (Or.inl ⟨by rfl, fun X hX => ?_⟩) hS ?_
   ·have := field2 X fn1 fn2 fn3 v4 O4.out; go_simp
   (try go_frame); refine wpAnyH_ready (rs := [9]) (by kernel_rfl) (by simp) ?_
   refine arH rfl fun K hK => ?_
   go_simp
   refine (HP.out W3 hS.2).mono ?_
   rintro e W9 ⟨vb, rfl, hb9, hk9⟩
   obtain ⟨a9, c9, rfl, _⟩ := byts_val hb9
   refine hK.out _ _ ⟨hS.1.kept hk9, hS.2.trans hk9⟩ (fun hS => ?_)
   clear hK K
   refine wpAnyH_ready (rs := [10]) (by kernel_rfl) (by simp) ?_
   refine arH rfl fun K hK => ?_
   refine step_append_b rfl (.tmp 33) (.tmp 40) rfl (.slice (some ⟨W0.heap.size, 0, none⟩) 1 1) [UInt8.ofNat n] w.heap.size _ (by rfl) ((hO.keptF hk3).keptF hk9) (.slice a9 body.length c9) body (by rfl) hb9 (UInt8.ofNat n :: body) rfl rfl HLEN.out hS.2.size ?_
   intro ap cp X3 hA
   (try go_frame)
   have hM3 : Mod (fun _ => False) w X3 := hA.modF hS.2 (Nat.le_refl _)
   have hB3 := (hA.mod (w0 := W9) (S := fun k => (Value.slice (some ⟨W0.heap.size, 0, none⟩) 1 1).ownBlock = some k) (Mod.refl _ _) (fun g hg _ => hg)).blk hS.1.blk (OwnB.apart ((hO.keptF hk3).keptF hk9) hS.1.blk (by decide))
   refine hK.out _ _ ⟨⟨hB3, H16.out⟩, hM3⟩ (fun hS => ?_)
   clear hK K
   refine wpAnyH_ready (rs := [11]) (by kernel_rfl) (by simp) ?_
   refine arH rfl fun K hK => ?_
   go_simp
   refine hK.out _ _ hS (fun hS => ?_)
   clear hK K
   refine wpAnyH_done (by kernel_rfl) ?_ _
   go_wp2_with fail
   go_meet
   exact ⟨ap, cp, rfl, ⟨hA.own, hM3⟩⟩
  ·skip
   go_simp
   refine (kinds_any _).mono ?_
   rintro e W3 ⟨mb, rfl, hV, hk3⟩
   refine hK.out _ _ ⟨hS.1.kept hk3, hS.2.trans hk3⟩ (fun hS => ?_)
   clear hK K
   refine wpAnyH_ready (rs := [2, 6]) (by kernel_rfl) (by simp) ?_
   refine AllReadyH.cons rfl (fun K hK => ?_) (AllReadyH.cons rfl (fun K hK => ?_) AllReadyH.nil)
   ·skip
    go_simp
    have hk2 := (Mod.refl (fun _ => False) W3).alloc (.cells #[.int .u8 z] 5)
    have hO := tag_own W3 w.heap.size HZN.out HZ.out hS.2.size
    refine hK.out _ _ ⟨hS.1.kept hk2, hS.2.trans hk2⟩ (fun hS => ?_)
    clear hK K
    generalize hg2 : W3.alloc (.cells #[.int .u8 z] 5) = W2 at *
    refine wpAnyH_ready (rs := [6]) (by kernel_rfl) (by simp) ?_
    refine arH rfl fun K hK => ?_
    have hlk := (hV.kept hk2 (fun h => h)).look (t := 115) (e := 114) HOK.out Tryz.underlying115 (zero_kind W2)
    rw [HKF.out] at hlk
    simp only [Option.getD_some] at hlk
    go_simp
    refine hK.out _ _ hS (fun hS => ?_)
    clear hK K
    refine tk 7 (.func (.func fn3) #[] #[]) (some 38) rfl rfl (by kernel_rfl) (fun _ _ _ => id) (Or.inl ⟨by rfl, fun X hX => ?_⟩) hS ?_
    ·have := field2 X fn1 fn2 fn3 v4 O4.out; go_simp
    (try go_frame); refine wpAnyH_ready (rs := [9]) (by kernel_rfl) (by simp) ?_
    refine arH rfl fun K hK => ?_
    go_simp
    refine (HP.out W2 hS.2).mono ?_
    rintro e W9 ⟨vb, rfl, hb9, hk9⟩
    obtain ⟨a9, c9, rfl, _⟩ := byts_val hb9
    refine hK.out _ _ ⟨hS.1.kept hk9, hS.2.trans hk9⟩ (fun hS => ?_)
    clear hK K
    refine wpAnyH_ready (rs := [10]) (by kernel_rfl) (by simp) ?_
    refine arH rfl fun K hK => ?_
    refine step_append_b rfl (.tmp 33) (.tmp 40) rfl (.slice (some ⟨W3.heap.size, 0, none⟩) 1 1) [UInt8.ofNat n] w.heap.size _ (by rfl) (hO.keptF hk9) (.slice a9 body.length c9) body (by rfl) hb9 (UInt8.ofNat n :: body) rfl rfl HLEN.out hS.2.size ?_
    intro ap cp X3 hA
    (try go_frame)
    have hM3 : Mod (fun _ => False) w X3 := hA.modF hS.2 (Nat.le_refl _)
    have hB3 := (hA.mod (w0 := W9) (S := fun k => (Value.slice (some ⟨W3.heap.size, 0, none⟩) 1 1).ownBlock = some k) (Mod.refl _ _) (fun g hg _ => hg)).blk hS.1.blk (OwnB.apart (hO.keptF hk9) hS.1.blk (by decide))
    refine hK.out _ _ ⟨⟨hB3, H16.out⟩, hM3⟩ (fun hS => ?_)
    clear hK K
    refine wpAnyH_ready (rs := [11]) (by kernel_rfl) (by simp) ?_
    refine arH rfl fun K hK => ?_
    go_simp
    refine hK.out _ _ hS (fun hS => ?_)
    clear hK K
    refine wpAnyH_done (by kernel_rfl) ?_ _
    go_wp2_with fail
    go_meet
    exact ⟨ap, cp, rfl, ⟨hA.own, hM3⟩⟩
   ·skip
    have hlk := hV.look (t := 115) (e := 114) HOK.out Tryz.underlying115 (zero_kind W3)
    rw [HKF.out] at hlk
    simp only [Option.getD_some] at hlk
    go_simp
    refine hK.out _ _ hS (fun hS => ?_)
    clear hK K
    refine tk 7 (.func (.func fn3) #[] #[]) (some 38) rfl rfl (by kernel_rfl) (fun _ _ _ => id) (Or.inl ⟨by rfl, fun X hX => ?_⟩) hS ?_
    ·have := field2 X fn1 fn2 fn3 v4 O4.out; go_simp
    (try go_frame); refine wpAnyH_ready (rs := [2, 9]) (by kernel_rfl) (by simp) ?_
    refine AllReadyH.cons rfl (fun K hK => ?_) (AllReadyH.cons rfl (fun K hK => ?_) AllReadyH.nil)
    ·skip
     go_simp
     have hk2 := (Mod.refl (fun _ => False) W3).alloc (.cells #[.int .u8 z] 5)
     have hO := tag_own W3 w.heap.size HZN.out HZ.out hS.2.size
     refine hK.out _ _ ⟨hS.1.kept hk2, hS.2.trans hk2⟩ (fun hS => ?_)
     clear hK K
     generalize hg2 : W3.alloc (.cells #[.int .u8 z] 5) = W2 at *
     refine wpAnyH_ready (rs := [9]) (by kernel_rfl) (by simp) ?_
     refine arH rfl fun K hK => ?_
     go_simp
     refine (HP.out W2 hS.2).mono ?_
     rintro e W9 ⟨vb, rfl, hb9, hk9⟩
     obtain ⟨a9, c9, rfl, _⟩ := byts_val hb9
     refine hK.out _ _ ⟨hS.1.kept hk9, hS.2.trans hk9⟩ (fun hS => ?_)
     clear hK K
     refine wpAnyH_ready (rs := [10]) (by kernel_rfl) (by simp) ?_
     refine arH rfl fun K hK => ?_
     refine step_append_b rfl (.tmp 33) (.tmp 40) rfl (.slice (some ⟨W3.heap.size, 0, none⟩) 1 1) [UInt8.ofNat n] w.heap.size _ (by rfl) (hO.keptF hk9) (.slice a9 body.length c9) body (by rfl) hb9 (UInt8.ofNat n :: body) rfl rfl HLEN.out hS.2.size ?_
     intro ap cp X3 hA
     (try go_frame)
     have hM3 : Mod (fun _ => False) w X3 := hA.modF hS.2 (Nat.le_refl _)
     have hB3 := (hA.mod (w0 := W9) (S := fun k => (Value.slice (some ⟨W3.heap.size, 0, none⟩) 1 1).ownBlock = some k) (Mod.refl _ _) (fun g hg _ => hg)).blk hS.1.blk (OwnB.apart (hO.keptF hk9) hS.1.blk (by decide))
     refine hK.out _ _ ⟨⟨hB3, H16.out⟩, hM3⟩ (fun hS => ?_)
     clear hK K
     refine wpAnyH_ready (rs := [11]) (by kernel_rfl) (by simp) ?_
     refine arH rfl fun K hK => ?_
     go_simp
     refine hK.out _ _ hS (fun hS => ?_)
     clear hK K
     refine wpAnyH_done (by kernel_rfl) ?_ _
     go_wp2_with fail
     go_meet
     exact ⟨ap, cp, rfl, ⟨hA.own, hM3⟩⟩
    ·skip
     go_simp
     refine (HP.out W3 hS.2).mono ?_
     rintro e W9 ⟨vb, rfl, hb9, hk9⟩
     obtain ⟨a9, c9, rfl, _⟩ := byts_val hb9
     refine hK.out _ _ ⟨hS.1.kept hk9, hS.2.trans hk9⟩ (fun hS => ?_)
     clear hK K
     refine wpAnyH_ready (rs := [2]) (by kernel_rfl) (by simp) ?_
     refine arH rfl fun K hK => ?_
     go_simp
     have hk2 := (Mod.refl (fun _ => False) W9).alloc (.cells #[.int .u8 z] 5)
     have hO := tag_own W9 w.heap.size HZN.out HZ.out hS.2.size
     refine hK.out _ _ ⟨hS.1.kept hk2, hS.2.trans hk2⟩ (fun hS => ?_)
     clear hK K
     generalize hg2 : W9.alloc (.cells #[.int .u8 z] 5) = W2 at *
     refine wpAnyH_ready (rs := [10]) (by kernel_rfl) (by simp) ?_
     refine arH rfl fun K hK => ?_
     refine step_append_b rfl (.tmp 33) (.tmp 40) rfl (.slice (some ⟨W9.heap.size, 0, none⟩) 1 1) [UInt8.ofNat n] w.heap.size _ (by rfl) hO (.slice a9 body.length c9) body (by rfl) (byts_kept hb9 hk2) (UInt8.ofNat n :: body) rfl rfl HLEN.out hS.2.size ?_
     intro ap cp X3 hA
     (try go_frame)
     have hM3 : Mod (fun _ => False) w X3 := hA.modF hS.2 (Nat.le_refl _)
     have hB3 := (hA.mod (w0 := W2) (S := fun k => (Value.slice (some ⟨W9.heap.size, 0, none⟩) 1 1).ownBlock = some k) (Mod.refl _ _) (fun g hg _ => hg)).blk hS.1.blk (OwnB.apart hO hS.1.blk (by decide))
     refine hK.out _ _ ⟨⟨hB3, H16.out⟩, hM3⟩ (fun hS => ?_)
     clear hK K
     refine wpAnyH_ready (rs := [11]) (by kernel_rfl) (by simp) ?_
     refine arH rfl fun K hK => ?_
     go_simp
     refine hK.out _ _ hS (fun hS => ?_)
     clear hK K
     refine wpAnyH_done (by kernel_rfl) ?_ _
     go_wp2_with fail
     go_meet
     exact ⟨ap, cp, rfl, ⟨hA.own, hM3⟩⟩
 case rest =>
  obtain ⟨ap, cp, rfl, HC⟩ := hcut
  go_wp2_with fail
  go_ret
  exact ⟨_, rfl, HC.out.1, HC.out.2⟩
end Go.Proofs.YtolgeghdkoodnaaGreatDoor
