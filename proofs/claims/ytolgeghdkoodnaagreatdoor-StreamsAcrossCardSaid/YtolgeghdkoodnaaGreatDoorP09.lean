/- Parts of the proof: GaP GaQ IMap. -/
import Derived.Test.YtolgeghdkoodnaaGreatDoorP01
import Derived.Test.YtolgeghdkoodnaaGreatDoorP07
import Derived.Test.YtolgeghdkoodnaaGreatDoorP08
import Derived.Test.YtolgeghdkoodnaaGreatDoorProg
import Derived.Maps.OwnOps
import Derived.Maps.OwnSet
import Derived.Maps.Views
import Derived.Maps.RangeWalk
set_option maxRecDepth 100000
namespace Go.Proofs.YtolgeghdkoodnaaGreatDoor
open Go.RowKit Go.Maps
theorem ints1 {w : World} {hi : Int} {a : Nat} (h1 : (a : Int) = hi) : Ints (w.alloc (.cells #[.int .u64 hi] 26)) (.slice (some ⟨w.heap.size, 0, none⟩) 1 1) [a] := by
 subst h1
 exact ints_lit w [a] _ 1 _ rfl rfl (by decide)
theorem or_tags (ba fl : Bool) : bits BinOp.or IntKind.i64 (bits BinOp.or IntKind.i64 10 (bitN ba 4)) (bitN fl 1) = 10 + bitN ba 4 + bitN fl 1 := by
 cases ba <;> cases fl <;> decide +kernel
theorem bitN_le (b : Bool) (n : Int) (h : 0 ≤ n) : 0 ≤ bitN b n ∧ bitN b n ≤ n := by
 cases b <;> simp [bitN] <;> omega
theorem tag_stream {f : Fr} (h : f.k = 8) {ba : Bool} (hb : decide (0 < f.a) = ba) : (tagN f : Int) = 10 + bitN ba 4 + bitN f.fl 1 := by
 subst hb
 unfold tagN bitN
 rw [if_pos h]
 by_cases ha : f.a = 0
 ·cases hf : f.fl <;> simp [ha]
 ·cases hf : f.fl <;> simp [ha, show 0 < f.a by omega]
set_option maxHeartbeats 16000000 in
set_option maxRecDepth 10000 in
theorem fput_stream {w : World} {f : Fr} {vd vr : Value} (hT : Tabs w) (hv : FrV w f vd vr) (hrl : (f.rs.length : Int) ≤ 100000) (hok : okKey f.k) (hro : RngOk f) (hr : rightF f = true) (hk : f.k = 8) (hdl : f.d.length ≤ 100000) :
  Calls Tryz.prog 35 #[frV f vd vr] w fun e w' => ∃ v, e = .returned v ∧ OwnB w' w.heap.size v (fputL f) ∧ Mod (fun _ => False) w w' := by
 have hM := (Mod.refl (fun _ => False) w).alloc (.cells (frC f vd vr) 52)
 have HR := Lib.hid (right_any (hv.kept hM) hrl hok hro)
 rw [hr] at HR
 obtain ⟨n, hn⟩ : ∃ n, n = tagN f := ⟨_, rfl⟩
 obtain ⟨ba, hba⟩ : ∃ b, decide (0 < f.a) = b := ⟨_, rfl⟩
 have htag := tag_stream hk hba
 have HRES : Hid (fputL f = UInt8.ofNat n :: putL f.id ++ (bif ba then putL f.a else []) ++ dataL f.d) := by
  show _ = _
  unfold fputL
  rw [if_pos hr, hk, ← hn]
  show _ :: (putL f.id ++ (if f.a = 0 then [] else putL f.a) ++ dataL f.d) = _
  rw [← hba]
  by_cases ha : f.a = 0
  ·simp [ha]
  ·rw [if_neg ha, show decide (0 < f.a) = true by simp; omega]; simp
 have HW := Lib.hid (loadWhole w f vd vr hv.t)
 have HF0 := Lib.hid (FrB.new w f vd vr hv.t)
 have HM := Lib.hid hM
 have HT := Lib.hid hT
 have HV := Lib.hid hv
 have H16 := Lib.hid hv.t
 have hb4 := bitN_le ba 4 (by decide)
 have hb1 := bitN_le f.fl 1 (by decide)
 obtain ⟨z, hz⟩ : ∃ z : Int, (n : Int) = z := ⟨_, rfl⟩
 rw [← hn, hz] at htag
 have HZN := Lib.hid hz
 have HZ : Hid (n ≤ 255) := by show n ≤ 255; omega
 have hzw : IntKind.u8.wrap z = z := IntWalk.u8_in _ (by omega)
 obtain ⟨o1, ho1⟩ : ∃ o : Int, bits BinOp.or IntKind.i64 10 (bitN ba 4) = o := ⟨_, rfl⟩
 have ho2 : bits BinOp.or IntKind.i64 o1 (bitN f.fl 1) = z := by rw [← ho1, or_tags, htag]
 have HCAT : Hid (UInt8.ofNat n :: putL f.id = [UInt8.ofNat n] ++ intsL [f.id]) := by show _ = _; simp [intsL]
 have HLEN1 : Hid ((([UInt8.ofNat n].length + (intsL [f.id]).length : Nat) : Int) ≤ 140737488355328) := by show _ ≤ _; have := intsL_len [f.id]; simp at this ⊢; omega
 have hba' : decide ((0 : Int) < (f.a : Int)) = ba := by rw [← hba, Bool.eq_iff_iff]; simp
 have t8 : (f.k != 8) = false := by rw [hk]; rfl
 have HDL := Lib.hid hdl
 have e0 : (frC f vd vr)[0]? = some (.int .i64 f.k) := rfl
 clear hT hv hrl hok hro hr hM hn hz htag hb4 hb1 hk hdl
 unfold frV at *
 go_enter Tryz.func35, Tryz.ntmps35
 go_wp2_with (first
  | ((with_reducible refine wpList_load_v 52 (.tmp 1) ?_ ?_ (.pointer (some ⟨w.heap.size, 0, none⟩)) (.agg (frC f vd vr)) ?_ (HW.out _ rfl) ?_); (iterate 3 exact rfl))
  | fail)
 refine (HR.out).mono ?_
 rintro e w1 ⟨rfl, hM1⟩
 have HM1 := Lib.hid (HM.out.trans hM1)
 have HF1 := Lib.hid (HF0.out.kept hM1)
 have c0 := HF1.out.cells.1
 clear hM1 e0
 go_upto_region 8 with fail
 go_cut [4] (fun s4 wx => ∃ ap cp, s4 = .slice ap ([UInt8.ofNat n].length + (intsL [f.id]).length) cp ∧ Hid (OwnB wx w.heap.size (.slice ap ([UInt8.ofNat n].length + (intsL [f.id]).length) cp) (UInt8.ofNat n :: putL f.id) ∧ FrB wx w.heap.size f vd vr ∧ Mod (fun _ => False) w wx))
 case first =>
  refine wp_region_held_drew (S := fun X => FrB X w.heap.size f vd vr ∧ Mod (fun _ => False) w X) (by kernel_rfl) ⟨HF1.out.kept (Mod.refl _ _).drew, HM1.out.drew⟩ (fun hS => ?_)
  refine tk 0 (.pointer (some ⟨w.heap.size, 2, none⟩)) (some 42) rfl rfl (by kernel_rfl) (fun _ _ _ => id) (Or.inl ⟨by rfl, fun X hX => ?_⟩) hS ?_
  ·go_simp
  (try go_frame); refine tk 1 (.int .u64 (f.a : Int)) (some 43) rfl rfl (by kernel_rfl) (fun _ _ _ => id) (Or.inl ⟨by rfl, fun X hX => ?_⟩) hS ?_
  ·have := hX.1.cells.2.2.1; go_simp
  (try go_frame); refine tk 2 (.bool ba) (some 44) rfl rfl (by kernel_rfl) (fun _ _ _ => id) (Or.inl ⟨by rfl, fun X hX => ?_⟩) hS ?_
  ·go_simp
  (try go_frame); refine tk 5 (.pointer (some ⟨w.heap.size, 5, none⟩)) (some 47) rfl rfl (by kernel_rfl) (fun _ _ _ => id) (Or.inl ⟨by rfl, fun X hX => ?_⟩) hS ?_
  ·go_simp
  (try go_frame); refine tk 6 (.bool f.fl) (some 48) rfl rfl (by kernel_rfl) (fun _ _ _ => id) (Or.inl ⟨by rfl, fun X hX => ?_⟩) hS ?_
  ·have := hX.1.cells.2.2.2.2.2.1; go_simp
  (try go_frame); refine tk 11 (.pointer (some ⟨w.heap.size, 1, none⟩)) (some 53) rfl rfl (by kernel_rfl) (fun _ _ _ => id) (Or.inl ⟨by rfl, fun X hX => ?_⟩) hS ?_
  ·go_simp
  (try go_frame); refine tk 12 (.int .u64 (f.id : Int)) (some 54) rfl rfl (by kernel_rfl) (fun _ _ _ => id) (Or.inl ⟨by rfl, fun X hX => ?_⟩) hS ?_
  ·have := hX.1.cells.2.1; go_simp
  (try go_frame)
  generalize w1.drew = W0 at *
  refine wpAnyH_ready (rs := [3, 13]) (by kernel_rfl) (by simp) ?_
  refine AllReadyH.cons rfl (fun K hK => ?_) (AllReadyH.cons rfl (fun K hK => ?_) AllReadyH.nil)
  ·skip
   go_simp
   refine (bit_any _ _ _).mono ?_
   rintro e w' ⟨rfl, rfl⟩
   refine hK.out _ _ hS (fun hS => ?_)
   clear hK K
   refine tk 4 (.int .i64 o1) (some 46) rfl rfl (by kernel_rfl) (fun _ _ _ => id) (Or.inl ⟨by rfl, fun X hX => ?_⟩) hS ?_
   ·go_simp
   (try go_frame); refine wpAnyH_ready (rs := [7, 13]) (by kernel_rfl) (by simp) ?_
   refine AllReadyH.cons rfl (fun K hK => ?_) (AllReadyH.cons rfl (fun K hK => ?_) AllReadyH.nil)
   ·skip
    go_simp
    refine (bit_any _ _ _).mono ?_
    rintro e w' ⟨rfl, rfl⟩
    refine hK.out _ _ hS (fun hS => ?_)
    clear hK K
    refine tk 8 (.int .i64 z) (some 50) rfl rfl (by kernel_rfl) (fun _ _ _ => id) (Or.inl ⟨by rfl, fun X hX => ?_⟩) hS ?_
    ·go_simp
    (try go_frame); refine tk 9 (.int .u8 z) (some 51) rfl rfl (by kernel_rfl) (fun _ _ _ => id) (Or.inl ⟨by rfl, fun X hX => ?_⟩) hS ?_
    ·go_simp
    (try go_frame); refine wpAnyH_ready (rs := [10, 13]) (by kernel_rfl) (by simp) ?_
    refine AllReadyH.cons rfl (fun K hK => ?_) (AllReadyH.cons rfl (fun K hK => ?_) AllReadyH.nil)
    ·skip
     go_simp
     have hk10 := (Mod.refl (fun _ => False) W0).alloc (.cells #[.int .u8 z] 5)
     have hO := tag_own W0 w.heap.size HZN.out HZ.out hS.2.size
     refine hK.out _ _ ⟨hS.1.kept hk10, hS.2.trans hk10⟩ (fun hS => ?_)
     clear hK K
     generalize hg10 : W0.alloc (.cells #[.int .u8 z] 5) = W10 at *
     refine wpAnyH_ready (rs := [13]) (by kernel_rfl) (by simp) ?_
     refine arH rfl fun K hK => ?_
     go_simp
     have hk13 := (Mod.refl (fun _ => False) W10).alloc (.cells #[.int .u64 (f.id : Int)] 26)
     have hI := ints1 (w := W10) (a := f.id) rfl
     refine hK.out _ _ ⟨hS.1.kept hk13, hS.2.trans hk13⟩ (fun hS => ?_)
     clear hK K
     generalize hg13 : W10.alloc (.cells #[.int .u64 (f.id : Int)] 26) = W13 at *
     refine wpAnyH_ready (rs := [14]) (by kernel_rfl) (by simp) ?_
     refine arH rfl fun K hK => ?_
     go_simp
     refine (ints_any (hS.2.tabs HT.out (fun h => h)) hI (by simp)).mono ?_
     rintro e W14 ⟨v14, rfl, ho14, hk14⟩
     refine hK.out _ _ ⟨hS.1.kept hk14, hS.2.trans hk14⟩ (fun hS => ?_)
     clear hK K
     refine wpAnyH_ready (rs := [15]) (by kernel_rfl) (by simp) ?_
     refine arH rfl fun K hK => ?_
     refine step_append_b rfl (.tmp 52) (.tmp 56) rfl (.slice (some ⟨W0.heap.size, 0, none⟩) 1 1) [UInt8.ofNat n] w.heap.size _ (by rfl) ((hO.keptF hk13).keptF hk14) v14 (intsL [f.id]) (by rfl) ho14.byts (UInt8.ofNat n :: putL f.id) HCAT.out rfl HLEN1.out hS.2.size ?_
     intro ap cp X3 hA
     (try go_frame)
     have hM3 : Mod (fun _ => False) w X3 := hA.modF hS.2 (Nat.le_refl _)
     have hB3 := (hA.mod (w0 := W14) (S := fun k => (Value.slice (some ⟨W0.heap.size, 0, none⟩) 1 1).ownBlock = some k) (Mod.refl _ _) (fun g hg _ => hg)).blk hS.1.blk (OwnB.apart ((hO.keptF hk13).keptF hk14) hS.1.blk (by decide))
     refine hK.out _ _ ⟨⟨hB3, H16.out⟩, hM3⟩ (fun hS => ?_)
     clear hK K
     refine wpAnyH_ready (rs := [16]) (by kernel_rfl) (by simp) ?_
     refine arH rfl fun K hK => ?_
     go_simp
     refine hK.out _ _ hS (fun hS => ?_)
     clear hK K
     refine wpAnyH_done (by kernel_rfl) ?_ _
     go_wp2_with fail
     go_meet
     exact ⟨ap, cp, rfl, ⟨hA.own, hS.1, hM3⟩⟩
    ·skip
     go_simp
     have hk13 := (Mod.refl (fun _ => False) W0).alloc (.cells #[.int .u64 (f.id : Int)] 26)
     have hI := ints1 (w := W0) (a := f.id) rfl
     refine hK.out _ _ ⟨hS.1.kept hk13, hS.2.trans hk13⟩ (fun hS => ?_)
     clear hK K
     generalize hg13 : W0.alloc (.cells #[.int .u64 (f.id : Int)] 26) = W13 at *
     refine wpAnyH_ready (rs := [10, 14]) (by kernel_rfl) (by simp) ?_
     refine AllReadyH.cons rfl (fun K hK => ?_) (AllReadyH.cons rfl (fun K hK => ?_) AllReadyH.nil)
     ·skip
      go_simp
      have hk10 := (Mod.refl (fun _ => False) W13).alloc (.cells #[.int .u8 z] 5)
      have hO := tag_own W13 w.heap.size HZN.out HZ.out hS.2.size
      refine hK.out _ _ ⟨hS.1.kept hk10, hS.2.trans hk10⟩ (fun hS => ?_)
      clear hK K
      generalize hg10 : W13.alloc (.cells #[.int .u8 z] 5) = W10 at *
      refine wpAnyH_ready (rs := [14]) (by kernel_rfl) (by simp) ?_
      refine arH rfl fun K hK => ?_
      go_simp
      refine (ints_any (hS.2.tabs HT.out (fun h => h)) (Sl.kept hI hk10 (fun _ _ h => h)) (by simp)).mono ?_
      rintro e W14 ⟨v14, rfl, ho14, hk14⟩
      refine hK.out _ _ ⟨hS.1.kept hk14, hS.2.trans hk14⟩ (fun hS => ?_)
      clear hK K
      refine wpAnyH_ready (rs := [15]) (by kernel_rfl) (by simp) ?_
      refine arH rfl fun K hK => ?_
      refine step_append_b rfl (.tmp 52) (.tmp 56) rfl (.slice (some ⟨W13.heap.size, 0, none⟩) 1 1) [UInt8.ofNat n] w.heap.size _ (by rfl) (hO.keptF hk14) v14 (intsL [f.id]) (by rfl) ho14.byts (UInt8.ofNat n :: putL f.id) HCAT.out rfl HLEN1.out hS.2.size ?_
      intro ap cp X3 hA
      (try go_frame)
      have hM3 : Mod (fun _ => False) w X3 := hA.modF hS.2 (Nat.le_refl _)
      have hB3 := (hA.mod (w0 := W14) (S := fun k => (Value.slice (some ⟨W13.heap.size, 0, none⟩) 1 1).ownBlock = some k) (Mod.refl _ _) (fun g hg _ => hg)).blk hS.1.blk (OwnB.apart (hO.keptF hk14) hS.1.blk (by decide))
      refine hK.out _ _ ⟨⟨hB3, H16.out⟩, hM3⟩ (fun hS => ?_)
      clear hK K
      refine wpAnyH_ready (rs := [16]) (by kernel_rfl) (by simp) ?_
      refine arH rfl fun K hK => ?_
      go_simp
      refine hK.out _ _ hS (fun hS => ?_)
      clear hK K
      refine wpAnyH_done (by kernel_rfl) ?_ _
      go_wp2_with fail
      go_meet
      exact ⟨ap, cp, rfl, ⟨hA.own, hS.1, hM3⟩⟩
     ·skip
      go_simp
      refine (ints_any (hS.2.tabs HT.out (fun h => h)) hI (by simp)).mono ?_
      rintro e W14 ⟨v14, rfl, ho14, hk14⟩
      refine hK.out _ _ ⟨hS.1.kept hk14, hS.2.trans hk14⟩ (fun hS => ?_)
      clear hK K
      refine wpAnyH_ready (rs := [10]) (by kernel_rfl) (by simp) ?_
      refine arH rfl fun K hK => ?_
      go_simp
      have hk10 := (Mod.refl (fun _ => False) W14).alloc (.cells #[.int .u8 z] 5)
      have hO := tag_own W14 w.heap.size HZN.out HZ.out hS.2.size
      refine hK.out _ _ ⟨hS.1.kept hk10, hS.2.trans hk10⟩ (fun hS => ?_)
      clear hK K
      generalize hg10 : W14.alloc (.cells #[.int .u8 z] 5) = W10 at *
      refine wpAnyH_ready (rs := [15]) (by kernel_rfl) (by simp) ?_
      refine arH rfl fun K hK => ?_
      refine step_append_b rfl (.tmp 52) (.tmp 56) rfl (.slice (some ⟨W14.heap.size, 0, none⟩) 1 1) [UInt8.ofNat n] w.heap.size _ (by rfl) hO v14 (intsL [f.id]) (by rfl) (byts_kept ho14.byts hk10) (UInt8.ofNat n :: putL f.id) HCAT.out rfl HLEN1.out hS.2.size ?_
      intro ap cp X3 hA
      (try go_frame)
      have hM3 : Mod (fun _ => False) w X3 := hA.modF hS.2 (Nat.le_refl _)
      have hB3 := (hA.mod (w0 := W10) (S := fun k => (Value.slice (some ⟨W14.heap.size, 0, none⟩) 1 1).ownBlock = some k) (Mod.refl _ _) (fun g hg _ => hg)).blk hS.1.blk (OwnB.apart hO hS.1.blk (by decide))
      refine hK.out _ _ ⟨⟨hB3, H16.out⟩, hM3⟩ (fun hS => ?_)
      clear hK K
      refine wpAnyH_ready (rs := [16]) (by kernel_rfl) (by simp) ?_
      refine arH rfl fun K hK => ?_
      go_simp
      refine hK.out _ _ hS (fun hS => ?_)
      clear hK K
      refine wpAnyH_done (by kernel_rfl) ?_ _
      go_wp2_with fail
      go_meet
      exact ⟨ap, cp, rfl, ⟨hA.own, hS.1, hM3⟩⟩
   ·skip
    go_simp
    have hk13 := (Mod.refl (fun _ => False) W0).alloc (.cells #[.int .u64 (f.id : Int)] 26)
    have hI := ints1 (w := W0) (a := f.id) rfl
    refine hK.out _ _ ⟨hS.1.kept hk13, hS.2.trans hk13⟩ (fun hS => ?_)
    clear hK K
    generalize hg13 : W0.alloc (.cells #[.int .u64 (f.id : Int)] 26) = W13 at *
    refine wpAnyH_ready (rs := [7]) (by kernel_rfl) (by simp) ?_
    refine arH rfl fun K hK => ?_
    go_simp
    refine (bit_any _ _ _).mono ?_
    rintro e w' ⟨rfl, rfl⟩
    refine hK.out _ _ hS (fun hS => ?_)
    clear hK K
    refine tk 8 (.int .i64 z) (some 50) rfl rfl (by kernel_rfl) (fun _ _ _ => id) (Or.inl ⟨by rfl, fun X hX => ?_⟩) hS ?_
    ·go_simp
    (try go_frame); refine tk 9 (.int .u8 z) (some 51) rfl rfl (by kernel_rfl) (fun _ _ _ => id) (Or.inl ⟨by rfl, fun X hX => ?_⟩) hS ?_
    ·go_simp
    (try go_frame); refine wpAnyH_ready (rs := [10, 14]) (by kernel_rfl) (by simp) ?_
    refine AllReadyH.cons rfl (fun K hK => ?_) (AllReadyH.cons rfl (fun K hK => ?_) AllReadyH.nil)
    ·skip
     go_simp
     have hk10 := (Mod.refl (fun _ => False) W13).alloc (.cells #[.int .u8 z] 5)
     have hO := tag_own W13 w.heap.size HZN.out HZ.out hS.2.size
     refine hK.out _ _ ⟨hS.1.kept hk10, hS.2.trans hk10⟩ (fun hS => ?_)
     clear hK K
     generalize hg10 : W13.alloc (.cells #[.int .u8 z] 5) = W10 at *
     refine wpAnyH_ready (rs := [14]) (by kernel_rfl) (by simp) ?_
     refine arH rfl fun K hK => ?_
     go_simp
     refine (ints_any (hS.2.tabs HT.out (fun h => h)) (Sl.kept hI hk10 (fun _ _ h => h)) (by simp)).mono ?_
     rintro e W14 ⟨v14, rfl, ho14, hk14⟩
     refine hK.out _ _ ⟨hS.1.kept hk14, hS.2.trans hk14⟩ (fun hS => ?_)
     clear hK K
     refine wpAnyH_ready (rs := [15]) (by kernel_rfl) (by simp) ?_
     refine arH rfl fun K hK => ?_
     refine step_append_b rfl (.tmp 52) (.tmp 56) rfl (.slice (some ⟨W13.heap.size, 0, none⟩) 1 1) [UInt8.ofNat n] w.heap.size _ (by rfl) (hO.keptF hk14) v14 (intsL [f.id]) (by rfl) ho14.byts (UInt8.ofNat n :: putL f.id) HCAT.out rfl HLEN1.out hS.2.size ?_
     intro ap cp X3 hA
     (try go_frame)
     have hM3 : Mod (fun _ => False) w X3 := hA.modF hS.2 (Nat.le_refl _)
     have hB3 := (hA.mod (w0 := W14) (S := fun k => (Value.slice (some ⟨W13.heap.size, 0, none⟩) 1 1).ownBlock = some k) (Mod.refl _ _) (fun g hg _ => hg)).blk hS.1.blk (OwnB.apart (hO.keptF hk14) hS.1.blk (by decide))
     refine hK.out _ _ ⟨⟨hB3, H16.out⟩, hM3⟩ (fun hS => ?_)
     clear hK K
     refine wpAnyH_ready (rs := [16]) (by kernel_rfl) (by simp) ?_
     refine arH rfl fun K hK => ?_
     go_simp
     refine hK.out _ _ hS (fun hS => ?_)
     clear hK K
     refine wpAnyH_done (by kernel_rfl) ?_ _
     go_wp2_with fail
     go_meet
     exact ⟨ap, cp, rfl, ⟨hA.own, hS.1, hM3⟩⟩
    ·skip
     go_simp
     refine (ints_any (hS.2.tabs HT.out (fun h => h)) hI (by simp)).mono ?_
     rintro e W14 ⟨v14, rfl, ho14, hk14⟩
     refine hK.out _ _ ⟨hS.1.kept hk14, hS.2.trans hk14⟩ (fun hS => ?_)
     clear hK K
     refine wpAnyH_ready (rs := [10]) (by kernel_rfl) (by simp) ?_
     refine arH rfl fun K hK => ?_
     go_simp
     have hk10 := (Mod.refl (fun _ => False) W14).alloc (.cells #[.int .u8 z] 5)
     have hO := tag_own W14 w.heap.size HZN.out HZ.out hS.2.size
     refine hK.out _ _ ⟨hS.1.kept hk10, hS.2.trans hk10⟩ (fun hS => ?_)
     clear hK K
     generalize hg10 : W14.alloc (.cells #[.int .u8 z] 5) = W10 at *
     refine wpAnyH_ready (rs := [15]) (by kernel_rfl) (by simp) ?_
     refine arH rfl fun K hK => ?_
     refine step_append_b rfl (.tmp 52) (.tmp 56) rfl (.slice (some ⟨W14.heap.size, 0, none⟩) 1 1) [UInt8.ofNat n] w.heap.size _ (by rfl) hO v14 (intsL [f.id]) (by rfl) (byts_kept ho14.byts hk10) (UInt8.ofNat n :: putL f.id) HCAT.out rfl HLEN1.out hS.2.size ?_
     intro ap cp X3 hA
     (try go_frame)
     have hM3 : Mod (fun _ => False) w X3 := hA.modF hS.2 (Nat.le_refl _)
     have hB3 := (hA.mod (w0 := W10) (S := fun k => (Value.slice (some ⟨W14.heap.size, 0, none⟩) 1 1).ownBlock = some k) (Mod.refl _ _) (fun g hg _ => hg)).blk hS.1.blk (OwnB.apart hO hS.1.blk (by decide))
     refine hK.out _ _ ⟨⟨hB3, H16.out⟩, hM3⟩ (fun hS => ?_)
     clear hK K
     refine wpAnyH_ready (rs := [16]) (by kernel_rfl) (by simp) ?_
     refine arH rfl fun K hK => ?_
     go_simp
     refine hK.out _ _ hS (fun hS => ?_)
     clear hK K
     refine wpAnyH_done (by kernel_rfl) ?_ _
     go_wp2_with fail
     go_meet
     exact ⟨ap, cp, rfl, ⟨hA.own, hS.1, hM3⟩⟩
  ·skip
   go_simp
   have hk13 := (Mod.refl (fun _ => False) W0).alloc (.cells #[.int .u64 (f.id : Int)] 26)
   have hI := ints1 (w := W0) (a := f.id) rfl
   refine hK.out _ _ ⟨hS.1.kept hk13, hS.2.trans hk13⟩ (fun hS => ?_)
   clear hK K
   generalize hg13 : W0.alloc (.cells #[.int .u64 (f.id : Int)] 26) = W13 at *
   refine wpAnyH_ready (rs := [3]) (by kernel_rfl) (by simp) ?_
   refine arH rfl fun K hK => ?_
   go_simp
   refine (bit_any _ _ _).mono ?_
   rintro e w' ⟨rfl, rfl⟩
   refine hK.out _ _ hS (fun hS => ?_)
   clear hK K
   refine tk 4 (.int .i64 o1) (some 46) rfl rfl (by kernel_rfl) (fun _ _ _ => id) (Or.inl ⟨by rfl, fun X hX => ?_⟩) hS ?_
   ·go_simp
   (try go_frame); refine wpAnyH_ready (rs := [7]) (by kernel_rfl) (by simp) ?_
   refine arH rfl fun K hK => ?_
   go_simp
   refine (bit_any _ _ _).mono ?_
   rintro e w' ⟨rfl, rfl⟩
   refine hK.out _ _ hS (fun hS => ?_)
   clear hK K
   refine tk 8 (.int .i64 z) (some 50) rfl rfl (by kernel_rfl) (fun _ _ _ => id) (Or.inl ⟨by rfl, fun X hX => ?_⟩) hS ?_
   ·go_simp
   (try go_frame); refine tk 9 (.int .u8 z) (some 51) rfl rfl (by kernel_rfl) (fun _ _ _ => id) (Or.inl ⟨by rfl, fun X hX => ?_⟩) hS ?_
   ·go_simp
   (try go_frame); refine wpAnyH_ready (rs := [10, 14]) (by kernel_rfl) (by simp) ?_
   refine AllReadyH.cons rfl (fun K hK => ?_) (AllReadyH.cons rfl (fun K hK => ?_) AllReadyH.nil)
   ·skip
    go_simp
    have hk10 := (Mod.refl (fun _ => False) W13).alloc (.cells #[.int .u8 z] 5)
    have hO := tag_own W13 w.heap.size HZN.out HZ.out hS.2.size
    refine hK.out _ _ ⟨hS.1.kept hk10, hS.2.trans hk10⟩ (fun hS => ?_)
    clear hK K
    generalize hg10 : W13.alloc (.cells #[.int .u8 z] 5) = W10 at *
    refine wpAnyH_ready (rs := [14]) (by kernel_rfl) (by simp) ?_
    refine arH rfl fun K hK => ?_
    go_simp
    refine (ints_any (hS.2.tabs HT.out (fun h => h)) (Sl.kept hI hk10 (fun _ _ h => h)) (by simp)).mono ?_
    rintro e W14 ⟨v14, rfl, ho14, hk14⟩
    refine hK.out _ _ ⟨hS.1.kept hk14, hS.2.trans hk14⟩ (fun hS => ?_)
    clear hK K
    refine wpAnyH_ready (rs := [15]) (by kernel_rfl) (by simp) ?_
    refine arH rfl fun K hK => ?_
    refine step_append_b rfl (.tmp 52) (.tmp 56) rfl (.slice (some ⟨W13.heap.size, 0, none⟩) 1 1) [UInt8.ofNat n] w.heap.size _ (by rfl) (hO.keptF hk14) v14 (intsL [f.id]) (by rfl) ho14.byts (UInt8.ofNat n :: putL f.id) HCAT.out rfl HLEN1.out hS.2.size ?_
    intro ap cp X3 hA
    (try go_frame)
    have hM3 : Mod (fun _ => False) w X3 := hA.modF hS.2 (Nat.le_refl _)
    have hB3 := (hA.mod (w0 := W14) (S := fun k => (Value.slice (some ⟨W13.heap.size, 0, none⟩) 1 1).ownBlock = some k) (Mod.refl _ _) (fun g hg _ => hg)).blk hS.1.blk (OwnB.apart (hO.keptF hk14) hS.1.blk (by decide))
    refine hK.out _ _ ⟨⟨hB3, H16.out⟩, hM3⟩ (fun hS => ?_)
    clear hK K
    refine wpAnyH_ready (rs := [16]) (by kernel_rfl) (by simp) ?_
    refine arH rfl fun K hK => ?_
    go_simp
    refine hK.out _ _ hS (fun hS => ?_)
    clear hK K
    refine wpAnyH_done (by kernel_rfl) ?_ _
    go_wp2_with fail
    go_meet
    exact ⟨ap, cp, rfl, ⟨hA.own, hS.1, hM3⟩⟩
   ·skip
    go_simp
    refine (ints_any (hS.2.tabs HT.out (fun h => h)) hI (by simp)).mono ?_
    rintro e W14 ⟨v14, rfl, ho14, hk14⟩
    refine hK.out _ _ ⟨hS.1.kept hk14, hS.2.trans hk14⟩ (fun hS => ?_)
    clear hK K
    refine wpAnyH_ready (rs := [10]) (by kernel_rfl) (by simp) ?_
    refine arH rfl fun K hK => ?_
    go_simp
    have hk10 := (Mod.refl (fun _ => False) W14).alloc (.cells #[.int .u8 z] 5)
    have hO := tag_own W14 w.heap.size HZN.out HZ.out hS.2.size
    refine hK.out _ _ ⟨hS.1.kept hk10, hS.2.trans hk10⟩ (fun hS => ?_)
    clear hK K
    generalize hg10 : W14.alloc (.cells #[.int .u8 z] 5) = W10 at *
    refine wpAnyH_ready (rs := [15]) (by kernel_rfl) (by simp) ?_
    refine arH rfl fun K hK => ?_
    refine step_append_b rfl (.tmp 52) (.tmp 56) rfl (.slice (some ⟨W14.heap.size, 0, none⟩) 1 1) [UInt8.ofNat n] w.heap.size _ (by rfl) hO v14 (intsL [f.id]) (by rfl) (byts_kept ho14.byts hk10) (UInt8.ofNat n :: putL f.id) HCAT.out rfl HLEN1.out hS.2.size ?_
    intro ap cp X3 hA
    (try go_frame)
    have hM3 : Mod (fun _ => False) w X3 := hA.modF hS.2 (Nat.le_refl _)
    have hB3 := (hA.mod (w0 := W10) (S := fun k => (Value.slice (some ⟨W14.heap.size, 0, none⟩) 1 1).ownBlock = some k) (Mod.refl _ _) (fun g hg _ => hg)).blk hS.1.blk (OwnB.apart hO hS.1.blk (by decide))
    refine hK.out _ _ ⟨⟨hB3, H16.out⟩, hM3⟩ (fun hS => ?_)
    clear hK K
    refine wpAnyH_ready (rs := [16]) (by kernel_rfl) (by simp) ?_
    refine arH rfl fun K hK => ?_
    go_simp
    refine hK.out _ _ hS (fun hS => ?_)
    clear hK K
    refine wpAnyH_done (by kernel_rfl) ?_ _
    go_wp2_with fail
    go_meet
    exact ⟨ap, cp, rfl, ⟨hA.own, hS.1, hM3⟩⟩
 case rest =>
  obtain ⟨ap, cp, rfl, HC⟩ := hcut
  have c2 := HC.out.2.1.cells.2.2.1
  have c6 := HC.out.2.1.cells.2.2.2.2.2.2.1
  obtain ⟨n1, hn1⟩ : ∃ m, m = [UInt8.ofNat n].length + (intsL [f.id]).length := ⟨_, rfl⟩
  have hn9 : n1 = (UInt8.ofNat n :: putL f.id).length := by rw [hn1, HCAT.out, List.length_append]
  have hn1l : (n1 : Int) ≤ 100 := by rw [hn1]; have := intsL_len [f.id]; simp at this ⊢; omega
  rw [← hn1] at HC ⊢
  have HN1 := Lib.hid hn9
  clear hn1 hn9
  generalize hacc : UInt8.ofNat n :: putL f.id = acc at *
  clear hacc
  obtain ⟨da, dc, rfl, _⟩ := byts_val HV.out.d
  have HDT : Hid (∀ X, Mod (fun _ => False) w X → Calls Tryz.prog 66 #[.slice da f.d.length dc] X fun e Y => ∃ v', e = .returned v' ∧ OwnB Y X.heap.size v' (dataL f.d) ∧ Mod (fun _ => False) X Y) := fun X hX => data_any (hX.tabs HT.out (fun h => h)) (byts_kept HV.out.d hX) (by have := HDL.out; omega)
  have HLD : Hid ((dataL f.d).length ≤ 100100) := by show _ ≤ _; unfold dataL; have := putL_len f.d.length; have := HDL.out; simp; omega
  cases ba
  ·have HRES2 : Hid (fputL f = acc ++ dataL f.d) := by show _ = _; rw [HRES.out]; simp
   generalize dataL f.d = D at *
   go_wp2_with fail
   refine (HDT.out wc HC.out.2.2).mono ?_
   rintro e w3 ⟨v3, rfl, ho3, hk3⟩
   have HB3 := Lib.hid ho3.byts
   obtain ⟨a3, c3, rfl, _⟩ := byts_val ho3.byts
   have HK3 := Lib.hid hk3
   have HO3 := Lib.hid (HC.out.1.keptF hk3)
   have HL3 : Hid (((n1 + D.length : Nat) : Int) ≤ 140737488355328) := by show _ ≤ _; have := HLD.out; omega
   clear ho3 hk3
   generalize hnd : D.length = nd at *
   have HND := Lib.hid hnd
   clear hnd
   go_wp2_with (at_builtin; go_must (refine wpList_append_b rfl (.tmp 67) (.tmp 70) (by rfl) (.slice ap n1 cp) acc w.heap.size (n1 + nd) (by rfl) HO3.out _ D (by rfl) HB3.out (acc ++ D) rfl (by rw [← HN1.out, HND.out]) HL3.out (HC.out.2.2.trans HK3.out).size ?_); intro ap5 cp5 W5 hA5)
   go_ret
   exact ⟨_, rfl, by rw [HRES2.out]; exact hA5.own, hA5.modF (HC.out.2.2.trans HK3.out) (Nat.le_refl _)⟩
  ·have HRES2 : Hid (fputL f = (acc ++ putL f.a) ++ dataL f.d) := by show _ = _; rw [HRES.out]; simp
   have HIA : Hid (intsL [f.a] = putL f.a) := by show _ = _; simp [intsL]
   have HLA := Lib.hid (putL_len f.a)
   generalize dataL f.d = D at *
   have HC2 := Lib.hid (HC.out.2.2.alloc (.cells #[.int .u64 (f.a : Int)] 26))
   go_wp2_with fail
   refine (ints_any (HC2.out.tabs HT.out (fun h => h)) (ints1 (a := f.a) rfl) (by simp)).mono ?_
   rintro e w2 ⟨v2, rfl, ho2, hk2⟩
   have hC3 := (Mod.refl (fun _ => False) wc).alloc (.cells #[.int .u64 (f.a : Int)] 26)
   have hb2 := ho2.byts
   rw [HIA.out] at hb2
   have HB2 := Lib.hid hb2
   have HK2 := Lib.hid (HC2.out.trans hk2)
   have HO2 := Lib.hid ((HC.out.1.keptF hC3).keptF hk2)
   have HF2 := Lib.hid ((HC.out.2.1.kept hC3).kept hk2)
   obtain ⟨a2, c2', rfl, _⟩ := byts_val hb2
   generalize putL f.a = pa at *
   have HL2 : Hid (((n1 + pa.length : Nat) : Int) ≤ 140737488355328) := by show _ ≤ _; have := HLA.out; omega
   have hpa : (pa.length : Int) ≤ 8 := by have := HLA.out; omega
   generalize hnp : pa.length = np at *
   have HNP := Lib.hid hnp
   clear ho2 hk2 hb2 hnp hC3
   go_wp2_with (at_builtin; go_must (refine wpList_append_b rfl (.tmp 61) (.tmp 65) (by rfl) (.slice ap n1 cp) acc w.heap.size (n1 + np) (by rfl) HO2.out _ pa (by rfl) HB2.out (acc ++ pa) rfl (by rw [← HN1.out, HNP.out]) HL2.out HK2.out.size ?_); intro ap5 cp5 W5 hA5; have c66 : W5.cell? ⟨w.heap.size, 6, none⟩ = some (.slice da f.d.length dc) := ((hA5.mod (w0 := w2) (S := fun k => (Value.slice ap n1 cp).ownBlock = some k) (Mod.refl _ _) (fun g hg _ => hg)).blk HF2.out.blk (OwnB.apart HO2.out HF2.out.blk (by decide))).cellAt 6 rfl; have HA5 := Lib.hid hA5; have HM5 := Lib.hid (hA5.modF HK2.out (Nat.le_refl _)); clear hA5)
   refine (HDT.out W5 HM5.out).mono ?_
   rintro e w3 ⟨v3, rfl, ho3, hk3⟩
   have HB3 := Lib.hid ho3.byts
   obtain ⟨a3, c3, rfl, _⟩ := byts_val ho3.byts
   have HK3 := Lib.hid hk3
   have HO3 := Lib.hid (HA5.out.own.keptF hk3)
   have HL3 : Hid (((n1 + np + D.length : Nat) : Int) ≤ 140737488355328) := by show _ ≤ _; have := HLD.out; omega
   clear ho3 hk3
   generalize hnd : D.length = nd at *
   have HND := Lib.hid hnd
   clear hnd
   go_wp2_with (at_builtin; go_must (refine wpList_append_b rfl (.tmp 67) (.tmp 70) (by rfl) (.slice ap5 (n1 + np) cp5) (acc ++ pa) w.heap.size (n1 + np + nd) (by rfl) HO3.out _ D (by rfl) HB3.out ((acc ++ pa) ++ D) rfl (by rw [List.length_append, ← HN1.out, HNP.out, HND.out]) HL3.out (HM5.out.trans HK3.out).size ?_); intro ap6 cp6 W6 hA6)
   go_ret
   exact ⟨_, rfl, by rw [HRES2.out]; exact hA6.own, hA6.modF (HM5.out.trans HK3.out) (Nat.le_refl _)⟩
end Go.Proofs.YtolgeghdkoodnaaGreatDoor
set_option maxRecDepth 100000
namespace Go.Proofs.YtolgeghdkoodnaaGreatDoor
open Go.RowKit
theorem entp_kinds_10 : Enter 101 := fun _ _ => by kernel_rfl
theorem entp_kinds_11 : Enter 102 := fun _ _ => by kernel_rfl
theorem entp_kinds_12 : Enter 103 := fun _ _ => by kernel_rfl
theorem entp_kinds_13 : Enter 104 := fun _ _ => by kernel_rfl
theorem entp_kinds_17 : Enter 108 := fun _ _ => by kernel_rfl
theorem entp_kinds_20 : Enter 115 := fun _ _ => by kernel_rfl
theorem entp_kinds_23 : Enter 118 := fun _ _ => by kernel_rfl
theorem entp_kinds_26 : Enter 122 := fun _ _ => by kernel_rfl
theorem entp_kinds_29 : Enter 126 := fun _ _ => by kernel_rfl
theorem entp_kinds_34 : Enter 132 := fun _ _ => by kernel_rfl
theorem entp_kinds_37 : Enter 137 := fun _ _ => by kernel_rfl
theorem entp_kinds_40 : Enter 140 := fun _ _ => by kernel_rfl
theorem entp_putAck : Enter 112 := fun _ _ => by kernel_rfl
theorem kind_cases {k : Int} {m : Mk} (h : maskK k = some m) : k = 0 ∨ k = 1 ∨ k = 2 ∨ k = 4 ∨ k = 5 ∨ k = 6 ∨ k = 7 ∨ k = 8 ∨ k = 16 ∨ k = 17 ∨ k = 18 ∨ k = 20 ∨ k = 21 ∨ k = 22 ∨ k = 24 ∨ k = 25 ∨ k = 26 ∨ k = 27 ∨ k = 28 ∨ k = 30 := by
 unfold maskK at h
 split at h
 ·unfold maskN at h
  split at h <;> first | omega | cases h
 ·cases h
theorem right_parts {f : Fr} (h : rightF f = true) : ∃ m, maskK f.k = some m ∧ topB f = true ∧ f = onlyF m f ∧ okN f.k.toNat f = true := by
 unfold rightF at h
 split at h
 ·cases h
 ·rename_i m hm
  simp only [Bool.and_eq_true, sameF, decide_eq_true_eq] at h
  exact ⟨m, hm, h.1.1, h.1.2, h.2⟩
theorem fl_of {f : Fr} (h : rightF f = true) (hk : f.k ≠ 8 ∧ f.k ≠ 18 ∧ f.k ≠ 22 ∧ f.k ≠ 28) : f.fl = false := by
 obtain ⟨m, hm, _, he, _⟩ := right_parts h
 have hfl : f.fl = (onlyF m f).fl := congrArg Fr.fl he
 have hm2 := hm
 rcases kind_cases hm with h | h | h | h | h | h | h | h | h | h | h | h | h | h | h | h | h | h | h | h <;> (rw [h] at hm2; first | omega | (obtain rfl := Option.some.inj hm2; rw [hfl]; rfl))
theorem ok_at {f : Fr} (h : rightF f = true) {k : Nat} (hk : f.k = (k : Int)) : okN k f = true := by
 obtain ⟨m, hm, _, he, ho⟩ := right_parts h
 rw [hk] at ho
 exact ho
theorem tag_plain {f : Fr} (h : rightF f = true) (hk : f.k ≠ 8 ∧ f.k ≠ 18 ∧ f.k ≠ 22 ∧ f.k ≠ 28) (h0 : 0 ≤ f.k) : (tagN f : Int) = f.k := by
 unfold tagN
 rw [if_neg hk.1, fl_of h hk]
 simp; omega
theorem tag_flag {f : Fr} {k : Nat} (hk : f.k = (k : Int)) (h8 : k ≠ 8) : (tagN f : Int) = k + bitN f.fl 1 := by
 unfold tagN bitN
 rw [if_neg (by omega), hk]
 cases f.fl <;> simp
theorem right_len {f : Fr} (h : rightF f = true) : f.d.length ≤ 1200 ∧ f.rs.length ≤ 16 := by
 obtain ⟨m, hm, _, he, ho⟩ := right_parts h
 have hd : f.d = (onlyF m f).d := congrArg Fr.d he
 have hr : f.rs = (onlyF m f).rs := congrArg Fr.rs he
 have hm2 := hm
 rcases kind_cases hm with hk | hk | hk | hk | hk | hk | hk | hk | hk | hk | hk | hk | hk | hk | hk | hk | hk | hk | hk | hk
 ·rw [hk] at hm2 ho
  obtain rfl := Option.some.inj hm2
  have h1 : f.d = [] := hd
  have h2 : f.rs = [] := hr
  rw [h1, h2]
  exact ⟨by simp, by simp⟩
 ·rw [hk] at hm2 ho
  obtain rfl := Option.some.inj hm2
  have h1 : f.d = [] := hd
  have h2 : f.rs = [] := hr
  rw [h1, h2]
  exact ⟨by simp, by simp⟩
 ·rw [hk] at hm2 ho
  obtain rfl := Option.some.inj hm2
  have h1 : okN 2 f = true := ho
  simp only [okN, rangesB, Bool.and_eq_true, decide_eq_true_eq] at h1
  have h2 : f.d = [] := hd
  rw [h2]
  exact ⟨by simp, h1.2⟩
 ·rw [hk] at hm2 ho
  obtain rfl := Option.some.inj hm2
  have h1 : f.d = [] := hd
  have h2 : f.rs = [] := hr
  rw [h1, h2]
  exact ⟨by simp, by simp⟩
 ·rw [hk] at hm2 ho
  obtain rfl := Option.some.inj hm2
  have h1 : f.d = [] := hd
  have h2 : f.rs = [] := hr
  rw [h1, h2]
  exact ⟨by simp, by simp⟩
 ·rw [hk] at hm2 ho
  obtain rfl := Option.some.inj hm2
  have h1 : okN 6 f = true := ho
  simp only [okN, Bool.and_eq_true, decide_eq_true_eq] at h1
  have h2 : f.rs = [] := hr
  rw [h2]
  exact ⟨by omega, by simp⟩
 ·rw [hk] at hm2 ho
  obtain rfl := Option.some.inj hm2
  have h1 : okN 7 f = true := ho
  simp only [okN, Bool.and_eq_true, decide_eq_true_eq] at h1
  have h2 : f.rs = [] := hr
  rw [h2]
  exact ⟨by omega, by simp⟩
 ·rw [hk] at hm2 ho
  obtain rfl := Option.some.inj hm2
  have h1 : okN 8 f = true := ho
  simp only [okN, Bool.and_eq_true, decide_eq_true_eq] at h1
  have h2 : f.rs = [] := hr
  rw [h2]
  exact ⟨by omega, by simp⟩
 ·rw [hk] at hm2 ho
  obtain rfl := Option.some.inj hm2
  have h1 : f.d = [] := hd
  have h2 : f.rs = [] := hr
  rw [h1, h2]
  exact ⟨by simp, by simp⟩
 ·rw [hk] at hm2 ho
  obtain rfl := Option.some.inj hm2
  have h1 : f.d = [] := hd
  have h2 : f.rs = [] := hr
  rw [h1, h2]
  exact ⟨by simp, by simp⟩
 ·rw [hk] at hm2 ho
  obtain rfl := Option.some.inj hm2
  have h1 : f.d = [] := hd
  have h2 : f.rs = [] := hr
  rw [h1, h2]
  exact ⟨by simp, by simp⟩
 ·rw [hk] at hm2 ho
  obtain rfl := Option.some.inj hm2
  have h1 : f.d = [] := hd
  have h2 : f.rs = [] := hr
  rw [h1, h2]
  exact ⟨by simp, by simp⟩
 ·rw [hk] at hm2 ho
  obtain rfl := Option.some.inj hm2
  have h1 : f.d = [] := hd
  have h2 : f.rs = [] := hr
  rw [h1, h2]
  exact ⟨by simp, by simp⟩
 ·rw [hk] at hm2 ho
  obtain rfl := Option.some.inj hm2
  have h1 : f.d = [] := hd
  have h2 : f.rs = [] := hr
  rw [h1, h2]
  exact ⟨by simp, by simp⟩
 ·rw [hk] at hm2 ho
  obtain rfl := Option.some.inj hm2
  have h1 : okN 24 f = true := ho
  simp only [okN, Bool.and_eq_true, decide_eq_true_eq] at h1
  have h2 : f.rs = [] := hr
  rw [h2]
  exact ⟨by omega, by simp⟩
 ·rw [hk] at hm2 ho
  obtain rfl := Option.some.inj hm2
  have h1 : f.d = [] := hd
  have h2 : f.rs = [] := hr
  rw [h1, h2]
  exact ⟨by simp, by simp⟩
 ·rw [hk] at hm2 ho
  obtain rfl := Option.some.inj hm2
  have h1 : okN 26 f = true := ho
  simp only [okN, decide_eq_true_eq] at h1
  have h2 : f.rs = [] := hr
  rw [h2]
  exact ⟨by omega, by simp⟩
 ·rw [hk] at hm2 ho
  obtain rfl := Option.some.inj hm2
  have h1 : okN 27 f = true := ho
  simp only [okN, decide_eq_true_eq] at h1
  have h2 : f.rs = [] := hr
  rw [h2]
  exact ⟨by omega, by simp⟩
 ·rw [hk] at hm2 ho
  obtain rfl := Option.some.inj hm2
  have h1 : okN 28 f = true := ho
  simp only [okN, Bool.and_eq_true, decide_eq_true_eq] at h1
  have h2 : f.rs = [] := hr
  rw [h2]
  exact ⟨by omega, by simp⟩
 ·rw [hk] at hm2 ho
  obtain rfl := Option.some.inj hm2
  have h1 : f.d = [] := hd
  have h2 : f.rs = [] := hr
  rw [h1, h2]
  exact ⟨by simp, by simp⟩
theorem body_len {f : Fr} (h : rightF f = true) (ht : f.t.length = 16) : (bodyN f.k.toNat f).length ≤ 2000 := by
 obtain ⟨hd, hr⟩ := right_len h
 obtain ⟨m, hm, _, _, ho⟩ := right_parts h
 have l1 := putL_len f.id
 have l2 := putL_len f.a
 have l3 := putL_len f.c
 have l4 := putL_len f.d.length
 have hack : (ackL f.b f.rs).length ≤ 2000 := by
  cases hrs : f.rs with
  | nil => simp [ackL]
  | cons x l =>
   rw [← ackUp_all]
   exact ackUp_len _ _ _ _ (by rw [hrs] at hr; simp at hr; omega)
 rcases kind_cases hm with hk | hk | hk | hk | hk | hk | hk | hk | hk | hk | hk | hk | hk | hk | hk | hk | hk | hk | hk | hk
 ·rw [hk] at ho ⊢
  have h1 : okN 0 f = true := ho
  simp only [okN, Bool.and_eq_true, decide_eq_true_eq] at h1
  show (List.replicate (f.a - 1) (0 : UInt8)).length ≤ 2000
  simp; omega
 ·rw [hk] at ho ⊢
  show ([] : List UInt8).length ≤ 2000
  simp
 ·rw [hk] at ho ⊢
  exact hack
 ·rw [hk] at ho ⊢
  show (putL f.id ++ putL f.c ++ putL f.a).length ≤ 2000
  simp only [List.length_append]
  omega
 ·rw [hk] at ho ⊢
  show (putL f.id ++ putL f.c).length ≤ 2000
  simp only [List.length_append]
  omega
 ·rw [hk] at ho ⊢
  show (putL f.a ++ dataL f.d).length ≤ 2000
  simp only [dataL, List.length_append]
  omega
 ·rw [hk] at ho ⊢
  show (dataL f.d).length ≤ 2000
  simp only [dataL, List.length_append]
  omega
 ·rw [hk] at ho ⊢
  show (putL f.id ++ (if f.a = 0 then [] else putL f.a) ++ dataL f.d).length ≤ 2000
  split <;> simp [dataL] <;> omega
 ·rw [hk] at ho ⊢
  show (putL f.a).length ≤ 2000
  omega
 ·rw [hk] at ho ⊢
  show (putL f.id ++ putL f.a).length ≤ 2000
  simp only [List.length_append]
  omega
 ·rw [hk] at ho ⊢
  show (putL f.a).length ≤ 2000
  omega
 ·rw [hk] at ho ⊢
  show (putL f.a).length ≤ 2000
  omega
 ·rw [hk] at ho ⊢
  show (putL f.id ++ putL f.a).length ≤ 2000
  simp only [List.length_append]
  omega
 ·rw [hk] at ho ⊢
  show (putL f.a).length ≤ 2000
  omega
 ·rw [hk] at ho ⊢
  show (putL f.id ++ putL f.a ++ [UInt8.ofNat f.d.length] ++ f.d ++ f.t).length ≤ 2000
  simp only [List.length_append, List.length_cons, List.length_nil]
  omega
 ·rw [hk] at ho ⊢
  show (putL f.id).length ≤ 2000
  omega
 ·rw [hk] at ho ⊢
  show (f.d).length ≤ 2000
  omega
 ·rw [hk] at ho ⊢
  show (f.d).length ≤ 2000
  omega
 ·rw [hk] at ho ⊢
  show (putL f.c ++ (bif f.fl then [] else putL f.a) ++ dataL f.d).length ≤ 2000
  cases f.fl <;> simp [dataL] <;> omega
 ·rw [hk] at ho ⊢
  show ([] : List UInt8).length ≤ 2000
  simp
theorem fput_any {w : World} {f : Fr} {vd vr : Value} (hT : Tabs w) (hv : FrV w f vd vr) (hrl : (f.rs.length : Int) ≤ 100000) (hok : okKey f.k) (hro : RngOk f) :
  Calls Tryz.prog 35 #[frV f vd vr] w fun e w' => ∃ v, e = .returned v ∧ OwnB w' w.heap.size v (fputL f) ∧ Mod (fun _ => False) w w' := by
 cases hr : rightF f
 ·exact fput_no hv hrl hok hro hr
 ·obtain ⟨m, hm, htop, _, _⟩ := right_parts hr
  have hd := (right_len hr).1
  have hb := Nat.le_trans (body_len hr hv.t) (show 2000 ≤ 100000 by decide)
  have hdi : (f.d.length : Int) ≤ 100000 := by omega
  have TB : ∀ X, Mod (fun _ => False) w X → Tabs X := fun X h => h.tabs hT (fun h => h)
  rcases kind_cases hm with hk | hk | hk | hk | hk | hk | hk | hk | hk | hk | hk | hk | hk | hk | hk | hk | hk | hk | hk | hk
  ·have ho := ok_at hr (k := 0) hk
   simp only [okN, Bool.and_eq_true, decide_eq_true_eq] at ho
   exact fput_plain hv hrl hok hro hr (n := tagN f) (by omega) (by omega) (by omega) (by omega) (tag_plain hr (by omega) (by omega)) rfl (by have := tag_plain hr (by omega) (by omega); omega) rfl hb (by rw [hk]; rfl) (fun X hX => by rw [hk]; exact put17 (by omega) (by omega)) entp_kinds_17 rfl
  ·have ho := ok_at hr (k := 1) hk
   exact fput_plain hv hrl hok hro hr (n := tagN f) (by omega) (by omega) (by omega) (by omega) (tag_plain hr (by omega) (by omega)) rfl (by have := tag_plain hr (by omega) (by omega); omega) rfl hb (by rw [hk]; rfl) (fun X hX => by rw [hk]; exact put13) entp_kinds_13 rfl
  ·have ho := ok_at hr (k := 2) hk
   simp only [okN, rangesB, Bool.and_eq_true, decide_eq_true_eq] at ho
   obtain ⟨x, l, hrs⟩ : ∃ x l, f.rs = x :: l := by
    cases h : f.rs with
    | nil => rw [h] at ho; simp at ho
    | cons x l => exact ⟨x, l, rfl⟩
   exact fput_plain hv hrl hok hro hr (n := tagN f) (by omega) (by omega) (by omega) (by omega) (tag_plain hr (by omega) (by omega)) rfl (by have := tag_plain hr (by omega) (by omega); omega) rfl hb (by rw [hk]; rfl) (fun X hX => by
    rw [hk]
    exact putack (TB X hX) (hv.kept hX) hrs ((rngB_iff _ _).1 ho.1.1) (by have := ho.2; rw [hrs] at this; simp at this; omega)) entp_putAck rfl
  ·have ho := ok_at hr (k := 4) hk
   exact fput_plain hv hrl hok hro hr (n := tagN f) (by omega) (by omega) (by omega) (by omega) (tag_plain hr (by omega) (by omega)) rfl (by have := tag_plain hr (by omega) (by omega); omega) rfl hb (by rw [hk]; rfl) (fun X hX => by rw [hk]; exact put20 (TB X hX)) entp_kinds_20 rfl
  ·have ho := ok_at hr (k := 5) hk
   exact fput_plain hv hrl hok hro hr (n := tagN f) (by omega) (by omega) (by omega) (by omega) (tag_plain hr (by omega) (by omega)) rfl (by have := tag_plain hr (by omega) (by omega); omega) rfl hb (by rw [hk]; rfl) (fun X hX => by rw [hk]; exact put23 (TB X hX)) entp_kinds_23 rfl
  ·have ho := ok_at hr (k := 6) hk
   exact fput_plain hv hrl hok hro hr (n := tagN f) (by omega) (by omega) (by omega) (by omega) (tag_plain hr (by omega) (by omega)) rfl (by have := tag_plain hr (by omega) (by omega); omega) rfl hb (by rw [hk]; rfl) (fun X hX => by rw [hk]; exact put26 (TB X hX) (hv.kept hX) hdi) entp_kinds_26 rfl
  ·have ho := ok_at hr (k := 7) hk
   exact fput_plain hv hrl hok hro hr (n := tagN f) (by omega) (by omega) (by omega) (by omega) (tag_plain hr (by omega) (by omega)) rfl (by have := tag_plain hr (by omega) (by omega); omega) rfl hb (by rw [hk]; rfl) (fun X hX => by rw [hk]; exact put29 (TB X hX) (hv.kept hX) hdi) entp_kinds_29 rfl
  ·exact fput_stream hT hv hrl hok hro hr hk (by omega)
  ·have ho := ok_at hr (k := 16) hk
   exact fput_plain hv hrl hok hro hr (n := tagN f) (by omega) (by omega) (by omega) (by omega) (tag_plain hr (by omega) (by omega)) rfl (by have := tag_plain hr (by omega) (by omega); omega) rfl hb (by rw [hk]; rfl) (fun X hX => by rw [hk]; exact put10 (TB X hX)) entp_kinds_10 rfl
  ·have ho := ok_at hr (k := 17) hk
   exact fput_plain hv hrl hok hro hr (n := tagN f) (by omega) (by omega) (by omega) (by omega) (tag_plain hr (by omega) (by omega)) rfl (by have := tag_plain hr (by omega) (by omega); omega) rfl hb (by rw [hk]; rfl) (fun X hX => by rw [hk]; exact put11 (TB X hX)) entp_kinds_11 rfl
  ·have ho := ok_at hr (k := 18) hk
   exact fput_k18 hv hrl hok hro hr (n := tagN f) hk (tag_flag (k := 18) hk (by decide)) rfl (by have := tag_flag (k := 18) hk (by decide); have := bitN_le f.fl 1 (by decide); omega) rfl hb (by rw [hk]; rfl) (fun X hX => by rw [hk]; exact put10 (TB X hX)) entp_kinds_10 rfl
  ·have ho := ok_at hr (k := 20) hk
   exact fput_plain hv hrl hok hro hr (n := tagN f) (by omega) (by omega) (by omega) (by omega) (tag_plain hr (by omega) (by omega)) rfl (by have := tag_plain hr (by omega) (by omega); omega) rfl hb (by rw [hk]; rfl) (fun X hX => by rw [hk]; exact put10 (TB X hX)) entp_kinds_10 rfl
  ·have ho := ok_at hr (k := 21) hk
   exact fput_plain hv hrl hok hro hr (n := tagN f) (by omega) (by omega) (by omega) (by omega) (tag_plain hr (by omega) (by omega)) rfl (by have := tag_plain hr (by omega) (by omega); omega) rfl hb (by rw [hk]; rfl) (fun X hX => by rw [hk]; exact put11 (TB X hX)) entp_kinds_11 rfl
  ·have ho := ok_at hr (k := 22) hk
   exact fput_k22 hv hrl hok hro hr (n := tagN f) hk (tag_flag (k := 22) hk (by decide)) rfl (by have := tag_flag (k := 22) hk (by decide); have := bitN_le f.fl 1 (by decide); omega) rfl hb (by rw [hk]; rfl) (fun X hX => by rw [hk]; exact put10 (TB X hX)) entp_kinds_10 rfl
  ·have ho := ok_at hr (k := 24) hk
   simp only [okN, Bool.and_eq_true, decide_eq_true_eq] at ho
   exact fput_plain hv hrl hok hro hr (n := tagN f) (by omega) (by omega) (by omega) (by omega) (tag_plain hr (by omega) (by omega)) rfl (by have := tag_plain hr (by omega) (by omega); omega) rfl hb (by rw [hk]; rfl) (fun X hX => by rw [hk]; exact put34 (TB X hX) (hv.kept hX) (by omega)) entp_kinds_34 rfl
  ·have ho := ok_at hr (k := 25) hk
   exact fput_plain hv hrl hok hro hr (n := tagN f) (by omega) (by omega) (by omega) (by omega) (tag_plain hr (by omega) (by omega)) rfl (by have := tag_plain hr (by omega) (by omega); omega) rfl hb (by rw [hk]; rfl) (fun X hX => by rw [hk]; exact put37 (TB X hX)) entp_kinds_37 rfl
  ·have ho := ok_at hr (k := 26) hk
   exact fput_plain hv hrl hok hro hr (n := tagN f) (by omega) (by omega) (by omega) (by omega) (tag_plain hr (by omega) (by omega)) rfl (by have := tag_plain hr (by omega) (by omega); omega) rfl hb (by rw [hk]; rfl) (fun X hX => by rw [hk]; exact put12 (hv.kept hX)) entp_kinds_12 rfl
  ·have ho := ok_at hr (k := 27) hk
   exact fput_plain hv hrl hok hro hr (n := tagN f) (by omega) (by omega) (by omega) (by omega) (tag_plain hr (by omega) (by omega)) rfl (by have := tag_plain hr (by omega) (by omega); omega) rfl hb (by rw [hk]; rfl) (fun X hX => by rw [hk]; exact put12 (hv.kept hX)) entp_kinds_12 rfl
  ·have ho := ok_at hr (k := 28) hk
   exact fput_k28 hv hrl hok hro hr (n := tagN f) hk (tag_flag (k := 28) hk (by decide)) rfl (by have := tag_flag (k := 28) hk (by decide); have := bitN_le f.fl 1 (by decide); omega) rfl hb (by rw [hk]; rfl) (fun X hX => by
    rw [hk]
    show Puts _ X f vd vr (putL f.c ++ (bif f.fl then [] else putL f.a) ++ dataL f.d)
    cases hfl : f.fl
    ·exact put40f (TB X hX) (hv.kept hX) hdi hfl
    ·simpa using put40t (TB X hX) (hv.kept hX) hdi hfl) entp_kinds_40 rfl
  ·have ho := ok_at hr (k := 30) hk
   exact fput_plain hv hrl hok hro hr (n := tagN f) (by omega) (by omega) (by omega) (by omega) (tag_plain hr (by omega) (by omega)) rfl (by have := tag_plain hr (by omega) (by omega); omega) rfl hb (by rw [hk]; rfl) (fun X hX => by rw [hk]; exact put13) entp_kinds_13 rfl
end Go.Proofs.YtolgeghdkoodnaaGreatDoor
set_option maxRecDepth 100000
namespace Go.Proofs.YtolgeghdkoodnaaGreatDoor
open Go.RowKit Go.Maps
def anyElemI (v : Value) : Option (DataW Value × List MemPlace) := some (.held v, [])
theorem rebound {P : Program} {K : TypeId} {w : World} {b n : Nat} {D : DataW Value} (h : w.ownsMap P K anyElemI b n D) : w.ownsMap P K anyElemI b (Maps.size D) D := by
 obtain ⟨es, clock, hb, F, hs, rfl⟩ := h
 exact ⟨es, clock, hb, F, by simp [Maps.size, length_sorted], rfl⟩
structure Tells (q : IntKind) (D : DataW Value) (dom : List Int) (f : Int → Value) : Prop where
 nodup : dom.Nodup
 wf : ∀ z ∈ dom, (Lit.int q z).wf = true
 size : Maps.size D = dom.length
 look : ∀ z d, D.atKey (.int q z) (.held d) = .held (if z ∈ dom then f z else d)
 has : ∀ z, Maps.has D (.int q z) = decide (z ∈ dom)
def IMap (K : TypeId) (q : IntKind) (w : World) (mb : Nat) (dom : List Int) (f : Int → Value) : Prop :=
 ∃ D : DataW Value, w.ownsMap Tryz.prog K anyElemI mb dom.length D ∧ Tidy D ∧ Tells q D dom f
theorem IMap.made (K : TypeId) (q : IntKind) (w : World) (f : Int → Value) : IMap K q (w.alloc (.map #[] 0)) w.heap.size [] f :=
 ⟨.map [], World.ownsMap_made w _ _ _, tidy_empty, ⟨List.nodup_nil, by simp, rfl, fun _ _ => rfl, fun _ => rfl⟩⟩
theorem IMap.kept {K : TypeId} {q : IntKind} {S : Nat → Prop} {w w' : World} {mb : Nat} {dom : List Int} {f : Int → Value} (h : IMap K q w mb dom f) (hM : Mod S w w') (hS : ¬ S mb) : IMap K q w' mb dom f := by
 obtain ⟨D, ⟨es, clock, hb, F, hn, hD⟩, h2⟩ := h
 exact ⟨D, ⟨es, clock, (hM.block mb (Array.getElem?_eq_some_iff.1 hb).1 hS).trans hb, F, hn, hD⟩, h2⟩
theorem IMap.lt {K : TypeId} {q : IntKind} {w : World} {mb : Nat} {dom : List Int} {f : Int → Value} (h : IMap K q w mb dom f) : mb < w.heap.size := by
 obtain ⟨D, h1, _⟩ := h; exact h1.lt
theorem IMap.ne {K : TypeId} {q : IntKind} {w : World} {mb b : Nat} {dom : List Int} {f : Int → Value} {C : Array Value} {T : TypeId} (h : IMap K q w mb dom f) (hb : Blk w b C T) : mb ≠ b := by
 obtain ⟨D, ⟨es, clock, h1, _⟩, _⟩ := h
 rintro rfl
 unfold Blk at hb
 rw [h1] at hb
 simp at hb
theorem IMap.nodup {K : TypeId} {q : IntKind} {w : World} {mb : Nat} {dom : List Int} {f : Int → Value} (h : IMap K q w mb dom f) : dom.Nodup := by
 obtain ⟨D, _, _, h3⟩ := h; exact h3.nodup
theorem IMap.wf {K : TypeId} {q : IntKind} {w : World} {mb : Nat} {dom : List Int} {f : Int → Value} (h : IMap K q w mb dom f) : ∀ z ∈ dom, (Lit.int q z).wf = true := by
 obtain ⟨D, _, _, h3⟩ := h; exact h3.wf
def putD (z : Int) (dom : List Int) : List Int := if z ∈ dom then dom else dom ++ [z]
def putF (z : Int) (v : Value) (f : Int → Value) : Int → Value := fun y => if y = z then v else f y
theorem mem_putD {z y : Int} {dom : List Int} : y ∈ putD z dom ↔ y = z ∨ y ∈ dom := by
 unfold putD
 split
 ·rename_i h
  constructor
  ·exact .inr
  ·rintro (rfl | e)
   ·exact h
   ·exact e
 ·simp [or_comm]
theorem putD_len {z : Int} {dom : List Int} : (putD z dom).length = if z ∈ dom then dom.length else dom.length + 1 := by
 unfold putD
 split <;> simp
theorem nodup_strike (z : Int) : ∀ {dom : List Int}, dom.Nodup → (dom.filter (fun y => !decide (y = z))).length + (if z ∈ dom then 1 else 0) = dom.length
 | [], _ => by simp
 | y :: dom, h => by
  have ih := nodup_strike z h.tail
  by_cases e : y = z
  ·subst e
   have hn : y ∉ dom := (List.nodup_cons.1 h).1
   simp [hn] at ih ⊢
   exact fun x hx e2 => hn (e2 ▸ hx)
  ·have e' : ¬ z = y := fun h => e h.symm
   by_cases hm : z ∈ dom <;> simp [e, e', hm] at ih ⊢ <;> omega
section
variable {K : TypeId} {q : IntKind} (hK : Tryz.prog.underlying K = some (.int q))
include hK
theorem IMap.put {t e : TypeId} {w : World} {mb : Nat} {dom : List Int} {f : Int → Value} {z : Int} (v : Value) (h : IMap K q w mb dom f) (hz : (Lit.int q z).wf = true) (hn : dom.length < maxLen) (ht : Tryz.prog.underlying t = some (.map K e)) :
  ∃ w', (Instr.mapUpdate t (.map (some mb)) (.int q z) v).run Tryz.prog w = .ok () w' ∧ IMap K q w' mb (putD z dom) (putF z v f) ∧ Mod (fun k => k = mb) w w' := by
 obtain ⟨D, h1, h2, h3⟩ := h
 have law := int_keyed hK
 have hk := keyOf_int_mk hK hz
 obtain ⟨w', hr, ho, hg⟩ := h1.update law ht hn hk (val := v) (d := .held v) (ps := []) rfl
 have hsz : Maps.size (D.put (.int q z) (.held v)) = (putD z dom).length := by
  rw [size_put h2, h3.has, h3.size, putD_len]
  by_cases e : z ∈ dom <;> simp [e]
 refine ⟨w', hr, ⟨_, by rw [← hsz]; exact rebound ho, Tidy.put h2 (law.key hk) _, ⟨?_, ?_, hsz, ?_, ?_⟩⟩, (Mod.refl (fun k => k = mb) w).grown hg (fun k hk _ => (Option.some.inj hk).symm)⟩
 ·unfold putD
  split
  ·exact h3.nodup
  ·rename_i hn
   rw [List.nodup_append]
   exact ⟨h3.nodup, by simp, fun a ha b hb e => by simp at hb; subst hb; subst e; exact hn ha⟩
 ·intro y hy
  rcases mem_putD.1 hy with rfl | hy
  ·exact hz
  ·exact h3.wf y hy
 ·intro y d
  by_cases he : y = z
  ·subst he
   rw [atKey_put_same h2.isMap (law.key hk), if_pos (mem_putD.2 (.inl rfl))]
   simp [putF]
  ·have hne : Lit.int q y ≠ Lit.int q z := by simpa using he
   rw [atKey_put_other hne, h3.look]
   simp [mem_putD, putF, he]
 ·intro y
  by_cases he : y = z
  ·subst he
   rw [has_put_same h2.isMap (law.key hk)]
   simp [mem_putD]
  ·have hne : Lit.int q y ≠ Lit.int q z := by simpa using he
   rw [has_put_other hne, h3.has]
   simp [mem_putD, he]
theorem IMap.look {t e : TypeId} {w : World} {mb : Nat} {dom : List Int} {f : Int → Value} {z : Int} {zv : Value} (h : IMap K q w mb dom f) (hz : (Lit.int q z).wf = true) (ht : Tryz.prog.underlying t = some (.map K e)) (h0 : (zeroValue e).run Tryz.prog w = .ok zv w) :
  (Instr.lookup t (.map (some mb)) (.int q z) false).run Tryz.prog w = .ok (if z ∈ dom then f z else zv) w := by
 obtain ⟨D, h1, h2, h3⟩ := h
 obtain ⟨v, ps, hr, hv⟩ := h1.lookup (int_keyed hK) ht h0 (zd := .held zv) (zp := []) rfl (keyOf_int_mk hK hz)
 rw [h3.look] at hv
 simp only [anyElemI, Option.some.injEq, Prod.mk.injEq, DataW.held.injEq] at hv
 rw [hr, hv.1]
theorem IMap.lookok {t e : TypeId} {w : World} {mb : Nat} {dom : List Int} {f : Int → Value} {z : Int} {zv : Value} (h : IMap K q w mb dom f) (hz : (Lit.int q z).wf = true) (ht : Tryz.prog.underlying t = some (.map K e)) (h0 : (zeroValue e).run Tryz.prog w = .ok zv w) :
  (Instr.lookup t (.map (some mb)) (.int q z) true).run Tryz.prog w = .ok (.tuple #[if z ∈ dom then f z else zv, .bool (decide (z ∈ dom))]) w := by
 obtain ⟨D, h1, h2, h3⟩ := h
 obtain ⟨v, ps, hr, hv⟩ := h1.look_ok (int_keyed hK) ht h0 (zd := .held zv) (zp := []) rfl (keyOf_int_mk hK hz)
 rw [h3.look] at hv
 simp only [anyElemI, Option.some.injEq, Prod.mk.injEq, DataW.held.injEq] at hv
 rw [hr, hv.1, h3.has]
theorem IMap.del {t e : TypeId} {w : World} {mb : Nat} {dom : List Int} {f : Int → Value} {z : Int} (h : IMap K q w mb dom f) (hz : (Lit.int q z).wf = true) (ht : Tryz.prog.underlying t = some (.map K e)) (ty : TypeId) :
  ∃ w', (Builtin.delete_ #[t, K] ty #[.map (some mb), .int q z]).run Tryz.prog w = .ok (.tuple #[]) w' ∧ IMap K q w' mb (dom.filter (fun y => !decide (y = z))) f ∧ Mod (fun k => k = mb) w w' := by
 obtain ⟨D, h1, h2, h3⟩ := h
 have hk := keyOf_int_mk hK hz
 obtain ⟨w', hr, ho, hg⟩ := h1.drop (int_keyed hK) ht hk ty
 have hsz : Maps.size (D.del (.int q z)) = (dom.filter (fun y => !decide (y = z))).length := by
  have e := size_del (k := .int q z) h2
  rw [h3.has, h3.size] at e
  have e2 := nodup_strike z h3.nodup
  have e3 : (if decide (z ∈ dom) = true then 1 else 0) = (if z ∈ dom then 1 else 0 : Nat) := by by_cases hm : z ∈ dom <;> simp [hm]
  rw [e3] at e
  omega
 refine ⟨w', hr, ⟨_, by rw [← hsz]; exact rebound ho, Tidy.del h2 _, ⟨h3.nodup.filter _, fun y hy => h3.wf y (List.mem_filter.1 hy).1, hsz, ?_, ?_⟩⟩, (Mod.refl (fun k => k = mb) w).grown hg.grown (fun k hk _ => (Option.some.inj hk).symm)⟩
 ·intro y d
  by_cases he : y = z
  ·subst he
   rw [atKey_del_same]
   simp
  ·have hne : Lit.int q y ≠ Lit.int q z := by simpa using he
   rw [atKey_del_other hne, h3.look]
   simp [he]
 ·intro y
  by_cases he : y = z
  ·subst he
   rw [has_del_same]
   simp
  ·have hne : Lit.int q y ≠ Lit.int q z := by simpa using he
   rw [has_del_other hne, h3.has]
   simp [he]
end
theorem IMap.len {K : TypeId} {q : IntKind} {t e : TypeId} {w : World} {mb : Nat} {dom : List Int} {f : Int → Value} (h : IMap K q w mb dom f) (ht : Tryz.prog.underlying t = some (.map K e)) (ty : TypeId) : (Builtin.len_ #[t] ty #[.map (some mb)]).run Tryz.prog w = .ok (.int .i64 (dom.length : Int)) w := by
 obtain ⟨D, h1, h2, h3⟩ := h
 rw [h1.len ht ty, h3.size]
def IRange (K : TypeId) (q : IntKind) (w : World) (mb r : Nat) (dom : List Int) (f : Int → Value) (left : Int → Bool) (cnt : Nat) : Prop :=
 ∃ (D : DataW Value) (L : Lit → Bool), w.ranges Tryz.prog K anyElemI mb r dom.length D L cnt ∧ Tidy D ∧ Tells q D dom f ∧ (∀ z, L (.int q z) = left z) ∧ ∀ z, left z = true → z ∈ dom
theorem IRange.map {K : TypeId} {q : IntKind} {w : World} {mb r cnt : Nat} {dom : List Int} {f : Int → Value} {left : Int → Bool} (h : IRange K q w mb r dom f left cnt) : IMap K q w mb dom f := by
 obtain ⟨D, L, h1, h2, h3, _⟩ := h
 exact ⟨D, h1.owns, h2, h3⟩
theorem IRange.kept {K : TypeId} {q : IntKind} {S : Nat → Prop} {w w' : World} {mb r cnt : Nat} {dom : List Int} {f : Int → Value} {left : Int → Bool} (h : IRange K q w mb r dom f left cnt) (hM : Mod S w w') (h1 : ¬ S mb) (h2 : ¬ S r) : IRange K q w' mb r dom f left cnt := by
 obtain ⟨D, L, ⟨es, clock, since, seen, c0, hb, F, hn, hD, hr, rest⟩, h3⟩ := h
 exact ⟨D, L, ⟨es, clock, since, seen, c0, (hM.block mb (Array.getElem?_eq_some_iff.1 hb).1 h1).trans hb, F, hn, hD, (hM.block r (Array.getElem?_eq_some_iff.1 hr).1 h2).trans hr, rest⟩, h3⟩
theorem IRange.ne {K : TypeId} {q : IntKind} {w : World} {mb r cnt : Nat} {dom : List Int} {f : Int → Value} {left : Int → Bool} (h : IRange K q w mb r dom f left cnt) : r ≠ mb ∧ r < w.heap.size := by
 obtain ⟨D, L, h1, _⟩ := h
 exact ⟨h1.ne, h1.lt⟩
theorem IRange.left_eq {K : TypeId} {q : IntKind} {w : World} {mb r cnt : Nat} {dom : List Int} {f : Int → Value} {left : Int → Bool} (h : IRange K q w mb r dom f left cnt) : w.rangeLeft mb r = cnt := by
 obtain ⟨D, L, h1, _⟩ := h
 exact h1.left_eq
section
variable {K : TypeId} {q : IntKind} (hK : Tryz.prog.underlying K = some (.int q))
include hK
theorem IMap.range {t e : TypeId} {w : World} {mb : Nat} {dom : List Int} {f : Int → Value} (h : IMap K q w mb dom f) (ht : Tryz.prog.underlying t = some (.map K e)) :
  ∃ w', (Instr.range t (.map (some mb))).run Tryz.prog w = .ok (.pointer (some ⟨w.heap.size, 0, none⟩)) w' ∧ IRange K q w' mb w.heap.size dom f (fun z => decide (z ∈ dom)) dom.length ∧ Mod (fun _ => False) w w' := by
 obtain ⟨D, h1, h2, h3⟩ := h
 obtain ⟨w', hr, hrg, hg, hs⟩ := h1.range (int_keyed hK) ht
 refine ⟨w', hr, ⟨D, Maps.has D, by rw [← h3.size]; rw [← h3.size] at hrg; exact hrg, h2, h3, h3.has, fun z hz => by simpa using hz⟩, (Mod.refl (fun _ => False) w).grown hg (fun k hk _ => by simp at hk)⟩
theorem IRange.next {w : World} {mb r cnt : Nat} {dom : List Int} {f : Int → Value} {left : Int → Bool} (h : IRange K q w mb r dom f left cnt) (ty : TypeId) :
  (cnt = 0 ∧ (∀ z, left z = false) ∧ (Instr.next (.pointer (some ⟨r, 0, none⟩)) false ty).run Tryz.prog w = .ok (.tuple #[.bool false]) w) ∨
  ∃ z w' cnt', left z = true ∧ (Instr.next (.pointer (some ⟨r, 0, none⟩)) false ty).run Tryz.prog w = .ok (.tuple #[.bool true, .int q z, f z]) w' ∧ IRange K q w' mb r dom f (fun y => left y && !decide (y = z)) cnt' ∧ cnt' < cnt ∧ Mod (fun k => k = r) w w' ∧
   w'.heap.size = w.heap.size ∧ (Instr.entry (.pointer (some ⟨r, 0, none⟩))).run Tryz.prog w' = .ok (.tuple #[.int q z, f z]) w' := by
 obtain ⟨D, L, h1, h2, h3, h4, h5⟩ := h
 rcases h1.next (int_keyed hK) ty with ⟨h0, hl, hr⟩ | ⟨key, v, kl, y, w', cnt', hk, hl, hy, hat, hr, hrg, hlt, hg, hs, hen⟩
 ·exact .inl ⟨h0, fun z => by rw [← h4]; exact hl _, hr⟩
 ·obtain ⟨z, rfl, rfl, hw⟩ := Maps.keyOf_int_inv hK hk
  have hz : left z = true := by rw [← h4]; exact hl
  have hd := h5 z hz
  have e1 := hat (.held undef)
  rw [h3.look, if_pos hd] at e1
  simp only [anyElemI, Option.some.injEq] at hy
  rw [← hy] at e1
  simp only [DataW.held.injEq] at e1
  rw [← e1] at hr hen
  refine .inr ⟨z, w', cnt', hz, hr, ⟨D, _, hrg, h2, h3, fun x => ?_, fun x hx => ?_⟩, hlt, (Mod.refl (fun k => k = r) w).grown hg (fun k hk _ => (Option.some.inj hk).symm), hs, hen⟩
  ·have e : (Lit.int q x).sameKey (Lit.int q z) = decide (x = z) := by simp [Lit.sameKey]
   rw [h4, e]
  ·simp at hx
   exact h5 x hx.1
end
end Go.Proofs.YtolgeghdkoodnaaGreatDoor
