/- A Stream's bytes: the program's. (printed by gengap.py) -/
import Derived.Test.YteegonadodmeeaaDoorGaN
namespace Go.Proofs.YteegonadodmeeaaDoor
open Go.RowKit Go.Maps

theorem ints1 {w : World} {hi : Int} {a : Nat} (h1 : (a : Int) = hi) : Ints (w.alloc (.cells #[.int .u64 hi] 22)) (.slice (some ⟨w.heap.size, 0, none⟩) 1 1) [a] := by
  subst h1
  exact ints_lit w [a] _ 1 _ rfl rfl (by decide)
theorem or_tags (ba fl : Bool) : bits BinOp.or IntKind.i64 (bits BinOp.or IntKind.i64 10 (bitN ba 4)) (bitN fl 1) = 10 + bitN ba 4 + bitN fl 1 := by
  cases ba <;> cases fl <;> decide +kernel
theorem bitN_le (b : Bool) (n : Int) (h : 0 ≤ n) : 0 ≤ bitN b n ∧ bitN b n ≤ n := by
  cases b <;> simp [bitN] <;> omega
theorem tag_stream {f : Fr} (h : f.k = 8) {ba : Bool} (hb : decide (0 < f.a) = ba) : (tagN f : Int) = 10 + bitN ba 4 + bitN f.fl 1 := by
  subst hb
  unfold tagN bitN
  rw [if_pos h]
  by_cases ha : f.a = 0
  · cases hf : f.fl <;> simp [ha]
  · cases hf : f.fl <;> simp [ha, show 0 < f.a by omega]
set_option maxHeartbeats 16000000 in
set_option maxRecDepth 10000 in
theorem fput_stream {w : World} {f : Fr} {vd vr : Value} (hT : Tabs w) (hv : FrV w f vd vr) (hrl : (f.rs.length : Int) ≤ 100000) (hok : okKey f.k) (hro : RngOk f) (hr : rightF f = true) (hk : f.k = 8) (hdl : f.d.length ≤ 100000) :
    Calls Tryd.prog 15 #[frV f vd vr] w fun e w' => ∃ v, e = .returned v ∧ OwnB w' w.heap.size v (fputL f) ∧ Mod (fun _ => False) w w' := by
  have hM := (Mod.refl (fun _ => False) w).alloc (.cells (frC f vd vr) 27)
  have HR := Lib.hid (right_any (hv.kept hM) hrl hok hro)
  rw [hr] at HR
  obtain ⟨n, hn⟩ : ∃ n, n = tagN f := ⟨_, rfl⟩
  obtain ⟨ba, hba⟩ : ∃ b, decide (0 < f.a) = b := ⟨_, rfl⟩
  have htag := tag_stream hk hba
  have HRES : Hid (fputL f = UInt8.ofNat n :: putL f.id ++ (bif ba then putL f.a else []) ++ dataL f.d) := by
    show _ = _
    unfold fputL
    rw [if_pos hr, hk, ← hn]
    show _ :: (putL f.id ++ (if f.a = 0 then [] else putL f.a) ++ dataL f.d) = _
    rw [← hba]
    by_cases ha : f.a = 0
    · simp [ha]
    · rw [if_neg ha, show decide (0 < f.a) = true by simp; omega]; simp
  have HW := Lib.hid (loadWhole w f vd vr hv.t)
  have HF0 := Lib.hid (FrB.new w f vd vr hv.t)
  have HM := Lib.hid hM
  have HT := Lib.hid hT
  have HV := Lib.hid hv
  have H16 := Lib.hid hv.t
  have hb4 := bitN_le ba 4 (by decide)
  have hb1 := bitN_le f.fl 1 (by decide)
  obtain ⟨z, hz⟩ : ∃ z : Int, (n : Int) = z := ⟨_, rfl⟩
  rw [← hn, hz] at htag
  have HZN := Lib.hid hz
  have HZ : Hid (n ≤ 255) := by show n ≤ 255; omega
  have hzw : IntKind.u8.wrap z = z := IntWalk.u8_in _ (by omega)
  obtain ⟨o1, ho1⟩ : ∃ o : Int, bits BinOp.or IntKind.i64 10 (bitN ba 4) = o := ⟨_, rfl⟩
  have ho2 : bits BinOp.or IntKind.i64 o1 (bitN f.fl 1) = z := by rw [← ho1, or_tags, htag]
  have HCAT : Hid (UInt8.ofNat n :: putL f.id = [UInt8.ofNat n] ++ intsL [f.id]) := by show _ = _; simp [intsL]
  have HLEN1 : Hid ((([UInt8.ofNat n].length + (intsL [f.id]).length : Nat) : Int) ≤ 140737488355328) := by show _ ≤ _; have := intsL_len [f.id]; simp at this ⊢; omega
  have hba' : decide ((0 : Int) < (f.a : Int)) = ba := by rw [← hba, Bool.eq_iff_iff]; simp
  have t8 : (f.k != 8) = false := by rw [hk]; rfl
  have HDL := Lib.hid hdl
  have e0 : (frC f vd vr)[0]? = some (.int .i64 f.k) := rfl
  clear hT hv hrl hok hro hr hM hn hz htag hb4 hb1 hk hdl
  unfold frV at *
  go_enter Tryd.func15, Tryd.ntmps15
  go_wp2_with (first
    | ((with_reducible refine wpList_load_v 27 (.tmp 1) ?_ ?_ (.pointer (some ⟨w.heap.size, 0, none⟩)) (.agg (frC f vd vr)) ?_ (HW.out _ rfl) ?_); (· exact rfl); (· exact rfl); (· exact rfl))
    | fail)
  refine (HR.out).mono ?_
  rintro e w1 ⟨rfl, hM1⟩
  have HM1 := Lib.hid (HM.out.trans hM1)
  have HF1 := Lib.hid (HF0.out.kept hM1)
  have c0 := HF1.out.cells.1
  clear hM1 e0
  go_upto_region 8 with fail
  go_cut [4] (fun s4 wx => ∃ ap cp, s4 = .slice ap ([UInt8.ofNat n].length + (intsL [f.id]).length) cp ∧ Hid (OwnB wx w.heap.size (.slice ap ([UInt8.ofNat n].length + (intsL [f.id]).length) cp) (UInt8.ofNat n :: putL f.id) ∧ FrB wx w.heap.size f vd vr ∧ Mod (fun _ => False) w wx))
  case first =>
    refine wp_region_held_drew (S := fun X => FrB X w.heap.size f vd vr ∧ Mod (fun _ => False) w X) (by kernel_rfl) ⟨HF1.out.kept (Mod.refl _ _).drew, HM1.out.drew⟩ (fun hS => ?_)
    refine takeH (i := 0) (v := .pointer (some ⟨w.heap.size, 2, none⟩)) (some 42) rfl rfl (by kernel_rfl) (by kernel_rfl) (by kernel_rfl) (fun _ _ _ h => h) (Or.inl ⟨by rfl, fun X hX => ?_⟩) hS ?_
    · go_simp
    (try go_frame)
    refine takeH (i := 1) (v := .int .u64 (f.a : Int)) (some 43) rfl rfl (by kernel_rfl) (by kernel_rfl) (by kernel_rfl) (fun _ _ _ h => h) (Or.inl ⟨by rfl, fun X hX => ?_⟩) hS ?_
    · have := hX.1.cells.2.2.1; go_simp
    (try go_frame)
    refine takeH (i := 2) (v := .bool ba) (some 44) rfl rfl (by kernel_rfl) (by kernel_rfl) (by kernel_rfl) (fun _ _ _ h => h) (Or.inl ⟨by rfl, fun X hX => ?_⟩) hS ?_
    · go_simp
    (try go_frame)
    refine takeH (i := 5) (v := .pointer (some ⟨w.heap.size, 5, none⟩)) (some 47) rfl rfl (by kernel_rfl) (by kernel_rfl) (by kernel_rfl) (fun _ _ _ h => h) (Or.inl ⟨by rfl, fun X hX => ?_⟩) hS ?_
    · go_simp
    (try go_frame)
    refine takeH (i := 6) (v := .bool f.fl) (some 48) rfl rfl (by kernel_rfl) (by kernel_rfl) (by kernel_rfl) (fun _ _ _ h => h) (Or.inl ⟨by rfl, fun X hX => ?_⟩) hS ?_
    · have := hX.1.cells.2.2.2.2.2.1; go_simp
    (try go_frame)
    refine takeH (i := 11) (v := .pointer (some ⟨w.heap.size, 1, none⟩)) (some 53) rfl rfl (by kernel_rfl) (by kernel_rfl) (by kernel_rfl) (fun _ _ _ h => h) (Or.inl ⟨by rfl, fun X hX => ?_⟩) hS ?_
    · go_simp
    (try go_frame)
    refine takeH (i := 12) (v := .int .u64 (f.id : Int)) (some 54) rfl rfl (by kernel_rfl) (by kernel_rfl) (by kernel_rfl) (fun _ _ _ h => h) (Or.inl ⟨by rfl, fun X hX => ?_⟩) hS ?_
    · have := hX.1.cells.2.1; go_simp
    (try go_frame)
    generalize w1.drew = W0 at *
    refine wpAnyH_ready (rs := [3, 13]) (by kernel_rfl) (by simp) ?_
    refine AllReadyH.cons rfl (fun K hK => ?_) (AllReadyH.cons rfl (fun K hK => ?_) AllReadyH.nil)
    · skip
      go_simp
      refine (bit_any _ _ _).mono ?_
      rintro e w' ⟨rfl, rfl⟩
      refine hK.out _ _ hS (fun hS => ?_)
      clear hK K
      refine takeH (i := 4) (v := .int .i64 o1) (some 46) rfl rfl (by kernel_rfl) (by kernel_rfl) (by kernel_rfl) (fun _ _ _ h => h) (Or.inl ⟨by rfl, fun X hX => ?_⟩) hS ?_
      · go_simp
      (try go_frame)
      refine wpAnyH_ready (rs := [7, 13]) (by kernel_rfl) (by simp) ?_
      refine AllReadyH.cons rfl (fun K hK => ?_) (AllReadyH.cons rfl (fun K hK => ?_) AllReadyH.nil)
      · skip
        go_simp
        refine (bit_any _ _ _).mono ?_
        rintro e w' ⟨rfl, rfl⟩
        refine hK.out _ _ hS (fun hS => ?_)
        clear hK K
        refine takeH (i := 8) (v := .int .i64 z) (some 50) rfl rfl (by kernel_rfl) (by kernel_rfl) (by kernel_rfl) (fun _ _ _ h => h) (Or.inl ⟨by rfl, fun X hX => ?_⟩) hS ?_
        · go_simp
        (try go_frame)
        refine takeH (i := 9) (v := .int .u8 z) (some 51) rfl rfl (by kernel_rfl) (by kernel_rfl) (by kernel_rfl) (fun _ _ _ h => h) (Or.inl ⟨by rfl, fun X hX => ?_⟩) hS ?_
        · go_simp
        (try go_frame)
        refine wpAnyH_ready (rs := [10, 13]) (by kernel_rfl) (by simp) ?_
        refine AllReadyH.cons rfl (fun K hK => ?_) (AllReadyH.cons rfl (fun K hK => ?_) AllReadyH.nil)
        · skip
          go_simp
          have hk10 := (Mod.refl (fun _ => False) W0).alloc (.cells #[.int .u8 z] 5)
          have hO := tag_own W0 w.heap.size HZN.out HZ.out hS.2.size
          refine hK.out _ _ ⟨hS.1.kept hk10, hS.2.trans hk10⟩ (fun hS => ?_)
          clear hK K
          generalize hg10 : W0.alloc (.cells #[.int .u8 z] 5) = W10 at *
          refine wpAnyH_ready (rs := [13]) (by kernel_rfl) (by simp) ?_
          refine AllReadyH.cons rfl (fun K hK => ?_) AllReadyH.nil
          go_simp
          have hk13 := (Mod.refl (fun _ => False) W10).alloc (.cells #[.int .u64 (f.id : Int)] 22)
          have hI := ints1 (w := W10) (a := f.id) rfl
          refine hK.out _ _ ⟨hS.1.kept hk13, hS.2.trans hk13⟩ (fun hS => ?_)
          clear hK K
          generalize hg13 : W10.alloc (.cells #[.int .u64 (f.id : Int)] 22) = W13 at *
          refine wpAnyH_ready (rs := [14]) (by kernel_rfl) (by simp) ?_
          refine AllReadyH.cons rfl (fun K hK => ?_) AllReadyH.nil
          go_simp
          refine (ints_any (hS.2.tabs HT.out (fun h => h)) hI (by simp)).mono ?_
          rintro e W14 ⟨v14, rfl, ho14, hk14⟩
          refine hK.out _ _ ⟨hS.1.kept hk14, hS.2.trans hk14⟩ (fun hS => ?_)
          clear hK K
          refine wpAnyH_ready (rs := [15]) (by kernel_rfl) (by simp) ?_
          refine AllReadyH.cons rfl (fun K hK => ?_) AllReadyH.nil
          refine step_append_b rfl (.tmp 52) (.tmp 56) rfl (.slice (some ⟨W0.heap.size, 0, none⟩) 1 1) [UInt8.ofNat n] w.heap.size _ (by rfl) ((hO.keptF hk13).keptF hk14) v14 (intsL [f.id]) (by rfl) ho14.byts (UInt8.ofNat n :: putL f.id) HCAT.out rfl HLEN1.out hS.2.size ?_
          intro ap cp X3 hA
          (try go_frame)
          have hM3 : Mod (fun _ => False) w X3 := hA.modF hS.2 (Nat.le_refl _)
          have hB3 := (hA.mod (w0 := W14) (S := fun k => (Value.slice (some ⟨W0.heap.size, 0, none⟩) 1 1).ownBlock = some k) (Mod.refl _ _) (fun g hg _ => hg)).blk hS.1.blk (OwnB.apart ((hO.keptF hk13).keptF hk14) hS.1.blk (by decide))
          refine hK.out _ _ ⟨⟨hB3, H16.out⟩, hM3⟩ (fun hS => ?_)
          clear hK K
          refine wpAnyH_ready (rs := [16]) (by kernel_rfl) (by simp) ?_
          refine AllReadyH.cons rfl (fun K hK => ?_) AllReadyH.nil
          go_simp
          refine hK.out _ _ hS (fun hS => ?_)
          clear hK K
          refine wpAnyH_done (by kernel_rfl) ?_ _
          go_wp2_with fail
          go_meet
          exact ⟨ap, cp, rfl, ⟨hA.own, hS.1, hM3⟩⟩
        · skip
          go_simp
          have hk13 := (Mod.refl (fun _ => False) W0).alloc (.cells #[.int .u64 (f.id : Int)] 22)
          have hI := ints1 (w := W0) (a := f.id) rfl
          refine hK.out _ _ ⟨hS.1.kept hk13, hS.2.trans hk13⟩ (fun hS => ?_)
          clear hK K
          generalize hg13 : W0.alloc (.cells #[.int .u64 (f.id : Int)] 22) = W13 at *
          refine wpAnyH_ready (rs := [10, 14]) (by kernel_rfl) (by simp) ?_
          refine AllReadyH.cons rfl (fun K hK => ?_) (AllReadyH.cons rfl (fun K hK => ?_) AllReadyH.nil)
          · skip
            go_simp
            have hk10 := (Mod.refl (fun _ => False) W13).alloc (.cells #[.int .u8 z] 5)
            have hO := tag_own W13 w.heap.size HZN.out HZ.out hS.2.size
            refine hK.out _ _ ⟨hS.1.kept hk10, hS.2.trans hk10⟩ (fun hS => ?_)
            clear hK K
            generalize hg10 : W13.alloc (.cells #[.int .u8 z] 5) = W10 at *
            refine wpAnyH_ready (rs := [14]) (by kernel_rfl) (by simp) ?_
            refine AllReadyH.cons rfl (fun K hK => ?_) AllReadyH.nil
            go_simp
            refine (ints_any (hS.2.tabs HT.out (fun h => h)) (Sl.kept hI hk10 (fun _ _ h => h)) (by simp)).mono ?_
            rintro e W14 ⟨v14, rfl, ho14, hk14⟩
            refine hK.out _ _ ⟨hS.1.kept hk14, hS.2.trans hk14⟩ (fun hS => ?_)
            clear hK K
            refine wpAnyH_ready (rs := [15]) (by kernel_rfl) (by simp) ?_
            refine AllReadyH.cons rfl (fun K hK => ?_) AllReadyH.nil
            refine step_append_b rfl (.tmp 52) (.tmp 56) rfl (.slice (some ⟨W13.heap.size, 0, none⟩) 1 1) [UInt8.ofNat n] w.heap.size _ (by rfl) (hO.keptF hk14) v14 (intsL [f.id]) (by rfl) ho14.byts (UInt8.ofNat n :: putL f.id) HCAT.out rfl HLEN1.out hS.2.size ?_
            intro ap cp X3 hA
            (try go_frame)
            have hM3 : Mod (fun _ => False) w X3 := hA.modF hS.2 (Nat.le_refl _)
            have hB3 := (hA.mod (w0 := W14) (S := fun k => (Value.slice (some ⟨W13.heap.size, 0, none⟩) 1 1).ownBlock = some k) (Mod.refl _ _) (fun g hg _ => hg)).blk hS.1.blk (OwnB.apart (hO.keptF hk14) hS.1.blk (by decide))
            refine hK.out _ _ ⟨⟨hB3, H16.out⟩, hM3⟩ (fun hS => ?_)
            clear hK K
            refine wpAnyH_ready (rs := [16]) (by kernel_rfl) (by simp) ?_
            refine AllReadyH.cons rfl (fun K hK => ?_) AllReadyH.nil
            go_simp
            refine hK.out _ _ hS (fun hS => ?_)
            clear hK K
            refine wpAnyH_done (by kernel_rfl) ?_ _
            go_wp2_with fail
            go_meet
            exact ⟨ap, cp, rfl, ⟨hA.own, hS.1, hM3⟩⟩
          · skip
            go_simp
            refine (ints_any (hS.2.tabs HT.out (fun h => h)) hI (by simp)).mono ?_
            rintro e W14 ⟨v14, rfl, ho14, hk14⟩
            refine hK.out _ _ ⟨hS.1.kept hk14, hS.2.trans hk14⟩ (fun hS => ?_)
            clear hK K
            refine wpAnyH_ready (rs := [10]) (by kernel_rfl) (by simp) ?_
            refine AllReadyH.cons rfl (fun K hK => ?_) AllReadyH.nil
            go_simp
            have hk10 := (Mod.refl (fun _ => False) W14).alloc (.cells #[.int .u8 z] 5)
            have hO := tag_own W14 w.heap.size HZN.out HZ.out hS.2.size
            refine hK.out _ _ ⟨hS.1.kept hk10, hS.2.trans hk10⟩ (fun hS => ?_)
            clear hK K
            generalize hg10 : W14.alloc (.cells #[.int .u8 z] 5) = W10 at *
            refine wpAnyH_ready (rs := [15]) (by kernel_rfl) (by simp) ?_
            refine AllReadyH.cons rfl (fun K hK => ?_) AllReadyH.nil
            refine step_append_b rfl (.tmp 52) (.tmp 56) rfl (.slice (some ⟨W14.heap.size, 0, none⟩) 1 1) [UInt8.ofNat n] w.heap.size _ (by rfl) hO v14 (intsL [f.id]) (by rfl) (byts_kept ho14.byts hk10) (UInt8.ofNat n :: putL f.id) HCAT.out rfl HLEN1.out hS.2.size ?_
            intro ap cp X3 hA
            (try go_frame)
            have hM3 : Mod (fun _ => False) w X3 := hA.modF hS.2 (Nat.le_refl _)
            have hB3 := (hA.mod (w0 := W10) (S := fun k => (Value.slice (some ⟨W14.heap.size, 0, none⟩) 1 1).ownBlock = some k) (Mod.refl _ _) (fun g hg _ => hg)).blk hS.1.blk (OwnB.apart hO hS.1.blk (by decide))
            refine hK.out _ _ ⟨⟨hB3, H16.out⟩, hM3⟩ (fun hS => ?_)
            clear hK K
            refine wpAnyH_ready (rs := [16]) (by kernel_rfl) (by simp) ?_
            refine AllReadyH.cons rfl (fun K hK => ?_) AllReadyH.nil
            go_simp
            refine hK.out _ _ hS (fun hS => ?_)
            clear hK K
            refine wpAnyH_done (by kernel_rfl) ?_ _
            go_wp2_with fail
            go_meet
            exact ⟨ap, cp, rfl, ⟨hA.own, hS.1, hM3⟩⟩
      · skip
        go_simp
        have hk13 := (Mod.refl (fun _ => False) W0).alloc (.cells #[.int .u64 (f.id : Int)] 22)
        have hI := ints1 (w := W0) (a := f.id) rfl
        refine hK.out _ _ ⟨hS.1.kept hk13, hS.2.trans hk13⟩ (fun hS => ?_)
        clear hK K
        generalize hg13 : W0.alloc (.cells #[.int .u64 (f.id : Int)] 22) = W13 at *
        refine wpAnyH_ready (rs := [7]) (by kernel_rfl) (by simp) ?_
        refine AllReadyH.cons rfl (fun K hK => ?_) AllReadyH.nil
        go_simp
        refine (bit_any _ _ _).mono ?_
        rintro e w' ⟨rfl, rfl⟩
        refine hK.out _ _ hS (fun hS => ?_)
        clear hK K
        refine takeH (i := 8) (v := .int .i64 z) (some 50) rfl rfl (by kernel_rfl) (by kernel_rfl) (by kernel_rfl) (fun _ _ _ h => h) (Or.inl ⟨by rfl, fun X hX => ?_⟩) hS ?_
        · go_simp
        (try go_frame)
        refine takeH (i := 9) (v := .int .u8 z) (some 51) rfl rfl (by kernel_rfl) (by kernel_rfl) (by kernel_rfl) (fun _ _ _ h => h) (Or.inl ⟨by rfl, fun X hX => ?_⟩) hS ?_
        · go_simp
        (try go_frame)
        refine wpAnyH_ready (rs := [10, 14]) (by kernel_rfl) (by simp) ?_
        refine AllReadyH.cons rfl (fun K hK => ?_) (AllReadyH.cons rfl (fun K hK => ?_) AllReadyH.nil)
        · skip
          go_simp
          have hk10 := (Mod.refl (fun _ => False) W13).alloc (.cells #[.int .u8 z] 5)
          have hO := tag_own W13 w.heap.size HZN.out HZ.out hS.2.size
          refine hK.out _ _ ⟨hS.1.kept hk10, hS.2.trans hk10⟩ (fun hS => ?_)
          clear hK K
          generalize hg10 : W13.alloc (.cells #[.int .u8 z] 5) = W10 at *
          refine wpAnyH_ready (rs := [14]) (by kernel_rfl) (by simp) ?_
          refine AllReadyH.cons rfl (fun K hK => ?_) AllReadyH.nil
          go_simp
          refine (ints_any (hS.2.tabs HT.out (fun h => h)) (Sl.kept hI hk10 (fun _ _ h => h)) (by simp)).mono ?_
          rintro e W14 ⟨v14, rfl, ho14, hk14⟩
          refine hK.out _ _ ⟨hS.1.kept hk14, hS.2.trans hk14⟩ (fun hS => ?_)
          clear hK K
          refine wpAnyH_ready (rs := [15]) (by kernel_rfl) (by simp) ?_
          refine AllReadyH.cons rfl (fun K hK => ?_) AllReadyH.nil
          refine step_append_b rfl (.tmp 52) (.tmp 56) rfl (.slice (some ⟨W13.heap.size, 0, none⟩) 1 1) [UInt8.ofNat n] w.heap.size _ (by rfl) (hO.keptF hk14) v14 (intsL [f.id]) (by rfl) ho14.byts (UInt8.ofNat n :: putL f.id) HCAT.out rfl HLEN1.out hS.2.size ?_
          intro ap cp X3 hA
          (try go_frame)
          have hM3 : Mod (fun _ => False) w X3 := hA.modF hS.2 (Nat.le_refl _)
          have hB3 := (hA.mod (w0 := W14) (S := fun k => (Value.slice (some ⟨W13.heap.size, 0, none⟩) 1 1).ownBlock = some k) (Mod.refl _ _) (fun g hg _ => hg)).blk hS.1.blk (OwnB.apart (hO.keptF hk14) hS.1.blk (by decide))
          refine hK.out _ _ ⟨⟨hB3, H16.out⟩, hM3⟩ (fun hS => ?_)
          clear hK K
          refine wpAnyH_ready (rs := [16]) (by kernel_rfl) (by simp) ?_
          refine AllReadyH.cons rfl (fun K hK => ?_) AllReadyH.nil
          go_simp
          refine hK.out _ _ hS (fun hS => ?_)
          clear hK K
          refine wpAnyH_done (by kernel_rfl) ?_ _
          go_wp2_with fail
          go_meet
          exact ⟨ap, cp, rfl, ⟨hA.own, hS.1, hM3⟩⟩
        · skip
          go_simp
          refine (ints_any (hS.2.tabs HT.out (fun h => h)) hI (by simp)).mono ?_
          rintro e W14 ⟨v14, rfl, ho14, hk14⟩
          refine hK.out _ _ ⟨hS.1.kept hk14, hS.2.trans hk14⟩ (fun hS => ?_)
          clear hK K
          refine wpAnyH_ready (rs := [10]) (by kernel_rfl) (by simp) ?_
          refine AllReadyH.cons rfl (fun K hK => ?_) AllReadyH.nil
          go_simp
          have hk10 := (Mod.refl (fun _ => False) W14).alloc (.cells #[.int .u8 z] 5)
          have hO := tag_own W14 w.heap.size HZN.out HZ.out hS.2.size
          refine hK.out _ _ ⟨hS.1.kept hk10, hS.2.trans hk10⟩ (fun hS => ?_)
          clear hK K
          generalize hg10 : W14.alloc (.cells #[.int .u8 z] 5) = W10 at *
          refine wpAnyH_ready (rs := [15]) (by kernel_rfl) (by simp) ?_
          refine AllReadyH.cons rfl (fun K hK => ?_) AllReadyH.nil
          refine step_append_b rfl (.tmp 52) (.tmp 56) rfl (.slice (some ⟨W14.heap.size, 0, none⟩) 1 1) [UInt8.ofNat n] w.heap.size _ (by rfl) hO v14 (intsL [f.id]) (by rfl) (byts_kept ho14.byts hk10) (UInt8.ofNat n :: putL f.id) HCAT.out rfl HLEN1.out hS.2.size ?_
          intro ap cp X3 hA
          (try go_frame)
          have hM3 : Mod (fun _ => False) w X3 := hA.modF hS.2 (Nat.le_refl _)
          have hB3 := (hA.mod (w0 := W10) (S := fun k => (Value.slice (some ⟨W14.heap.size, 0, none⟩) 1 1).ownBlock = some k) (Mod.refl _ _) (fun g hg _ => hg)).blk hS.1.blk (OwnB.apart hO hS.1.blk (by decide))
          refine hK.out _ _ ⟨⟨hB3, H16.out⟩, hM3⟩ (fun hS => ?_)
          clear hK K
          refine wpAnyH_ready (rs := [16]) (by kernel_rfl) (by simp) ?_
          refine AllReadyH.cons rfl (fun K hK => ?_) AllReadyH.nil
          go_simp
          refine hK.out _ _ hS (fun hS => ?_)
          clear hK K
          refine wpAnyH_done (by kernel_rfl) ?_ _
          go_wp2_with fail
          go_meet
          exact ⟨ap, cp, rfl, ⟨hA.own, hS.1, hM3⟩⟩
    · skip
      go_simp
      have hk13 := (Mod.refl (fun _ => False) W0).alloc (.cells #[.int .u64 (f.id : Int)] 22)
      have hI := ints1 (w := W0) (a := f.id) rfl
      refine hK.out _ _ ⟨hS.1.kept hk13, hS.2.trans hk13⟩ (fun hS => ?_)
      clear hK K
      generalize hg13 : W0.alloc (.cells #[.int .u64 (f.id : Int)] 22) = W13 at *
      refine wpAnyH_ready (rs := [3]) (by kernel_rfl) (by simp) ?_
      refine AllReadyH.cons rfl (fun K hK => ?_) AllReadyH.nil
      go_simp
      refine (bit_any _ _ _).mono ?_
      rintro e w' ⟨rfl, rfl⟩
      refine hK.out _ _ hS (fun hS => ?_)
      clear hK K
      refine takeH (i := 4) (v := .int .i64 o1) (some 46) rfl rfl (by kernel_rfl) (by kernel_rfl) (by kernel_rfl) (fun _ _ _ h => h) (Or.inl ⟨by rfl, fun X hX => ?_⟩) hS ?_
      · go_simp
      (try go_frame)
      refine wpAnyH_ready (rs := [7]) (by kernel_rfl) (by simp) ?_
      refine AllReadyH.cons rfl (fun K hK => ?_) AllReadyH.nil
      go_simp
      refine (bit_any _ _ _).mono ?_
      rintro e w' ⟨rfl, rfl⟩
      refine hK.out _ _ hS (fun hS => ?_)
      clear hK K
      refine takeH (i := 8) (v := .int .i64 z) (some 50) rfl rfl (by kernel_rfl) (by kernel_rfl) (by kernel_rfl) (fun _ _ _ h => h) (Or.inl ⟨by rfl, fun X hX => ?_⟩) hS ?_
      · go_simp
      (try go_frame)
      refine takeH (i := 9) (v := .int .u8 z) (some 51) rfl rfl (by kernel_rfl) (by kernel_rfl) (by kernel_rfl) (fun _ _ _ h => h) (Or.inl ⟨by rfl, fun X hX => ?_⟩) hS ?_
      · go_simp
      (try go_frame)
      refine wpAnyH_ready (rs := [10, 14]) (by kernel_rfl) (by simp) ?_
      refine AllReadyH.cons rfl (fun K hK => ?_) (AllReadyH.cons rfl (fun K hK => ?_) AllReadyH.nil)
      · skip
        go_simp
        have hk10 := (Mod.refl (fun _ => False) W13).alloc (.cells #[.int .u8 z] 5)
        have hO := tag_own W13 w.heap.size HZN.out HZ.out hS.2.size
        refine hK.out _ _ ⟨hS.1.kept hk10, hS.2.trans hk10⟩ (fun hS => ?_)
        clear hK K
        generalize hg10 : W13.alloc (.cells #[.int .u8 z] 5) = W10 at *
        refine wpAnyH_ready (rs := [14]) (by kernel_rfl) (by simp) ?_
        refine AllReadyH.cons rfl (fun K hK => ?_) AllReadyH.nil
        go_simp
        refine (ints_any (hS.2.tabs HT.out (fun h => h)) (Sl.kept hI hk10 (fun _ _ h => h)) (by simp)).mono ?_
        rintro e W14 ⟨v14, rfl, ho14, hk14⟩
        refine hK.out _ _ ⟨hS.1.kept hk14, hS.2.trans hk14⟩ (fun hS => ?_)
        clear hK K
        refine wpAnyH_ready (rs := [15]) (by kernel_rfl) (by simp) ?_
        refine AllReadyH.cons rfl (fun K hK => ?_) AllReadyH.nil
        refine step_append_b rfl (.tmp 52) (.tmp 56) rfl (.slice (some ⟨W13.heap.size, 0, none⟩) 1 1) [UInt8.ofNat n] w.heap.size _ (by rfl) (hO.keptF hk14) v14 (intsL [f.id]) (by rfl) ho14.byts (UInt8.ofNat n :: putL f.id) HCAT.out rfl HLEN1.out hS.2.size ?_
        intro ap cp X3 hA
        (try go_frame)
        have hM3 : Mod (fun _ => False) w X3 := hA.modF hS.2 (Nat.le_refl _)
        have hB3 := (hA.mod (w0 := W14) (S := fun k => (Value.slice (some ⟨W13.heap.size, 0, none⟩) 1 1).ownBlock = some k) (Mod.refl _ _) (fun g hg _ => hg)).blk hS.1.blk (OwnB.apart (hO.keptF hk14) hS.1.blk (by decide))
        refine hK.out _ _ ⟨⟨hB3, H16.out⟩, hM3⟩ (fun hS => ?_)
        clear hK K
        refine wpAnyH_ready (rs := [16]) (by kernel_rfl) (by simp) ?_
        refine AllReadyH.cons rfl (fun K hK => ?_) AllReadyH.nil
        go_simp
        refine hK.out _ _ hS (fun hS => ?_)
        clear hK K
        refine wpAnyH_done (by kernel_rfl) ?_ _
        go_wp2_with fail
        go_meet
        exact ⟨ap, cp, rfl, ⟨hA.own, hS.1, hM3⟩⟩
      · skip
        go_simp
        refine (ints_any (hS.2.tabs HT.out (fun h => h)) hI (by simp)).mono ?_
        rintro e W14 ⟨v14, rfl, ho14, hk14⟩
        refine hK.out _ _ ⟨hS.1.kept hk14, hS.2.trans hk14⟩ (fun hS => ?_)
        clear hK K
        refine wpAnyH_ready (rs := [10]) (by kernel_rfl) (by simp) ?_
        refine AllReadyH.cons rfl (fun K hK => ?_) AllReadyH.nil
        go_simp
        have hk10 := (Mod.refl (fun _ => False) W14).alloc (.cells #[.int .u8 z] 5)
        have hO := tag_own W14 w.heap.size HZN.out HZ.out hS.2.size
        refine hK.out _ _ ⟨hS.1.kept hk10, hS.2.trans hk10⟩ (fun hS => ?_)
        clear hK K
        generalize hg10 : W14.alloc (.cells #[.int .u8 z] 5) = W10 at *
        refine wpAnyH_ready (rs := [15]) (by kernel_rfl) (by simp) ?_
        refine AllReadyH.cons rfl (fun K hK => ?_) AllReadyH.nil
        refine step_append_b rfl (.tmp 52) (.tmp 56) rfl (.slice (some ⟨W14.heap.size, 0, none⟩) 1 1) [UInt8.ofNat n] w.heap.size _ (by rfl) hO v14 (intsL [f.id]) (by rfl) (byts_kept ho14.byts hk10) (UInt8.ofNat n :: putL f.id) HCAT.out rfl HLEN1.out hS.2.size ?_
        intro ap cp X3 hA
        (try go_frame)
        have hM3 : Mod (fun _ => False) w X3 := hA.modF hS.2 (Nat.le_refl _)
        have hB3 := (hA.mod (w0 := W10) (S := fun k => (Value.slice (some ⟨W14.heap.size, 0, none⟩) 1 1).ownBlock = some k) (Mod.refl _ _) (fun g hg _ => hg)).blk hS.1.blk (OwnB.apart hO hS.1.blk (by decide))
        refine hK.out _ _ ⟨⟨hB3, H16.out⟩, hM3⟩ (fun hS => ?_)
        clear hK K
        refine wpAnyH_ready (rs := [16]) (by kernel_rfl) (by simp) ?_
        refine AllReadyH.cons rfl (fun K hK => ?_) AllReadyH.nil
        go_simp
        refine hK.out _ _ hS (fun hS => ?_)
        clear hK K
        refine wpAnyH_done (by kernel_rfl) ?_ _
        go_wp2_with fail
        go_meet
        exact ⟨ap, cp, rfl, ⟨hA.own, hS.1, hM3⟩⟩
  case rest =>
    obtain ⟨ap, cp, rfl, HC⟩ := hcut
    have c2 := HC.out.2.1.cells.2.2.1
    have c6 := HC.out.2.1.cells.2.2.2.2.2.2.1
    obtain ⟨n1, hn1⟩ : ∃ m, m = [UInt8.ofNat n].length + (intsL [f.id]).length := ⟨_, rfl⟩
    have hn9 : n1 = (UInt8.ofNat n :: putL f.id).length := by rw [hn1, HCAT.out, List.length_append]
    have hn1l : (n1 : Int) ≤ 100 := by rw [hn1]; have := intsL_len [f.id]; simp at this ⊢; omega
    rw [← hn1] at HC ⊢
    have HN1 := Lib.hid hn9
    clear hn1 hn9
    generalize hacc : UInt8.ofNat n :: putL f.id = acc at *
    clear hacc
    obtain ⟨da, dc, rfl, _⟩ := byts_val HV.out.d
    have HDT : Hid (∀ X, Mod (fun _ => False) w X → Calls Tryd.prog 27 #[.slice da f.d.length dc] X fun e Y => ∃ v', e = .returned v' ∧ OwnB Y X.heap.size v' (dataL f.d) ∧ Mod (fun _ => False) X Y) := fun X hX => data_any (hX.tabs HT.out (fun h => h)) (byts_kept HV.out.d hX) (by have := HDL.out; omega)
    have HLD : Hid ((dataL f.d).length ≤ 100100) := by show _ ≤ _; unfold dataL; have := putL_len f.d.length; have := HDL.out; simp; omega
    cases ba
    · have HRES2 : Hid (fputL f = acc ++ dataL f.d) := by show _ = _; rw [HRES.out]; simp
      generalize dataL f.d = D at *
      go_wp2_with fail
      refine (HDT.out wc HC.out.2.2).mono ?_
      rintro e w3 ⟨v3, rfl, ho3, hk3⟩
      have HB3 := Lib.hid ho3.byts
      obtain ⟨a3, c3, rfl, _⟩ := byts_val ho3.byts
      have HK3 := Lib.hid hk3
      have HO3 := Lib.hid (HC.out.1.keptF hk3)
      have HL3 : Hid (((n1 + D.length : Nat) : Int) ≤ 140737488355328) := by show _ ≤ _; have := HLD.out; omega
      clear ho3 hk3
      generalize hnd : D.length = nd at *
      have HND := Lib.hid hnd
      clear hnd
      go_wp2_with (at_builtin; go_must (refine wpList_append_b rfl (.tmp 67) (.tmp 70) (by rfl) (.slice ap n1 cp) acc w.heap.size (n1 + nd) (by rfl) HO3.out _ D (by rfl) HB3.out (acc ++ D) rfl (by rw [← HN1.out, HND.out]) HL3.out (HC.out.2.2.trans HK3.out).size ?_); intro ap5 cp5 W5 hA5)
      go_ret
      exact ⟨_, rfl, by rw [HRES2.out]; exact hA5.own, hA5.modF (HC.out.2.2.trans HK3.out) (Nat.le_refl _)⟩
    · have HRES2 : Hid (fputL f = (acc ++ putL f.a) ++ dataL f.d) := by show _ = _; rw [HRES.out]; simp
      have HIA : Hid (intsL [f.a] = putL f.a) := by show _ = _; simp [intsL]
      have HLA := Lib.hid (putL_len f.a)
      generalize dataL f.d = D at *
      have HC2 := Lib.hid (HC.out.2.2.alloc (.cells #[.int .u64 (f.a : Int)] 22))
      go_wp2_with fail
      refine (ints_any (HC2.out.tabs HT.out (fun h => h)) (ints1 (a := f.a) rfl) (by simp)).mono ?_
      rintro e w2 ⟨v2, rfl, ho2, hk2⟩
      have hC3 := (Mod.refl (fun _ => False) wc).alloc (.cells #[.int .u64 (f.a : Int)] 22)
      have hb2 := ho2.byts
      rw [HIA.out] at hb2
      have HB2 := Lib.hid hb2
      have HK2 := Lib.hid (HC2.out.trans hk2)
      have HO2 := Lib.hid ((HC.out.1.keptF hC3).keptF hk2)
      have HF2 := Lib.hid ((HC.out.2.1.kept hC3).kept hk2)
      obtain ⟨a2, c2', rfl, _⟩ := byts_val hb2
      generalize putL f.a = pa at *
      have HL2 : Hid (((n1 + pa.length : Nat) : Int) ≤ 140737488355328) := by show _ ≤ _; have := HLA.out; omega
      have hpa : (pa.length : Int) ≤ 8 := by have := HLA.out; omega
      generalize hnp : pa.length = np at *
      have HNP := Lib.hid hnp
      clear ho2 hk2 hb2 hnp hC3
      go_wp2_with (at_builtin; go_must (refine wpList_append_b rfl (.tmp 61) (.tmp 65) (by rfl) (.slice ap n1 cp) acc w.heap.size (n1 + np) (by rfl) HO2.out _ pa (by rfl) HB2.out (acc ++ pa) rfl (by rw [← HN1.out, HNP.out]) HL2.out HK2.out.size ?_); intro ap5 cp5 W5 hA5; have c66 : W5.cell? ⟨w.heap.size, 6, none⟩ = some (.slice da f.d.length dc) := ((hA5.mod (w0 := w2) (S := fun k => (Value.slice ap n1 cp).ownBlock = some k) (Mod.refl _ _) (fun g hg _ => hg)).blk HF2.out.blk (OwnB.apart HO2.out HF2.out.blk (by decide))).cellAt 6 rfl; have HA5 := Lib.hid hA5; have HM5 := Lib.hid (hA5.modF HK2.out (Nat.le_refl _)); clear hA5)
      refine (HDT.out W5 HM5.out).mono ?_
      rintro e w3 ⟨v3, rfl, ho3, hk3⟩
      have HB3 := Lib.hid ho3.byts
      obtain ⟨a3, c3, rfl, _⟩ := byts_val ho3.byts
      have HK3 := Lib.hid hk3
      have HO3 := Lib.hid (HA5.out.own.keptF hk3)
      have HL3 : Hid (((n1 + np + D.length : Nat) : Int) ≤ 140737488355328) := by show _ ≤ _; have := HLD.out; omega
      clear ho3 hk3
      generalize hnd : D.length = nd at *
      have HND := Lib.hid hnd
      clear hnd
      go_wp2_with (at_builtin; go_must (refine wpList_append_b rfl (.tmp 67) (.tmp 70) (by rfl) (.slice ap5 (n1 + np) cp5) (acc ++ pa) w.heap.size (n1 + np + nd) (by rfl) HO3.out _ D (by rfl) HB3.out ((acc ++ pa) ++ D) rfl (by rw [List.length_append, ← HN1.out, HNP.out, HND.out]) HL3.out (HM5.out.trans HK3.out).size ?_); intro ap6 cp6 W6 hA6)
      go_ret
      exact ⟨_, rfl, by rw [HRES2.out]; exact hA6.own, hA6.modF (HM5.out.trans HK3.out) (Nat.le_refl _)⟩
end Go.Proofs.YteegonadodmeeaaDoor
