/- The document's Put, all kinds; the walk of the law FramesPut. -/
import Derived.Test.YteegonadodmeeaaDoorGdE
namespace Go.Proofs.YteegonadodmeeaaDoor
open Go.RowKit

set_option maxHeartbeats 16000000 in
set_option maxRecDepth 10000 in
theorem refput_k0 {w : World} {f : Fr} {vd vr : Value} (hv : FrV w f vd vr) (hrl : (f.rs.length : Int) ≤ 100000) (hro : RngOk f) (hr : rightF f = true) (hk : f.k = 0) :
    Calls Tryd.prog 16 #[frV f vd vr] w fun e w' => ∃ v, e = .returned v ∧ OwnB w' w.heap.size v (fputL f) ∧ Mod (fun _ => False) w w' := by
  obtain ⟨R, hR⟩ : ∃ R, R = fputL f := ⟨_, rfl⟩
  rw [← hR]
  have HRR := Lib.hid hR
  have HV := Lib.hid hv
  have HF0 := Lib.hid (FrB.new w f vd vr hv.t)
  have HM0 : Hid (Mod (fun _ => False) w (w.alloc (.cells (frC f vd vr) 27))) := (Mod.refl _ _).alloc _
  obtain ⟨da, dc, rfl, _⟩ := byts_val hv.d
  obtain ⟨ra, rc, rfl, hrc, _⟩ := rg_val hv.r
  have HRT := Lib.hid (fun (X : World) (C : Array Value) (hC : C = frC f (.slice da f.d.length dc) (.slice ra f.rs.length rc)) (h : Mod (fun _ => False) w X) => refright_c hC (hv.kept h) hrl hro)
  have hdl := hv.dl
  obtain ⟨nd, hnd⟩ : ∃ n, f.d.length = n := ⟨_, rfl⟩
  obtain ⟨nr, hnr⟩ : ∃ n, f.rs.length = n := ⟨_, rfl⟩
  have HND := Lib.hid hnd
  have HNR := Lib.hid hnr
  rw [hnd, hnr] at HV HF0 HM0 HRT ⊢
  rw [hnd] at hdl
  rw [hnr] at hrl hrc
  have hrc2 : (nr : Int) ≤ rc := by omega
  obtain ⟨C, hC⟩ : ∃ C, C = frC f (.slice da nd dc) (.slice ra nr rc) := ⟨_, rfl⟩
  have HC := Lib.hid hC
  unfold frV
  rw [← hC] at HM0 ⊢
  have HF1 : Hid (FrB (w.alloc (.cells C 27)) w.heap.size f (.slice da nd dc) (.slice ra nr rc)) := by show FrB _ _ _ _ _; rw [hC]; exact HF0.out
  have HLD : Hid ((Instr.loadAt 27 (.pointer (some ⟨w.heap.size, 0, none⟩))).run Tryd.prog (w.alloc (.cells C 27)) = .ok (.agg C) (w.alloc (.cells C 27))) := by
    have h := blk_loadAt HF1.out
    unfold frV at h
    rwa [← HC.out] at h
  clear HF0 hR hv hro hnd hnr hC hrc
  go_enter Tryd.func16, Tryd.ntmps16
  go_wp2_with (first | ((with_reducible refine wpList_load_v 27 (.tmp 1) ?_ ?_ (.pointer (some ⟨w.heap.size, 0, none⟩)) (.agg C) ?_ HLD.out ?_); (· exact rfl); (· exact rfl); (· exact rfl)) | fail)
  refine (HRT.out _ C HC.out HM0.out).mono ?_
  rintro e w2 ⟨rfl, hM2⟩
  have HM2 := Lib.hid (HM0.out.trans hM2)
  have HF2 := Lib.hid (HF1.out.kept hM2)
  clear hM2 HM0 HF1 HRT
  have HRF := Lib.hid hr
  rw [hr]
  have hnd2 : (nd : Int) ≤ 1200 := by have := (right_len hr).1; have := HND.out; omega
  obtain ⟨c0, c1, c2, c3, c4, c5, c6, c7⟩ := HF2.out.cells
  have HCX := Lib.hid (fun (X : World) (h : Mod (fun _ => False) w2 X) => (HF2.out.kept h).cells)
  have HTG : Hid (tagN f ≤ 255) := tag_le hr
  have hw0 : IntKind.u64.wrap (nd : Int) = nd := IntWalk.u64_in _ (by omega)
  have hok : okN 0 f = true := ok_at hr (k := 0) (by rw [hk]; rfl)
  simp only [okN, Bool.and_eq_true, decide_eq_true_eq] at hok
  have hfl := fl_of hr (by rw [hk]; decide)
  have hRL : R = List.replicate f.a 0 := by
    rw [HRR.out]
    unfold fputL
    rw [if_pos hr, hk]
    have ht : tagN f = 0 := by unfold tagN; rw [hk, hfl]; rfl
    rw [ht]
    show UInt8.ofNat 0 :: List.replicate (f.a - 1) 0 = _
    obtain ⟨m, hm⟩ : ∃ m, f.a = m + 1 := ⟨f.a - 1, by omega⟩
    rw [hm, Nat.add_sub_cancel, List.replicate_succ]
    rfl
  subst hRL
  have HTZ : Hid ((tagN f : Int) = 0) := by show _ = _; unfold tagN; rw [hk, hfl]; rfl
  have HK := Lib.hid hk
  have HFL := Lib.hid hfl
  have hab : (1 : Int) ≤ (f.a : Int) ∧ (f.a : Int) ≤ 1200 := by omega
  have hwa : IntKind.i64.wrap (f.a : Int) = f.a := IntWalk.i64_in _ (by omega)
  rw [hk] at c0
  rw [hfl] at c5
  clear hk hfl hr hok HRR
  have c6a := (HCX.out _ ((Mod.refl (fun _ => False) w2).alloc (.cells #[.int .u8 (0)] 5))).2.2.2.2.2.2.1
  go_wp2_with fail
  have HP2 := Lib.hid (PtS.made (n := tagN f) HF2.out HV.out HM2.out (z := 0) HTZ.out HTG.out)
  clear HF2 HTZ HCX c6a c0 c1 c2 c3 c4 c5 c6 c7
  refine (refput_any nd _).mono ?_
  rintro e w3 ⟨v3, rfl, ho3, hM3⟩
  have HM3 : Hid (Mod (fun _ => False) w2 w3) := ((Mod.refl _ _).alloc _).trans hM3
  have HP3 := Lib.hid (HP2.out.setz hM3 ho3)
  obtain ⟨az, cz, rfl, _⟩ := byts_val ho3.byts
  obtain ⟨c0, c1, c2, c3, c4, c5, c6, c7⟩ := HP3.out.a.cells
  obtain ⟨LZ, hLZ⟩ : ∃ x, x = putL nd := ⟨_, rfl⟩
  rw [← hLZ] at HP3 ⊢
  have HLZ := Lib.hid hLZ
  have HLZN : Hid ((LZ.length : Int) ≤ 8) := by show _ ≤ _; rw [hLZ]; have := putL_len nd; omega
  obtain ⟨nz, hnz⟩ : ∃ x, LZ.length = x := ⟨_, rfl⟩
  rw [hnz] at HP3 HLZN ⊢
  have HNZ := Lib.hid hnz
  clear hM3 ho3 HP2 hLZ hnz
  generalize w2.heap.size = gt at *
  rw [HK.out] at c0
  have HA := HP3.out.m
  have HAH := Lib.hid HA
  clear HA
  obtain ⟨i0, hi, hz0, hz1, hz2⟩ := info_parts Tryd.info5
  go_wp2_with (at_make; go_must (refine wpList_make_full _ rfl _ _ 23 rfl w3.heap.size 5 i0 (.int .u8 0) 1 Tryd.underlying23 hi hz0 hz1 _ _ _ _ f.a rfl rfl rfl rfl (by rw [hz2]; omega) (by unfold maxLen; omega) (by simp) ?_); intro w4 hown hgrow)
  have hb : OwnB w4 w3.heap.size (.slice (some ⟨w3.heap.size, 0, none⟩) f.a f.a) (List.replicate f.a 0) := by
    have h := hown
    rw [Nat.mul_one, show (Value.int .u8 0).cells = #[.int .u8 0] from rfl, toList_madeCells_one] at h
    have e : (List.replicate f.a (Value.int .u8 0)) = (List.replicate f.a (0 : UInt8)).map bv := by rw [List.map_replicate]; rfl
    rw [e] at h
    unfold OwnB
    rw [List.length_replicate]
    exact h
  have HB := Lib.hid hb
  have HM4 := Lib.hid (HAH.out.grown hgrow (fun k h => by simp at h))
  have HS4 := Lib.hid HAH.out.size
  clear hown hgrow hb
  go_wp2_with fail
  go_ret
  exact ⟨_, rfl, OwnB.mono HB.out HS4.out, HM4.out⟩
set_option maxHeartbeats 16000000 in
set_option maxRecDepth 10000 in
theorem refput_k24 {w : World} {f : Fr} {vd vr : Value} (hv : FrV w f vd vr) (hrl : (f.rs.length : Int) ≤ 100000) (hro : RngOk f) (hr : rightF f = true) (hk : f.k = 24) :
    Calls Tryd.prog 16 #[frV f vd vr] w fun e w' => ∃ v, e = .returned v ∧ OwnB w' w.heap.size v (fputL f) ∧ Mod (fun _ => False) w w' := by
  obtain ⟨R, hR⟩ : ∃ R, R = fputL f := ⟨_, rfl⟩
  rw [← hR]
  have HRR := Lib.hid hR
  have HV := Lib.hid hv
  have HF0 := Lib.hid (FrB.new w f vd vr hv.t)
  have HM0 : Hid (Mod (fun _ => False) w (w.alloc (.cells (frC f vd vr) 27))) := (Mod.refl _ _).alloc _
  obtain ⟨da, dc, rfl, _⟩ := byts_val hv.d
  obtain ⟨ra, rc, rfl, hrc, _⟩ := rg_val hv.r
  have HRT := Lib.hid (fun (X : World) (C : Array Value) (hC : C = frC f (.slice da f.d.length dc) (.slice ra f.rs.length rc)) (h : Mod (fun _ => False) w X) => refright_c hC (hv.kept h) hrl hro)
  have hdl := hv.dl
  obtain ⟨nd, hnd⟩ : ∃ n, f.d.length = n := ⟨_, rfl⟩
  obtain ⟨nr, hnr⟩ : ∃ n, f.rs.length = n := ⟨_, rfl⟩
  have HND := Lib.hid hnd
  have HNR := Lib.hid hnr
  rw [hnd, hnr] at HV HF0 HM0 HRT ⊢
  rw [hnd] at hdl
  rw [hnr] at hrl hrc
  have hrc2 : (nr : Int) ≤ rc := by omega
  obtain ⟨C, hC⟩ : ∃ C, C = frC f (.slice da nd dc) (.slice ra nr rc) := ⟨_, rfl⟩
  have HC := Lib.hid hC
  unfold frV
  rw [← hC] at HM0 ⊢
  have HF1 : Hid (FrB (w.alloc (.cells C 27)) w.heap.size f (.slice da nd dc) (.slice ra nr rc)) := by show FrB _ _ _ _ _; rw [hC]; exact HF0.out
  have HLD : Hid ((Instr.loadAt 27 (.pointer (some ⟨w.heap.size, 0, none⟩))).run Tryd.prog (w.alloc (.cells C 27)) = .ok (.agg C) (w.alloc (.cells C 27))) := by
    have h := blk_loadAt HF1.out
    unfold frV at h
    rwa [← HC.out] at h
  clear HF0 hR hv hro hnd hnr hC hrc
  go_enter Tryd.func16, Tryd.ntmps16
  go_wp2_with (first | ((with_reducible refine wpList_load_v 27 (.tmp 1) ?_ ?_ (.pointer (some ⟨w.heap.size, 0, none⟩)) (.agg C) ?_ HLD.out ?_); (· exact rfl); (· exact rfl); (· exact rfl)) | fail)
  refine (HRT.out _ C HC.out HM0.out).mono ?_
  rintro e w2 ⟨rfl, hM2⟩
  have HM2 := Lib.hid (HM0.out.trans hM2)
  have HF2 := Lib.hid (HF1.out.kept hM2)
  clear hM2 HM0 HF1 HRT
  have HRF := Lib.hid hr
  rw [hr]
  have hnd2 : (nd : Int) ≤ 1200 := by have := (right_len hr).1; have := HND.out; omega
  obtain ⟨c0, c1, c2, c3, c4, c5, c6, c7⟩ := HF2.out.cells
  have HCX := Lib.hid (fun (X : World) (h : Mod (fun _ => False) w2 X) => (HF2.out.kept h).cells)
  have HTG : Hid (tagN f ≤ 255) := tag_le hr
  have hw0 : IntKind.u64.wrap (nd : Int) = nd := IntWalk.u64_in _ (by omega)
  have hok : okN 24 f = true := ok_at hr (k := 24) (by rw [hk]; rfl)
  simp only [okN, Bool.and_eq_true, decide_eq_true_eq] at hok
  have hfl := fl_of hr (by rw [hk]; decide)
  have hRL : R = UInt8.ofNat (tagN f) :: (putL f.id ++ putL f.a ++ [UInt8.ofNat f.d.length] ++ f.d ++ f.t) := by
    rw [HRR.out]
    unfold fputL
    rw [if_pos hr, hk]
    rfl
  subst hRL
  have HTZ : Hid ((tagN f : Int) = 24) := by show _ = _; unfold tagN; rw [hk, hfl]; rfl
  have HK := Lib.hid hk
  have HFL := Lib.hid hfl
  have hnd20 : (nd : Int) ≤ 20 := by have := HND.out; omega
  have hw5 : IntKind.u8.wrap (nd : Int) = nd := IntWalk.u8_in _ (by omega)
  have HT16 : Hid (f.t.length = 16) := HV.out.t
  rw [hk] at c0
  rw [hfl] at c5
  clear hk hfl hr hok HRR
  have c6a := (HCX.out _ ((Mod.refl (fun _ => False) w2).alloc (.cells #[.int .u8 (24)] 5))).2.2.2.2.2.2.1
  go_wp2_with fail
  have HP2 := Lib.hid (PtS.made (n := tagN f) HF2.out HV.out HM2.out (z := 24) HTZ.out HTG.out)
  clear HF2 HTZ HCX c6a c0 c1 c2 c3 c4 c5 c6 c7
  refine (refput_any nd _).mono ?_
  rintro e w3 ⟨v3, rfl, ho3, hM3⟩
  have HM3 : Hid (Mod (fun _ => False) w2 w3) := ((Mod.refl _ _).alloc _).trans hM3
  have HP3 := Lib.hid (HP2.out.setz hM3 ho3)
  obtain ⟨az, cz, rfl, _⟩ := byts_val ho3.byts
  obtain ⟨c0, c1, c2, c3, c4, c5, c6, c7⟩ := HP3.out.a.cells
  obtain ⟨LZ, hLZ⟩ : ∃ x, x = putL nd := ⟨_, rfl⟩
  rw [← hLZ] at HP3 ⊢
  have HLZ := Lib.hid hLZ
  have HLZN : Hid ((LZ.length : Int) ≤ 8) := by show _ ≤ _; rw [hLZ]; have := putL_len nd; omega
  obtain ⟨nz, hnz⟩ : ∃ x, LZ.length = x := ⟨_, rfl⟩
  rw [hnz] at HP3 HLZN ⊢
  have HNZ := Lib.hid hnz
  clear hM3 ho3 HP2 hLZ hnz
  generalize w2.heap.size = gt at *
  rw [HK.out] at c0
  go_wp2_with fail
  refine (refput_any f.id _).mono ?_
  rintro e w5 ⟨v5, rfl, ho5, hM5⟩
  have HQI := Lib.hid (HP3.out.kept hM5)
  have HBI := Lib.hid ho5.byts
  obtain ⟨aI, cI', rfl, -⟩ := byts_val ho5.byts
  obtain ⟨NI, hN⟩ : ∃ x, x = putL f.id := ⟨_, rfl⟩
  rw [← hN] at HBI ⊢
  have HNI := Lib.hid hN
  obtain ⟨nI, hnn⟩ : ∃ x, NI.length = x := ⟨_, rfl⟩
  rw [hnn] at HBI ⊢
  have hn8I : (nI : Int) ≤ 8 := by rw [← hnn, hN]; have := putL_len f.id; omega
  have HSUMI : Hid (([UInt8.ofNat (tagN f)]).length + NI.length = 1 + nI) := by show _ = _; rw [show ([UInt8.ofNat (tagN f)] : List UInt8).length = 1 from rfl, hnn]
  have HLNI := Lib.hid hnn
  clear hM5 ho5 hN hnn
  clear c0 c1 c2 c3 c4 c5 c6 c7
  go_wp2_with (first
    | ((with_reducible refine wpList_append_bx ?_ (.tmp 175) (.tmp 178) ?_ (.slice (some ⟨gt, 0, none⟩) 1 1) ([UInt8.ofNat (tagN f)]) w.heap.size (1 + nI) ?_ HQI.out.o (.slice aI nI cI') NI ?_ HBI.out (([UInt8.ofNat (tagN f)]) ++ NI) rfl HSUMI.out ?_ HQI.out.m.size ?_); (· exact rfl); (· exact rfl); (· exact rfl); (· exact rfl); (· omega); intro ap5 cp5 w6 hA hat; have HP5 := Lib.hid (HQI.out.app hA hat); obtain ⟨e05, e15, e25, e35, e45, e55, e65, e75⟩ := HP5.out.a.cells; clear hA hat)
    | fail)
  refine (refput_any f.a _).mono ?_
  rintro e w7 ⟨v5, rfl, ho5, hM5⟩
  have HQA := Lib.hid (HP5.out.kept hM5)
  have HBA := Lib.hid ho5.byts
  obtain ⟨aA, cA', rfl, -⟩ := byts_val ho5.byts
  obtain ⟨NA, hN⟩ : ∃ x, x = putL f.a := ⟨_, rfl⟩
  rw [← hN] at HBA ⊢
  have HNA := Lib.hid hN
  obtain ⟨nA, hnn⟩ : ∃ x, NA.length = x := ⟨_, rfl⟩
  rw [hnn] at HBA ⊢
  have hn8A : (nA : Int) ≤ 8 := by rw [← hnn, hN]; have := putL_len f.a; omega
  have HSUMA : Hid (([UInt8.ofNat (tagN f)] ++ NI).length + NA.length = 1 + nI + nA) := by show _ = _; rw [List.length_append, HSUMI.out, hnn]
  have HLNA := Lib.hid hnn
  clear hM5 ho5 hN hnn
  clear e05 e15 e25 e35 e45 e55 e65 e75
  have HSL : Hid ((([UInt8.ofNat (tagN f)] ++ NI ++ NA) ++ [UInt8.ofNat nd]).length = 1 + nI + nA + 1) := by show _ = _; rw [List.length_append, List.length_append, HSUMA.out]; rfl
  have HSUML : Hid (([UInt8.ofNat (tagN f)] ++ NI ++ NA).length + ([UInt8.ofNat nd] : List UInt8).length = 1 + nI + nA + 1) := by show _ = _; rw [List.length_append, HSUMA.out]; rfl
  have HSUMD : Hid ((([UInt8.ofNat (tagN f)] ++ NI ++ NA) ++ [UInt8.ofNat nd]).length + f.d.length = 1 + nI + nA + 1 + nd) := by show _ = _; rw [HSL.out, HND.out]
  have HSUMT : Hid (((([UInt8.ofNat (tagN f)] ++ NI ++ NA) ++ [UInt8.ofNat nd]) ++ f.d).length + f.t.length = 1 + nI + nA + 1 + nd + 16) := by show _ = _; rw [List.length_append, HSL.out, HND.out, HT16.out]
  have HLIT : Hid (∀ X : World, Byts (X.alloc (.cells #[.int .u8 (nd : Int)] 5)) (.slice (some ⟨X.heap.size, 0, none⟩) 1 1) [UInt8.ofNat nd]) := fun X => (tag_own X X.heap.size rfl (by omega) (Nat.le_refl _)).byts
  go_wp2_with (first
    | ((with_reducible refine wpList_append_bx ?_ (.tmp 180) (.tmp 183) ?_ (.slice ap5 (1 + nI) cp5) ([UInt8.ofNat (tagN f)] ++ NI) w.heap.size (1 + nI + nA) ?_ HQA.out.o (.slice aA nA cA') NA ?_ HBA.out (([UInt8.ofNat (tagN f)] ++ NI) ++ NA) rfl HSUMA.out ?_ HQA.out.m.size ?_); (· exact rfl); (· exact rfl); (· exact rfl); (· exact rfl); (· omega); intro ap6 cp6 w8 hA hat; have HP6 := Lib.hid (HQA.out.app hA hat); obtain ⟨e06, e16, e26, e36, e46, e56, e66, e76⟩ := HP6.out.a.cells; have HP6x := Lib.hid (HP6.out.kept ((Mod.refl (fun _ => False) _).alloc (.cells #[.int .u8 (nd : Int)] 5))); clear hA hat)
    | ((with_reducible refine wpList_append_bx ?_ (.tmp 185) (.tmp 190) ?_ (.slice ap6 (1 + nI + nA) cp6) ([UInt8.ofNat (tagN f)] ++ NI ++ NA) w.heap.size (1 + nI + nA + 1) ?_ HP6x.out.o (.slice (some ⟨w8.heap.size, 0, none⟩) 1 1) [UInt8.ofNat nd] ?_ (HLIT.out w8) (([UInt8.ofNat (tagN f)] ++ NI ++ NA) ++ [UInt8.ofNat nd]) rfl HSUML.out ?_ HP6x.out.m.size ?_); (· exact rfl); (· exact rfl); (· exact rfl); (· exact rfl); (· omega); intro ap7 cp7 w9 hA hat; have HP7 := Lib.hid (HP6x.out.app hA hat); obtain ⟨e07, e17, e27, e37, e47, e57, e67, e77⟩ := HP7.out.a.cells; have HD7 : Hid (Byts w9 (.slice da nd dc) f.d) := byts_kept HP7.out.fv.d HP7.out.m; clear hA hat)
    | ((with_reducible refine wpList_append_bx ?_ (.tmp 192) (.tmp 194) ?_ (.slice ap7 (1 + nI + nA + 1) cp7) ([UInt8.ofNat (tagN f)] ++ NI ++ NA ++ [UInt8.ofNat nd]) w.heap.size (1 + nI + nA + 1 + nd) ?_ HP7.out.o (.slice da nd dc) f.d ?_ HD7.out (([UInt8.ofNat (tagN f)] ++ NI ++ NA ++ [UInt8.ofNat nd]) ++ f.d) rfl HSUMD.out ?_ HP7.out.m.size ?_); (· exact rfl); (· exact rfl); (· exact rfl); (· exact rfl); (· omega); intro ap8 cp8 w10 hA hat; have HP8 := Lib.hid (HP7.out.app hA hat); obtain ⟨e08, e18, e28, e38, e48, e58, e68, e78⟩ := HP8.out.a.cells; have HT8 := Lib.hid HP8.out.tok; clear hA hat)
    | ((with_reducible refine wpList_append_bx ?_ (.tmp 196) (.tmp 198) ?_ (.slice ap8 (1 + nI + nA + 1 + nd) cp8) ([UInt8.ofNat (tagN f)] ++ NI ++ NA ++ [UInt8.ofNat nd] ++ f.d) w.heap.size (1 + nI + nA + 1 + nd + 16) ?_ HP8.out.o (.slice (some ⟨w.heap.size, 8, none⟩) 16 16) f.t ?_ HT8.out (([UInt8.ofNat (tagN f)] ++ NI ++ NA ++ [UInt8.ofNat nd] ++ f.d) ++ f.t) rfl HSUMT.out ?_ HP8.out.m.size ?_); (· exact rfl); (· exact rfl); (· exact rfl); (· exact rfl); (· omega); intro ap9 cp9 w11 hA hat; have HP9 := Lib.hid (HP8.out.app hA hat); clear hA hat)
    | fail)
  go_ret
  refine ⟨_, rfl, ?_, HP9.out.m⟩
  have h := HP9.out.o
  have e : UInt8.ofNat (tagN f) :: (putL f.id ++ putL f.a ++ [UInt8.ofNat f.d.length] ++ f.d ++ f.t) = [UInt8.ofNat (tagN f)] ++ NI ++ NA ++ [UInt8.ofNat nd] ++ f.d ++ f.t := by rw [HNI.out, HNA.out, HND.out]; simp
  rw [e]
  exact h
def stepL (p : Option Nat) (y : Nat × Nat) : List UInt8 := (match p with | none => [] | some q => putL (q - y.2 - 2)) ++ putL (y.2 - y.1)
def loopL : Option Nat → List (Nat × Nat) → List UInt8
  | _, [] => []
  | p, y :: l => stepL p y ++ loopL (some y.1) l
theorem loop_gaps : ∀ (l : List (Nat × Nat)) (p : Nat), loopL (some p) l = gapsL p l
  | [], _ => rfl
  | y :: l, p => by
    show stepL (some p) y ++ loopL (some y.1) l = putL (p - y.2 - 2) ++ putL (y.2 - y.1) ++ gapsL y.1 l
    rw [loop_gaps l y.1]
    rfl
theorem ack_loop (b : Nat) (x : Nat × Nat) (l : List (Nat × Nat)) : ackL b (x :: l) = putL x.2 ++ putL b ++ putL l.length ++ loopL none (x :: l) := by
  show putL x.2 ++ putL b ++ putL l.length ++ putL (x.2 - x.1) ++ gapsL x.1 l = _
  rw [← loop_gaps]
  simp [loopL, stepL]
theorem loop_take : ∀ (l : List (Nat × Nat)) (p : Option Nat) (i : Nat) (y : Nat × Nat), l[i]? = some y → loopL p (l.take (i + 1)) = loopL p (l.take i) ++ stepL (prevOf p l i) y
  | [], _, i, y, h => by simp at h
  | x :: l, p, 0, y, h => by
    simp at h
    subst h
    simp [loopL, prevOf]
  | x :: l, p, i + 1, y, h => by
    have ih := loop_take l (some x.1) i y (by simpa using h)
    show stepL p x ++ loopL (some x.1) (l.take (i + 1)) = stepL p x ++ loopL (some x.1) (l.take i) ++ _
    rw [ih, List.append_assoc]
    congr 2
    cases i with
    | zero => simp [prevOf]
    | succ i => simp [prevOf]
theorem PtS.nilz {w0 w : World} {f : Fr} {vd vr v vz : Value} {L LZ : List UInt8} (h : PtS w0 w f vd vr v L vz LZ) : PtS w0 w f vd vr v L (.slice none 0 0) [] :=
  ⟨h.a, h.fv, h.o, h.m, Sl.nil _ _, fun g hg => by simp [blockOf] at hg, fun g hg => by simp [blockOf] at hg⟩
theorem PtS.app0 {w0 w w' : World} {f : Fr} {vd vr v v' : Value} {L L' : List UInt8} {n : Nat} (h : PtS w0 w f vd vr v L (.slice none 0 0) []) (hA : App w w' w0.heap.size n v v' L') : PtS w0 w' f vd vr v' L' (.slice none 0 0) [] := by
  have hM : Mod (fun k => v.ownBlock = some k) w w' := hA.mod (w0 := w) (S := fun k => v.ownBlock = some k) (Mod.refl _ _) (fun g hg _ => hg)
  exact ⟨⟨hM.blk h.a.blk (OwnB.apart h.o h.a.blk (by decide)), h.a.len⟩, h.fv, hA.own, hA.modF h.m (Nat.le_refl _), Sl.nil _ _, fun g hg => by simp [blockOf] at hg, fun g hg => by simp [blockOf] at hg⟩
set_option maxHeartbeats 16000000 in
set_option maxRecDepth 10000 in
theorem refput_k2 {w : World} {f : Fr} {vd vr : Value} (hv : FrV w f vd vr) (hrl : (f.rs.length : Int) ≤ 100000) (hro : RngOk f) (hr : rightF f = true) (hk : f.k = 2) :
    Calls Tryd.prog 16 #[frV f vd vr] w fun e w' => ∃ v, e = .returned v ∧ OwnB w' w.heap.size v (fputL f) ∧ Mod (fun _ => False) w w' := by
  obtain ⟨R, hR⟩ : ∃ R, R = fputL f := ⟨_, rfl⟩
  rw [← hR]
  have HRR := Lib.hid hR
  have HV := Lib.hid hv
  have HF0 := Lib.hid (FrB.new w f vd vr hv.t)
  have HM0 : Hid (Mod (fun _ => False) w (w.alloc (.cells (frC f vd vr) 27))) := (Mod.refl _ _).alloc _
  obtain ⟨da, dc, rfl, _⟩ := byts_val hv.d
  obtain ⟨ra, rc, rfl, hrc, _⟩ := rg_val hv.r
  have HRT := Lib.hid (fun (X : World) (C : Array Value) (hC : C = frC f (.slice da f.d.length dc) (.slice ra f.rs.length rc)) (h : Mod (fun _ => False) w X) => refright_c hC (hv.kept h) hrl hro)
  have hdl := hv.dl
  obtain ⟨nd, hnd⟩ : ∃ n, f.d.length = n := ⟨_, rfl⟩
  obtain ⟨nr, hnr⟩ : ∃ n, f.rs.length = n := ⟨_, rfl⟩
  have HND := Lib.hid hnd
  have HNR := Lib.hid hnr
  rw [hnd, hnr] at HV HF0 HM0 HRT ⊢
  rw [hnd] at hdl
  rw [hnr] at hrl hrc
  have hrc2 : (nr : Int) ≤ rc := by omega
  obtain ⟨C, hC⟩ : ∃ C, C = frC f (.slice da nd dc) (.slice ra nr rc) := ⟨_, rfl⟩
  have HC := Lib.hid hC
  unfold frV
  rw [← hC] at HM0 ⊢
  have HF1 : Hid (FrB (w.alloc (.cells C 27)) w.heap.size f (.slice da nd dc) (.slice ra nr rc)) := by show FrB _ _ _ _ _; rw [hC]; exact HF0.out
  have HLD : Hid ((Instr.loadAt 27 (.pointer (some ⟨w.heap.size, 0, none⟩))).run Tryd.prog (w.alloc (.cells C 27)) = .ok (.agg C) (w.alloc (.cells C 27))) := by
    have h := blk_loadAt HF1.out
    unfold frV at h
    rwa [← HC.out] at h
  clear HF0 hR hv hro hnd hnr hC hrc
  go_enter Tryd.func16, Tryd.ntmps16
  go_wp2_with (first | ((with_reducible refine wpList_load_v 27 (.tmp 1) ?_ ?_ (.pointer (some ⟨w.heap.size, 0, none⟩)) (.agg C) ?_ HLD.out ?_); (· exact rfl); (· exact rfl); (· exact rfl)) | fail)
  refine (HRT.out _ C HC.out HM0.out).mono ?_
  rintro e w2 ⟨rfl, hM2⟩
  have HM2 := Lib.hid (HM0.out.trans hM2)
  have HF2 := Lib.hid (HF1.out.kept hM2)
  clear hM2 HM0 HF1 HRT
  have HRF := Lib.hid hr
  rw [hr]
  have hnd2 : (nd : Int) ≤ 1200 := by have := (right_len hr).1; have := HND.out; omega
  obtain ⟨c0, c1, c2, c3, c4, c5, c6, c7⟩ := HF2.out.cells
  have HCX := Lib.hid (fun (X : World) (h : Mod (fun _ => False) w2 X) => (HF2.out.kept h).cells)
  have HTG : Hid (tagN f ≤ 255) := tag_le hr
  have hw0 : IntKind.u64.wrap (nd : Int) = nd := IntWalk.u64_in _ (by omega)
  have hok : okN 2 f = true := ok_at hr (k := 2) (by rw [hk]; rfl)
  simp only [okN, rangesB, Bool.and_eq_true, decide_eq_true_eq] at hok
  have hfl := fl_of hr (by rw [hk]; decide)
  have HOK : Hid (∀ i x, f.rs[i]? = some x → okR (prevOf none f.rs i) x) := (rngB_iff f.rs none).1 hok.1.1
  have h0l : 0 < f.rs.length := by omega
  obtain ⟨x0, lt, hlt⟩ : ∃ x l, f.rs = x :: l := by
    cases hh : f.rs with
    | nil => rw [hh] at h0l; simp at h0l
    | cons y l => exact ⟨y, l, rfl⟩
  have hx0 : f.rs[0]? = some x0 := by rw [hlt]; rfl
  have hll : lt.length + 1 = f.rs.length := by rw [hlt]; rfl
  obtain ⟨m1, hm1⟩ : ∃ m1 : Nat, (m1 : Int) = (nr : Int) - 1 := ⟨lt.length, by have := HNR.out; omega⟩
  have hlm : lt.length = m1 := by have := HNR.out; omega
  have HRL : Hid (R = UInt8.ofNat (tagN f) :: (putL x0.2 ++ putL f.b ++ putL m1 ++ loopL none f.rs)) := by
    show _ = _
    rw [HRR.out]
    unfold fputL
    rw [if_pos hr, hk]
    show UInt8.ofNat (tagN f) :: ackL f.b f.rs = _
    rw [hlt, ack_loop, hlm]
  have hnr16 : (nr : Int) ≤ 16 := by have := HNR.out; omega
  have hnr1 : (1 : Int) ≤ (nr : Int) := by have := HNR.out; omega
  have hwA : IntKind.i64.wrap ((nr : Int) - 1) = (m1 : Int) := by rw [hm1]; exact IntWalk.i64_in _ (by omega)
  have hwB : IntKind.u64.wrap (m1 : Int) = (m1 : Int) := IntWalk.u64_in _ (by omega)
  have HTZ : Hid ((tagN f : Int) = 2) := by show _ = _; unfold tagN; rw [hk, hfl]; rfl
  have HK := Lib.hid hk
  have HFL := Lib.hid hfl
  have hvr := HV.out.r
  obtain ⟨b, off, cp0, hv0, _, _, hcs⟩ := rg_addr hvr (by intro e; rw [e] at h0l; simp at h0l)
  simp only [Value.slice.injEq] at hv0
  obtain ⟨rfl, -, rfl⟩ := hv0
  have HCS := Lib.hid hcs
  have HX0 := Lib.hid (hcs 0 x0 hx0).2
  rw [hk] at c0
  rw [hfl] at c5
  clear hk hfl hr hok HRR h0l hx0 hlt hll hlm hvr hcs
  have c6a := (HCX.out _ ((Mod.refl (fun _ => False) w2).alloc (.cells #[.int .u8 (2)] 5))).2.2.2.2.2.2.1
  go_wp2_with fail
  have HP2 := Lib.hid (PtS.made (n := tagN f) HF2.out HV.out HM2.out (z := 2) HTZ.out HTG.out)
  clear HF2 HTZ HCX c6a c0 c1 c2 c3 c4 c5 c6 c7
  refine (refput_any nd _).mono ?_
  rintro e w3 ⟨v3, rfl, ho3, hM3⟩
  have HM3 : Hid (Mod (fun _ => False) w2 w3) := ((Mod.refl _ _).alloc _).trans hM3
  have HP3 := Lib.hid (HP2.out.setz hM3 ho3)
  obtain ⟨az, cz, rfl, _⟩ := byts_val ho3.byts
  obtain ⟨c0, c1, c2, c3, c4, c5, c6, c7⟩ := HP3.out.a.cells
  obtain ⟨LZ, hLZ⟩ : ∃ x, x = putL nd := ⟨_, rfl⟩
  rw [← hLZ] at HP3 ⊢
  have HLZ := Lib.hid hLZ
  have HLZN : Hid ((LZ.length : Int) ≤ 8) := by show _ ≤ _; rw [hLZ]; have := putL_len nd; omega
  obtain ⟨nz, hnz⟩ : ∃ x, LZ.length = x := ⟨_, rfl⟩
  rw [hnz] at HP3 HLZN ⊢
  have HNZ := Lib.hid hnz
  clear hM3 ho3 HP2 hLZ hnz
  generalize w2.heap.size = gt at *
  rw [HK.out] at c0
  have g1 := HP3.out.m.cellAt HX0.out (fun h => h)
  rw [Nat.zero_mul, Nat.add_zero] at g1
  go_wp2_with fail
  refine (refput_any x0.2 _).mono ?_
  rintro e w5 ⟨v5, rfl, ho5, hM5⟩
  have HQI := Lib.hid (HP3.out.kept hM5)
  have HBI := Lib.hid ho5.byts
  obtain ⟨aI, cI', rfl, -⟩ := byts_val ho5.byts
  obtain ⟨NI, hN⟩ : ∃ x, x = putL x0.2 := ⟨_, rfl⟩
  rw [← hN] at HBI ⊢
  have HNI := Lib.hid hN
  obtain ⟨nI, hnn⟩ : ∃ x, NI.length = x := ⟨_, rfl⟩
  rw [hnn] at HBI ⊢
  have hn8I : (nI : Int) ≤ 8 := by rw [← hnn, hN]; have := putL_len x0.2; omega
  have HSUMI : Hid (([UInt8.ofNat (tagN f)]).length + NI.length = 1 + nI) := by show _ = _; rw [show ([UInt8.ofNat (tagN f)] : List UInt8).length = 1 from rfl, hnn]
  have HLNI := Lib.hid hnn
  clear hM5 ho5 hN hnn
  clear c0 c1 c2 c3 c4 c5 c6 c7 g1
  go_wp2_with (first
    | ((with_reducible refine wpList_append_bx ?_ (.tmp 116) (.tmp 121) ?_ (.slice (some ⟨gt, 0, none⟩) 1 1) ([UInt8.ofNat (tagN f)]) w.heap.size (1 + nI) ?_ HQI.out.o (.slice aI nI cI') NI ?_ HBI.out (([UInt8.ofNat (tagN f)]) ++ NI) rfl HSUMI.out ?_ HQI.out.m.size ?_); (· exact rfl); (· exact rfl); (· exact rfl); (· exact rfl); (· omega); intro ap5 cp5 w6 hA hat; have HP5 := Lib.hid (HQI.out.app hA hat); obtain ⟨e05, e15, e25, e35, e45, e55, e65, e75⟩ := HP5.out.a.cells; clear hA hat)
    | fail)
  refine (refput_any f.b _).mono ?_
  rintro e w7 ⟨v5, rfl, ho5, hM5⟩
  have HQA := Lib.hid (HP5.out.kept hM5)
  have HBA := Lib.hid ho5.byts
  obtain ⟨aA, cA', rfl, -⟩ := byts_val ho5.byts
  obtain ⟨NA, hN⟩ : ∃ x, x = putL f.b := ⟨_, rfl⟩
  rw [← hN] at HBA ⊢
  have HNA := Lib.hid hN
  obtain ⟨nA, hnn⟩ : ∃ x, NA.length = x := ⟨_, rfl⟩
  rw [hnn] at HBA ⊢
  have hn8A : (nA : Int) ≤ 8 := by rw [← hnn, hN]; have := putL_len f.b; omega
  have HSUMA : Hid (([UInt8.ofNat (tagN f)] ++ NI).length + NA.length = 1 + nI + nA) := by show _ = _; rw [List.length_append, HSUMI.out, hnn]
  have HLNA := Lib.hid hnn
  clear hM5 ho5 hN hnn
  clear e05 e15 e25 e35 e45 e55 e65 e75
  go_wp2_with (first
    | ((with_reducible refine wpList_append_bx ?_ (.tmp 123) (.tmp 126) ?_ (.slice ap5 (1 + nI) cp5) ([UInt8.ofNat (tagN f)] ++ NI) w.heap.size (1 + nI + nA) ?_ HQA.out.o (.slice aA nA cA') NA ?_ HBA.out (([UInt8.ofNat (tagN f)] ++ NI) ++ NA) rfl HSUMA.out ?_ HQA.out.m.size ?_); (· exact rfl); (· exact rfl); (· exact rfl); (· exact rfl); (· omega); intro ap6 cp6 w8 hA hat; have HP6 := Lib.hid (HQA.out.app hA hat); clear hA hat)
    | fail)
  rw [← hm1]
  refine (refput_any m1 _).mono ?_
  rintro e w9 ⟨v5, rfl, ho5, hM5⟩
  have HQM := Lib.hid (HP6.out.kept hM5)
  have HBM := Lib.hid ho5.byts
  obtain ⟨aM, cM', rfl, -⟩ := byts_val ho5.byts
  obtain ⟨NM, hN⟩ : ∃ x, x = putL m1 := ⟨_, rfl⟩
  rw [← hN] at HBM ⊢
  have HNM := Lib.hid hN
  obtain ⟨nM, hnn⟩ : ∃ x, NM.length = x := ⟨_, rfl⟩
  rw [hnn] at HBM ⊢
  have hn8M : (nM : Int) ≤ 8 := by rw [← hnn, hN]; have := putL_len m1; omega
  have HSUMM : Hid (([UInt8.ofNat (tagN f)] ++ NI ++ NA).length + NM.length = 1 + nI + nA + nM) := by show _ = _; rw [List.length_append, HSUMA.out, hnn]
  have HLNM := Lib.hid hnn
  clear hM5 ho5 hN hnn
  go_wp2_with (first
    | ((with_reducible refine wpList_append_bx ?_ (.tmp 128) (.tmp 133) ?_ (.slice ap6 (1 + nI + nA) cp6) ([UInt8.ofNat (tagN f)] ++ NI ++ NA) w.heap.size (1 + nI + nA + nM) ?_ HQM.out.o (.slice aM nM cM') NM ?_ HBM.out (([UInt8.ofNat (tagN f)] ++ NI ++ NA) ++ NM) rfl HSUMM.out ?_ HQM.out.m.size ?_); (· exact rfl); (· exact rfl); (· exact rfl); (· exact rfl); (· omega); intro ap7 cp7 w10 hA hat; have HP7 := Lib.hid (HQM.out.app hA hat); clear hA hat)
    | fail)
  obtain ⟨H, hH⟩ : ∃ x, x = [UInt8.ofNat (tagN f)] ++ NI ++ NA ++ NM := ⟨_, rfl⟩
  obtain ⟨qH, hqH⟩ : ∃ x, x = 1 + nI + nA + nM := ⟨_, rfl⟩
  have HPH := Lib.hid HP7.out.nilz
  rw [← hH, ← hqH] at HPH
  have HHL : Hid (H.length = qH) := by show _ = _; rw [hH, hqH, List.length_append, HSUMM.out]
  have HRH : Hid (R = H ++ loopL none f.rs) := by show _ = _; rw [HRL.out, hH, HNI.out, HNA.out, HNM.out]; simp
  have hqb : (qH : Int) ≤ 25 := by omega
  rw [← hqH]
  clear hH hqH HP3 HQI HP5 HQA HP6 HQM HP7 HRL hwA hwB
  go_wp2_with fail
  go_loopw [4, 7] (fun s4 s7 wr => ∃ (i q : Nat) (ap : Option Addr) (cp : Nat) (L : List UInt8), s7 = .int .i64 i ∧ s4 = .slice ap q cp ∧ i ≤ nr ∧ (q : Int) ≤ 25 + 16 * (i : Int) ∧ Hid (PtS w wr f (.slice da nd dc) (.slice (some ⟨b, off, none⟩) nr rc) (.slice ap q cp) L (.slice none 0 0) []) ∧ Hid (L.length = q ∧ L = H ++ loopL none (f.rs.take i))) (fun _ s7 _ => nr - (intOf s7).toNat)
  case atStart => exact ⟨0, qH, _, _, _, rfl, rfl, Nat.zero_le _, by omega, HPH, ⟨HHL.out, by simp [loopL]⟩⟩
  case round =>
    clear HPH
    obtain ⟨i, q, ap, cp, L, rfl, rfl, hi, hq, HP, HL⟩ := hrel
    by_cases hin : (i : Int) < nr
    · have hil : i < f.rs.length := by have := HNR.out; omega
      have hs : f.rs[i]? = some f.rs[i] := List.getElem?_eq_getElem hil
      generalize f.rs[i] = y at hs
      have hoy := HOK.out i y hs
      have HTK := Lib.hid (loop_take f.rs none i y hs)
      have HG := Lib.hid (HCS.out i y hs)
      obtain ⟨e1, he1⟩ : ∃ e1 : Nat, e1 = y.2 - y.1 := ⟨_, rfl⟩
      have hyy : (y.1 : Int) ≤ y.2 := by have := hoy.1; omega
      have hyt : (y.2 : Int) ≤ 4611686018427387903 := by have := hoy.2.1; unfold topN at this; omega
      have hee : (e1 : Int) = (y.2 : Int) - y.1 := by omega
      have hwe : IntKind.u64.wrap ((y.2 : Int) - (y.1 : Int)) = (e1 : Int) := by rw [hee]; exact IntWalk.u64_in _ (by omega)
      have HE1 := Lib.hid he1
      have HOY := Lib.hid hoy
      have HS := Lib.hid hs
      obtain ⟨y1, hy1⟩ : ∃ x, (y.1 : Int) = x := ⟨_, rfl⟩
      obtain ⟨y2, hy2⟩ : ∃ x, (y.2 : Int) = x := ⟨_, rfl⟩
      rw [hy1, hy2] at hwe HG
      have HY1 := Lib.hid hy1
      have HY2 := Lib.hid hy2
      clear hs hil hoy he1 hyy hyt hee hy1 hy2
      by_cases hi0 : i = 0
      · subst hi0
        go_wp2_with fail
        (try go_frame)
        refine wp_region_held_drew (S := fun X => Mod (fun _ => False) w X) (by kernel_rfl) HP.out.m.drew (fun hS => ?_)
        refine takeH (i := 0) (v := .slice ap (q) cp) (some 159) rfl rfl (by kernel_rfl) (by kernel_rfl) (by kernel_rfl) (fun _ _ _ h => h) (Or.inl ⟨by rfl, fun X hX => ?_⟩) hS ?_
        · go_simp
        (try go_frame)
        refine takeH (i := 1) (v := .slice (some ⟨b, off, none⟩) nr rc) (some 160) rfl rfl (by kernel_rfl) (by kernel_rfl) (by kernel_rfl) (fun _ _ _ h => h) (Or.inl ⟨by rfl, fun X hX => ?_⟩) hS ?_
        · go_simp
        (try go_frame)
        refine takeH (i := 2) (v := .int .i64 ((0 : Nat) : Int)) (some 161) rfl rfl (by kernel_rfl) (by kernel_rfl) (by kernel_rfl) (fun _ _ _ h => h) (Or.inl ⟨by rfl, fun X hX => ?_⟩) hS ?_
        · go_simp
        (try go_frame)
        refine takeH (i := 3) (v := .pointer (some ⟨b, off, none⟩)) (some 162) rfl rfl (by kernel_rfl) (by kernel_rfl) (by kernel_rfl) (fun _ _ _ h => h) (Or.inl ⟨by rfl, fun X hX => ?_⟩) hS ?_
        · go_simp
        (try go_frame)
        refine takeH (i := 4) (v := .pointer (some ⟨b, off + 1, none⟩)) (some 163) rfl rfl (by kernel_rfl) (by kernel_rfl) (by kernel_rfl) (fun _ _ _ h => h) (Or.inl ⟨by rfl, fun X hX => ?_⟩) hS ?_
        · go_simp
        (try go_frame)
        refine takeH (i := 5) (v := .int .u64 y2) (some 164) rfl rfl (by kernel_rfl) (by kernel_rfl) (by kernel_rfl) (fun _ _ _ h => h) (Or.inl ⟨by rfl, fun X hX => ?_⟩) hS ?_
        · have g := hX.cellAt HG.out.2 (fun h => h); rw [Nat.zero_mul, Nat.add_zero] at g; go_simp
        (try go_frame)
        refine takeH (i := 6) (v := .slice (some ⟨b, off, none⟩) nr rc) (some 165) rfl rfl (by kernel_rfl) (by kernel_rfl) (by kernel_rfl) (fun _ _ _ h => h) (Or.inl ⟨by rfl, fun X hX => ?_⟩) hS ?_
        · go_simp
        (try go_frame)
        refine takeH (i := 7) (v := .int .i64 ((0 : Nat) : Int)) (some 166) rfl rfl (by kernel_rfl) (by kernel_rfl) (by kernel_rfl) (fun _ _ _ h => h) (Or.inl ⟨by rfl, fun X hX => ?_⟩) hS ?_
        · go_simp
        (try go_frame)
        refine takeH (i := 8) (v := .pointer (some ⟨b, off, none⟩)) (some 167) rfl rfl (by kernel_rfl) (by kernel_rfl) (by kernel_rfl) (fun _ _ _ h => h) (Or.inl ⟨by rfl, fun X hX => ?_⟩) hS ?_
        · go_simp
        (try go_frame)
        refine takeH (i := 9) (v := .pointer (some ⟨b, off, none⟩)) (some 168) rfl rfl (by kernel_rfl) (by kernel_rfl) (by kernel_rfl) (fun _ _ _ h => h) (Or.inl ⟨by rfl, fun X hX => ?_⟩) hS ?_
        · go_simp
        (try go_frame)
        refine takeH (i := 10) (v := .int .u64 y1) (some 169) rfl rfl (by kernel_rfl) (by kernel_rfl) (by kernel_rfl) (fun _ _ _ h => h) (Or.inl ⟨by rfl, fun X hX => ?_⟩) hS ?_
        · have g := hX.cellAt HG.out.1 (fun h => h); rw [Nat.zero_mul, Nat.add_zero] at g; go_simp
        (try go_frame)
        refine takeH (i := 11) (v := .int .u64 (e1 : Int)) (some 170) rfl rfl (by kernel_rfl) (by kernel_rfl) (by kernel_rfl) (fun _ _ _ h => h) (Or.inl ⟨by rfl, fun X hX => ?_⟩) hS ?_
        · go_simp
        (try go_frame)
        refine wpAnyH_ready (rs := [12]) (by kernel_rfl) (by simp) ?_
        refine AllReadyH.cons rfl (fun K hK => ?_) AllReadyH.nil
        go_simp
        refine (refput_any e1 _).mono ?_
        rintro e X5 ⟨v5, rfl, ho5, hk5⟩
        obtain ⟨a5, c5', rfl, -⟩ := byts_val ho5.byts
        have HPx := Lib.hid ((HP.out.kept ((Mod.refl (fun _ => False) _).drew)).kept hk5)
        refine hK.out _ _ (hS.trans hk5) (fun hS => ?_)
        clear hK K
        refine wpAnyH_ready (rs := [13]) (by kernel_rfl) (by simp) ?_
        refine AllReadyH.cons (o := ⟨some 172, _, _, _, _, none⟩) rfl (fun K hK => ?_) AllReadyH.nil
        refine step_append_b rfl (.tmp 159) (.tmp 171) rfl (.slice ap (q) cp) (L) w.heap.size (q + (putL e1).length) (by rfl) HPx.out.o (.slice a5 (putL e1).length c5') (putL e1) (by rfl) ho5.byts ((L) ++ putL e1) rfl (by rw [HL.out.1]) (by have := putL_len e1; omega) HPx.out.m.size ?_
        intro ap7 cp7 X7 hA
        (try go_frame)
        have HP7 := Lib.hid (HPx.out.app0 hA)
        refine hK.out _ _ (hA.modF HPx.out.m (Nat.le_refl _)) (fun hS => ?_)
        clear hK K
        refine takeH (i := 14) (v := .slice ap7 (q + (putL e1).length) cp7) (some 4) rfl rfl (by kernel_rfl) (by kernel_rfl) (by kernel_rfl) (fun _ _ _ h => h) (Or.inl ⟨by rfl, fun X hX => ?_⟩) hS ?_
        · go_simp
        (try go_frame)
        refine wpAnyH_done (by kernel_rfl) ?_ _
        have h8 := putL_len e1
        have HLE : Hid (((L) ++ putL e1).length = q + (putL e1).length) := by show _ = _; rw [List.length_append, HL.out.1]
        obtain ⟨ne, hne⟩ : ∃ x, x = (putL e1).length := ⟨_, rfl⟩
        rw [← hne] at h8 HLE HP7 ⊢
        have hne8 : (ne : Int) ≤ 8 := by omega
        clear hA hS hk5 ho5 hne h8
        go_wp2_with fail
        go_roundw
        case rel => exact ⟨1, q + ne, _, _, _, by go_num, rfl, by omega, by omega, HP7, ⟨HLE.out, (by rw [HTK.out, HL.out.2, HE1.out]; simp [stepL, prevOf])⟩⟩
        case measure => simp [intOf]; omega
      · have d3' : decide ((0 : Int) < (i : Int)) = true := decide_eq_true (by omega)
        have d3 : decide (0 < i) = true := decide_eq_true (by omega)
        obtain ⟨j, hj⟩ : ∃ j, i = j + 1 := ⟨i - 1, by omega⟩
        have hjl : j < f.rs.length := by have := HNR.out; omega
        have hp : f.rs[j]? = some f.rs[j] := List.getElem?_eq_getElem hjl
        generalize f.rs[j] = p at hp
        have hop := HOY.out.2.2 p.1 (by rw [hj]; simp [prevOf, hp])
        have hot := (HOK.out j p hp).2.1
        have hoq := (HOK.out j p hp).1
        have HGP := Lib.hid (HCS.out j p hp).1
        have hjn : (j : Int) < nr := by omega
        have hj0 : (0 : Int) ≤ j := by omega
        have hwj : IntKind.i64.wrap ((i : Int) - 1) = (j : Int) := by rw [hj]; exact (IntWalk.i64_in _ (by omega)).trans (by omega)
        obtain ⟨d1, hd1⟩ : ∃ d1 : Nat, d1 = p.1 - y.2 := ⟨_, rfl⟩
        obtain ⟨d2, hd2⟩ : ∃ d2 : Nat, d2 = p.1 - y.2 - 2 := ⟨_, rfl⟩
        have hpt : (p.1 : Int) ≤ 4611686018427387903 := by unfold topN at hot; omega
        have hdd1 : (d1 : Int) = (p.1 : Int) - y.2 := by omega
        have hdd2 : (d2 : Int) = (d1 : Int) - 2 := by omega
        have hwd1 : IntKind.u64.wrap ((p.1 : Int) - (y.2 : Int)) = (d1 : Int) := by rw [hdd1]; exact IntWalk.u64_in _ (by omega)
        have hwd2 : IntKind.u64.wrap ((d1 : Int) - 2) = (d2 : Int) := by rw [hdd2]; exact IntWalk.u64_in _ (by omega)
        obtain ⟨p1, hp1⟩ : ∃ x, (p.1 : Int) = x := ⟨_, rfl⟩
        rw [hp1] at hwd1 HGP
        rw [HY2.out] at hwd1
        have HST : Hid (stepL (prevOf none f.rs i) y = putL d2 ++ putL e1) := by
          show _ = _
          rw [hj, hd2, HE1.out]
          simp [stepL, prevOf, hp]
        clear hj hjl hp hop hot hoq hd1 hd2 hpt hdd1 hdd2 hp1 hi0
        go_wp2_with fail
        (try go_frame)
        refine wp_region_held_drew (S := fun X => Mod (fun _ => False) w X) (by kernel_rfl) HP.out.m.drew (fun hS => ?_)
        refine takeH (i := 0) (v := .slice ap q cp) (some 143) rfl rfl (by kernel_rfl) (by kernel_rfl) (by kernel_rfl) (fun _ _ _ h => h) (Or.inl ⟨by rfl, fun X hX => ?_⟩) hS ?_
        · go_simp
        (try go_frame)
        refine takeH (i := 1) (v := .slice (some ⟨b, off, none⟩) nr rc) (some 144) rfl rfl (by kernel_rfl) (by kernel_rfl) (by kernel_rfl) (fun _ _ _ h => h) (Or.inl ⟨by rfl, fun X hX => ?_⟩) hS ?_
        · go_simp
        (try go_frame)
        refine takeH (i := 2) (v := .int .i64 (i : Int)) (some 145) rfl rfl (by kernel_rfl) (by kernel_rfl) (by kernel_rfl) (fun _ _ _ h => h) (Or.inl ⟨by rfl, fun X hX => ?_⟩) hS ?_
        · go_simp
        (try go_frame)
        refine takeH (i := 3) (v := .int .i64 (j : Int)) (some 146) rfl rfl (by kernel_rfl) (by kernel_rfl) (by kernel_rfl) (fun _ _ _ h => h) (Or.inl ⟨by rfl, fun X hX => ?_⟩) hS ?_
        · go_simp
        (try go_frame)
        refine takeH (i := 4) (v := .pointer (some ⟨b, off + j * 2, none⟩)) (some 147) rfl rfl (by kernel_rfl) (by kernel_rfl) (by kernel_rfl) (fun _ _ _ h => h) (Or.inl ⟨by rfl, fun X hX => ?_⟩) hS ?_
        · go_simp
        (try go_frame)
        refine takeH (i := 5) (v := .pointer (some ⟨b, off + j * 2, none⟩)) (some 148) rfl rfl (by kernel_rfl) (by kernel_rfl) (by kernel_rfl) (fun _ _ _ h => h) (Or.inl ⟨by rfl, fun X hX => ?_⟩) hS ?_
        · go_simp
        (try go_frame)
        refine takeH (i := 6) (v := .int .u64 p1) (some 149) rfl rfl (by kernel_rfl) (by kernel_rfl) (by kernel_rfl) (fun _ _ _ h => h) (Or.inl ⟨by rfl, fun X hX => ?_⟩) hS ?_
        · have g := hX.cellAt HGP.out (fun h => h); go_simp
        (try go_frame)
        refine takeH (i := 7) (v := .slice (some ⟨b, off, none⟩) nr rc) (some 150) rfl rfl (by kernel_rfl) (by kernel_rfl) (by kernel_rfl) (fun _ _ _ h => h) (Or.inl ⟨by rfl, fun X hX => ?_⟩) hS ?_
        · go_simp
        (try go_frame)
        refine takeH (i := 8) (v := .int .i64 (i : Int)) (some 151) rfl rfl (by kernel_rfl) (by kernel_rfl) (by kernel_rfl) (fun _ _ _ h => h) (Or.inl ⟨by rfl, fun X hX => ?_⟩) hS ?_
        · go_simp
        (try go_frame)
        refine takeH (i := 9) (v := .pointer (some ⟨b, off + i * 2, none⟩)) (some 152) rfl rfl (by kernel_rfl) (by kernel_rfl) (by kernel_rfl) (fun _ _ _ h => h) (Or.inl ⟨by rfl, fun X hX => ?_⟩) hS ?_
        · go_simp
        (try go_frame)
        refine takeH (i := 10) (v := .pointer (some ⟨b, off + i * 2 + 1, none⟩)) (some 153) rfl rfl (by kernel_rfl) (by kernel_rfl) (by kernel_rfl) (fun _ _ _ h => h) (Or.inl ⟨by rfl, fun X hX => ?_⟩) hS ?_
        · go_simp
        (try go_frame)
        refine takeH (i := 11) (v := .int .u64 y2) (some 154) rfl rfl (by kernel_rfl) (by kernel_rfl) (by kernel_rfl) (fun _ _ _ h => h) (Or.inl ⟨by rfl, fun X hX => ?_⟩) hS ?_
        · have g := hX.cellAt HG.out.2 (fun h => h); go_simp
        (try go_frame)
        refine takeH (i := 12) (v := .int .u64 (d1 : Int)) (some 155) rfl rfl (by kernel_rfl) (by kernel_rfl) (by kernel_rfl) (fun _ _ _ h => h) (Or.inl ⟨by rfl, fun X hX => ?_⟩) hS ?_
        · go_simp
        (try go_frame)
        refine takeH (i := 13) (v := .int .u64 (d2 : Int)) (some 156) rfl rfl (by kernel_rfl) (by kernel_rfl) (by kernel_rfl) (fun _ _ _ h => h) (Or.inl ⟨by rfl, fun X hX => ?_⟩) hS ?_
        · go_simp
        (try go_frame)
        refine wpAnyH_ready (rs := [14]) (by kernel_rfl) (by simp) ?_
        refine AllReadyH.cons rfl (fun K hK => ?_) AllReadyH.nil
        go_simp
        refine (refput_any d2 _).mono ?_
        rintro e X4 ⟨v4, rfl, ho4, hk4⟩
        obtain ⟨a4, c4', rfl, -⟩ := byts_val ho4.byts
        have HPw := Lib.hid ((HP.out.kept ((Mod.refl (fun _ => False) _).drew)).kept hk4)
        refine hK.out _ _ (hS.trans hk4) (fun hS => ?_)
        clear hK K
        refine wpAnyH_ready (rs := [15]) (by kernel_rfl) (by simp) ?_
        refine AllReadyH.cons (o := ⟨some 158, _, _, _, _, none⟩) rfl (fun K hK => ?_) AllReadyH.nil
        refine step_append_b rfl (.tmp 143) (.tmp 157) rfl (.slice ap q cp) L w.heap.size (q + (putL d2).length) (by rfl) HPw.out.o (.slice a4 (putL d2).length c4') (putL d2) (by rfl) ho4.byts (L ++ putL d2) rfl (by rw [HL.out.1]) (by have := putL_len d2; omega) HPw.out.m.size ?_
        intro ap6 cp6 X6 hA
        (try go_frame)
        have HP6 := Lib.hid (HPw.out.app0 hA)
        refine hK.out _ _ (hA.modF HPw.out.m (Nat.le_refl _)) (fun hS => ?_)
        clear hK K
        refine takeH (i := 16) (v := .slice ap6 (q + (putL d2).length) cp6) (some 4) rfl rfl (by kernel_rfl) (by kernel_rfl) (by kernel_rfl) (fun _ _ _ h => h) (Or.inl ⟨by rfl, fun X hX => ?_⟩) hS ?_
        · go_simp
        (try go_frame)
        refine wpAnyH_done (by kernel_rfl) ?_ _
        have h8d := putL_len d2
        have HLD2 : Hid ((L ++ putL d2).length = q + (putL d2).length) := by show _ = _; rw [List.length_append, HL.out.1]
        obtain ⟨nd2, hnd2'⟩ : ∃ x, x = (putL d2).length := ⟨_, rfl⟩
        rw [← hnd2'] at h8d HLD2 HP6 ⊢
        have hne8d : (nd2 : Int) ≤ 8 := by omega
        clear hA hS hk4 ho4 hnd2' h8d
        go_wp2_with fail
        (try go_frame)
        refine wp_region_held_drew (S := fun X => Mod (fun _ => False) w X) (by kernel_rfl) HP6.out.m.drew (fun hS => ?_)
        refine takeH (i := 0) (v := .slice ap6 (q + nd2) cp6) (some 159) rfl rfl (by kernel_rfl) (by kernel_rfl) (by kernel_rfl) (fun _ _ _ h => h) (Or.inl ⟨by rfl, fun X hX => ?_⟩) hS ?_
        · go_simp
        (try go_frame)
        refine takeH (i := 1) (v := .slice (some ⟨b, off, none⟩) nr rc) (some 160) rfl rfl (by kernel_rfl) (by kernel_rfl) (by kernel_rfl) (fun _ _ _ h => h) (Or.inl ⟨by rfl, fun X hX => ?_⟩) hS ?_
        · go_simp
        (try go_frame)
        refine takeH (i := 2) (v := .int .i64 (i : Int)) (some 161) rfl rfl (by kernel_rfl) (by kernel_rfl) (by kernel_rfl) (fun _ _ _ h => h) (Or.inl ⟨by rfl, fun X hX => ?_⟩) hS ?_
        · go_simp
        (try go_frame)
        refine takeH (i := 3) (v := .pointer (some ⟨b, off + i * 2, none⟩)) (some 162) rfl rfl (by kernel_rfl) (by kernel_rfl) (by kernel_rfl) (fun _ _ _ h => h) (Or.inl ⟨by rfl, fun X hX => ?_⟩) hS ?_
        · go_simp
        (try go_frame)
        refine takeH (i := 4) (v := .pointer (some ⟨b, off + i * 2 + 1, none⟩)) (some 163) rfl rfl (by kernel_rfl) (by kernel_rfl) (by kernel_rfl) (fun _ _ _ h => h) (Or.inl ⟨by rfl, fun X hX => ?_⟩) hS ?_
        · go_simp
        (try go_frame)
        refine takeH (i := 5) (v := .int .u64 y2) (some 164) rfl rfl (by kernel_rfl) (by kernel_rfl) (by kernel_rfl) (fun _ _ _ h => h) (Or.inl ⟨by rfl, fun X hX => ?_⟩) hS ?_
        · have g := hX.cellAt HG.out.2 (fun h => h); go_simp
        (try go_frame)
        refine takeH (i := 6) (v := .slice (some ⟨b, off, none⟩) nr rc) (some 165) rfl rfl (by kernel_rfl) (by kernel_rfl) (by kernel_rfl) (fun _ _ _ h => h) (Or.inl ⟨by rfl, fun X hX => ?_⟩) hS ?_
        · go_simp
        (try go_frame)
        refine takeH (i := 7) (v := .int .i64 (i : Int)) (some 166) rfl rfl (by kernel_rfl) (by kernel_rfl) (by kernel_rfl) (fun _ _ _ h => h) (Or.inl ⟨by rfl, fun X hX => ?_⟩) hS ?_
        · go_simp
        (try go_frame)
        refine takeH (i := 8) (v := .pointer (some ⟨b, off + i * 2, none⟩)) (some 167) rfl rfl (by kernel_rfl) (by kernel_rfl) (by kernel_rfl) (fun _ _ _ h => h) (Or.inl ⟨by rfl, fun X hX => ?_⟩) hS ?_
        · go_simp
        (try go_frame)
        refine takeH (i := 9) (v := .pointer (some ⟨b, off + i * 2, none⟩)) (some 168) rfl rfl (by kernel_rfl) (by kernel_rfl) (by kernel_rfl) (fun _ _ _ h => h) (Or.inl ⟨by rfl, fun X hX => ?_⟩) hS ?_
        · go_simp
        (try go_frame)
        refine takeH (i := 10) (v := .int .u64 y1) (some 169) rfl rfl (by kernel_rfl) (by kernel_rfl) (by kernel_rfl) (fun _ _ _ h => h) (Or.inl ⟨by rfl, fun X hX => ?_⟩) hS ?_
        · have g := hX.cellAt HG.out.1 (fun h => h); go_simp
        (try go_frame)
        refine takeH (i := 11) (v := .int .u64 (e1 : Int)) (some 170) rfl rfl (by kernel_rfl) (by kernel_rfl) (by kernel_rfl) (fun _ _ _ h => h) (Or.inl ⟨by rfl, fun X hX => ?_⟩) hS ?_
        · go_simp
        (try go_frame)
        refine wpAnyH_ready (rs := [12]) (by kernel_rfl) (by simp) ?_
        refine AllReadyH.cons rfl (fun K hK => ?_) AllReadyH.nil
        go_simp
        refine (refput_any e1 _).mono ?_
        rintro e X5 ⟨v5, rfl, ho5, hk5⟩
        obtain ⟨a5, c5', rfl, -⟩ := byts_val ho5.byts
        have HPx := Lib.hid ((HP6.out.kept ((Mod.refl (fun _ => False) _).drew)).kept hk5)
        refine hK.out _ _ (hS.trans hk5) (fun hS => ?_)
        clear hK K
        refine wpAnyH_ready (rs := [13]) (by kernel_rfl) (by simp) ?_
        refine AllReadyH.cons (o := ⟨some 172, _, _, _, _, none⟩) rfl (fun K hK => ?_) AllReadyH.nil
        refine step_append_b rfl (.tmp 159) (.tmp 171) rfl (.slice ap6 (q + nd2) cp6) (L ++ putL d2) w.heap.size (q + nd2 + (putL e1).length) (by rfl) HPx.out.o (.slice a5 (putL e1).length c5') (putL e1) (by rfl) ho5.byts ((L ++ putL d2) ++ putL e1) rfl (by rw [HLD2.out]) (by have := putL_len e1; omega) HPx.out.m.size ?_
        intro ap7 cp7 X7 hA
        (try go_frame)
        have HP7 := Lib.hid (HPx.out.app0 hA)
        refine hK.out _ _ (hA.modF HPx.out.m (Nat.le_refl _)) (fun hS => ?_)
        clear hK K
        refine takeH (i := 14) (v := .slice ap7 (q + nd2 + (putL e1).length) cp7) (some 4) rfl rfl (by kernel_rfl) (by kernel_rfl) (by kernel_rfl) (fun _ _ _ h => h) (Or.inl ⟨by rfl, fun X hX => ?_⟩) hS ?_
        · go_simp
        (try go_frame)
        refine wpAnyH_done (by kernel_rfl) ?_ _
        have h8 := putL_len e1
        have HLE : Hid (((L ++ putL d2) ++ putL e1).length = q + nd2 + (putL e1).length) := by show _ = _; rw [List.length_append, HLD2.out]
        obtain ⟨ne, hne⟩ : ∃ x, x = (putL e1).length := ⟨_, rfl⟩
        rw [← hne] at h8 HLE HP7 ⊢
        have hne8 : (ne : Int) ≤ 8 := by omega
        clear hA hS hk5 ho5 hne h8
        go_wp2_with fail
        go_roundw
        case rel => exact ⟨i + 1, q + nd2 + ne, _, _, _, by go_num, rfl, by omega, by omega, HP7, ⟨HLE.out, (by rw [HTK.out, HL.out.2, HST.out]; simp)⟩⟩
        case measure => simp [intOf]; omega
    · have hin' : i = nr := by omega
      have HRE : Hid (R = L) := by
        show _ = _
        rw [HRH.out, HL.out.2, List.take_of_length_le (by have := HNR.out; omega)]
      go_wp2_with fail
      go_ret
      rw [HRE.out]
      exact ⟨_, rfl, HP.out.o, HP.out.m⟩
theorem refputf_any {w : World} {f : Fr} {vd vr : Value} (hv : FrV w f vd vr) (hrl : (f.rs.length : Int) ≤ 100000) (hro : RngOk f) :
    Calls Tryd.prog 16 #[frV f vd vr] w fun e w' => ∃ v, e = .returned v ∧ OwnB w' w.heap.size v (fputL f) ∧ Mod (fun _ => False) w w' := by
  cases hr : rightF f with
  | false => exact refput_no hv hrl hro hr
  | true =>
    by_cases h0 : f.k = 0
    · exact refput_k0 hv hrl hro hr h0
    · by_cases h2 : f.k = 2
      · exact refput_k2 hv hrl hro hr h2
      · by_cases h24 : f.k = 24
        · exact refput_k24 hv hrl hro hr h24
        · by_cases h8 : f.k = 8
          · cases hfl : f.fl with
            | false =>
              by_cases ha : f.a = 0
              · exact refput_e00 hv hrl hro hr h8 hfl ha
              · exact refput_e01 hv hrl hro hr h8 hfl ha
            | true =>
              by_cases ha : f.a = 0
              · exact refput_e10 hv hrl hro hr h8 hfl ha
              · exact refput_e11 hv hrl hro hr h8 hfl ha
          · cases hfl : f.fl with
            | false => exact refput_d0 hv hrl hro hr rfl h0 h2 h24 h8 hfl
            | true => exact refput_d1 hv hrl hro hr rfl h0 h2 h24 h8 hfl
theorem refputf_c {w : World} {f : Fr} {vd vr : Value} {C : Array Value} {L : List UInt8} {n : Nat} (hC : C = frC f vd vr) (hv : FrV w f vd vr) (hrl : (f.rs.length : Int) ≤ 100000) (hro : RngOk f) (hL : fputL f = L) (hn : L.length = n) :
    Calls Tryd.prog 16 #[.agg C] w fun e w' => ∃ a c, e = .returned (.slice a n c) ∧ OwnB w' w.heap.size (.slice a n c) L ∧ Mod (fun _ => False) w w' := by
  subst hC hL hn
  refine (show Calls Tryd.prog 16 #[frV f vd vr] w _ from refputf_any hv hrl hro).mono ?_
  rintro e w' ⟨v, rfl, ho, hM⟩
  obtain ⟨a, c, rfl, _⟩ := byts_val ho.byts
  exact ⟨a, c, rfl, ho, hM⟩
end Go.Proofs.YteegonadodmeeaaDoor

namespace Go.Proofs.YteegonadodmeeaaDoor
open Go.RowKit

set_option maxHeartbeats 16000000 in
set_option maxRecDepth 10000 in
theorem put_law {w : World} {f g : Fr} {vd vr ud ur : Value} (hT : Tabs w) (hf : FrIn w f vd vr) (hg : FrIn w g ud ur) :
    Calls Tryd.prog 3 #[frV f vd vr, frV g ud ur] w fun e w' => e = .returned (.bool true) ∧ Below w.heap.size w w' := by
  have HM0 := Lib.hid (One.made2 w hf hg)
  have HCF0 := hf
  obtain ⟨CF, hCF⟩ : ∃ C, C = frC f vd vr := ⟨_, rfl⟩
  obtain ⟨CG, hCG⟩ : ∃ C, C = frC g ud ur := ⟨_, rfl⟩
  have HCF := Lib.hid hCF
  have HCG := Lib.hid hCG
  have HT := Lib.hid hT
  unfold frV
  rw [← hCF, ← hCG] at HM0 ⊢
  clear hT hf hg HCF0 hCF hCG
  go_enter Tryd.func3, Tryd.ntmps3
  have HA0 := Lib.hid HM0.out.1
  have HB0 := Lib.hid HM0.out.2
  clear HM0
  go_wp2_with fail
  refine (alive_any _ (HA0.out.m.tabs HT.out (fun h => h))).mono ?_
  rintro e w1 ⟨rfl, hM1⟩
  have HA1 := Lib.hid (HA0.out.kept hM1)
  have HB1 := Lib.hid (HB0.out.kept hM1)
  clear hM1 HA0 HB0
  generalize w.heap.size = pa at *
  go_wp2_with (first | ((with_reducible refine wpList_load_v 27 (.tmp 2) ?_ ?_ (.pointer (some ⟨pa, 0, none⟩)) (.agg CF) ?_ (HA1.out.load HCF.out) ?_); (· exact rfl); (· exact rfl); (· exact rfl)) | fail)
  refine (great_c HCF.out HA1.out.fi).mono ?_
  rintro e w2 ⟨rfl, hM2⟩
  have HA2 := Lib.hid (HA1.out.kept hM2)
  have HB2 := Lib.hid (HB1.out.kept hM2)
  clear hM2 HA1 HB1
  generalize hgf : greatB f = gf at *
  have HGF := Lib.hid hgf
  clear hgf
  cases gf
  case true =>
    go_wp2_with fail
    go_ret
    exact ⟨rfl, HA2.out.m.none_below⟩
  have HSF := Lib.hid (great_no HGF.out)
  clear HGF
  go_wp2_with (first | ((with_reducible refine wpList_load_v 27 (.tmp 3) ?_ ?_ (.pointer (some ⟨pa + 1, 0, none⟩)) (.agg CG) ?_ (HB2.out.load HCG.out) ?_); (· exact rfl); (· exact rfl); (· exact rfl)) | fail)
  refine (great_c HCG.out HB2.out.fi).mono ?_
  rintro e w3 ⟨rfl, hM3⟩
  have HA3 := Lib.hid (HA2.out.kept hM3)
  have HB3 := Lib.hid (HB2.out.kept hM3)
  clear hM3 HA2 HB2
  generalize hgg : greatB g = gg at *
  have HGG := Lib.hid hgg
  clear hgg
  cases gg
  case true =>
    go_wp2_with fail
    go_ret
    exact ⟨rfl, HA3.out.m.none_below⟩
  have HSG := Lib.hid (great_no HGG.out)
  clear HGG
  obtain ⟨L1, hL1⟩ : ∃ x, fputL f = x := ⟨_, rfl⟩
  obtain ⟨n1, hn1⟩ : ∃ x, L1.length = x := ⟨_, rfl⟩
  have HL1 := Lib.hid hL1
  have HN1 := Lib.hid hn1
  obtain ⟨rf, hrf⟩ : ∃ x, rightF f = x := ⟨_, rfl⟩
  have HRF := Lib.hid hrf
  obtain ⟨q, hq⟩ : ∃ q, sameF f g = q := ⟨_, rfl⟩
  have HQ := Lib.hid hq
  obtain ⟨el, hel⟩ : ∃ q, elicB f = q := ⟨_, rfl⟩
  have HEL : Hid (el = !(decide (f.k = 0) || decide (f.k = 2) || decide (f.k = 28))) := by show _ = _; rw [← hel]; rfl
  have HEE := Lib.hid hel
  obtain ⟨k, hk⟩ : ∃ k, f.k = k := ⟨_, rfl⟩
  have HK := Lib.hid hk
  clear hL1 hn1 hrf hq hel hk
  go_wp2_with fail
  (try go_frame)
  refine wp_region_held_drew (S := fun X => Mod (fun _ => False) w3 X) (by kernel_rfl) (Mod.refl _ _).drew (fun hS => ?_)
  refine takeH (i := 0) (v := .agg CF) (some 13) rfl rfl (by kernel_rfl) (by kernel_rfl) (by kernel_rfl) (fun _ _ _ h => h) (Or.inl ⟨by rfl, fun X hX => ?_⟩) hS ?_
  · exact exec_load' rfl (p := .pointer (some ⟨pa, 0, none⟩)) (by rfl) ((HA3.out.kept hX).load HCF.out)
  (try go_frame)
  refine takeH (i := 2) (v := .agg CF) (some 15) rfl rfl (by kernel_rfl) (by kernel_rfl) (by kernel_rfl) (fun _ _ _ h => h) (Or.inl ⟨by rfl, fun X hX => ?_⟩) hS ?_
  · exact exec_load' rfl (p := .pointer (some ⟨pa, 0, none⟩)) (by rfl) ((HA3.out.kept hX).load HCF.out)
  (try go_frame)
  refine wpAnyH_ready (rs := [1]) (by kernel_rfl) (by simp) ?_
  refine AllReadyH.cons rfl (fun K hK => ?_) AllReadyH.nil
  go_simp
  refine (right_c HCF.out ((HA3.out.kept hS).fi.frv HSF.out.1 HSF.out.2) (by have := HSF.out.2; omega) (HA3.out.kept hS).fi.k (HA3.out.kept hS).fi.g).mono ?_
  rintro e X1 ⟨rfl, hkX1⟩
  rw [HRF.out]
  refine hK.out _ _ (hS.trans hkX1) (fun hS => ?_)
  clear hK K
  refine wpAnyH_ready (rs := [3]) (by kernel_rfl) (by simp) ?_
  refine AllReadyH.cons rfl (fun K hK => ?_) AllReadyH.nil
  go_simp
  refine (refright_c HCF.out ((HA3.out.kept hS).fi.frv HSF.out.1 HSF.out.2) (by have := HSF.out.2; omega) (HA3.out.kept hS).fi.g).mono ?_
  rintro e X2 ⟨rfl, hkX2⟩
  rw [HRF.out]
  refine hK.out _ _ (hS.trans hkX2) (fun hS => ?_)
  clear hK K
  refine takeH (i := 4) (v := .bool true) (some 17) rfl rfl (by kernel_rfl) (by kernel_rfl) (by kernel_rfl) (fun _ _ _ h => h) (Or.inl ⟨by rfl, fun X hX => ?_⟩) hS ?_
  · go_simp
  (try go_frame)
  refine takeH (i := 5) (v := .bool true) (some 18) rfl rfl (by kernel_rfl) (by kernel_rfl) (by kernel_rfl) (fun _ _ _ h => h) (Or.inl ⟨by rfl, fun X hX => ?_⟩) hS ?_
  · go_simp
  (try go_frame)
  refine takeH (i := 6) (v := .agg CF) (some 19) rfl rfl (by kernel_rfl) (by kernel_rfl) (by kernel_rfl) (fun _ _ _ h => h) (Or.inl ⟨by rfl, fun X hX => ?_⟩) hS ?_
  · exact exec_load' rfl (p := .pointer (some ⟨pa, 0, none⟩)) (by rfl) ((HA3.out.kept hX).load HCF.out)
  (try go_frame)
  refine takeH (i := 8) (v := .agg CF) (some 21) rfl rfl (by kernel_rfl) (by kernel_rfl) (by kernel_rfl) (fun _ _ _ h => h) (Or.inl ⟨by rfl, fun X hX => ?_⟩) hS ?_
  · exact exec_load' rfl (p := .pointer (some ⟨pa, 0, none⟩)) (by rfl) ((HA3.out.kept hX).load HCF.out)
  (try go_frame)
  refine wpAnyH_ready (rs := [7]) (by kernel_rfl) (by simp) ?_
  refine AllReadyH.cons rfl (fun K hK => ?_) AllReadyH.nil
  go_simp
  refine (fput_c HCF.out ((HA3.out.kept hS).m.tabs HT.out (fun h => h)) ((HA3.out.kept hS).fi.frv HSF.out.1 HSF.out.2) (by have := HSF.out.2; omega) (HA3.out.kept hS).fi.k (HA3.out.kept hS).fi.g HL1.out HN1.out).mono ?_
  rintro e X3 ⟨a1, c1, rfl, ho1, hk3⟩
  have hb1 := ho1.byts
  refine hK.out _ _ (hS.trans hk3) (fun hS => ?_)
  clear hK K
  refine wpAnyH_ready (rs := [9]) (by kernel_rfl) (by simp) ?_
  refine AllReadyH.cons rfl (fun K hK => ?_) AllReadyH.nil
  go_simp
  refine (refputf_c HCF.out ((HA3.out.kept hS).fi.frv HSF.out.1 HSF.out.2) (by have := HSF.out.2; omega) (HA3.out.kept hS).fi.g HL1.out HN1.out).mono ?_
  rintro e X4 ⟨a2, c2, rfl, ho2, hk4⟩
  have hb2 := byts_kept hb1 hk4
  refine hK.out _ _ (hS.trans hk4) (fun hS => ?_)
  clear hK K
  refine wpAnyH_ready (rs := [10]) (by kernel_rfl) (by simp) ?_
  refine AllReadyH.cons rfl (fun K hK => ?_) AllReadyH.nil
  go_simp
  refine (same_c hb2 ho2.byts).mono ?_
  rintro e X5 ⟨rfl, hkX5⟩
  rw [show decide (L1 = L1) = true from decide_eq_true rfl]
  refine hK.out _ _ (hS.trans hkX5) (fun hS => ?_)
  clear hK K
  refine takeH (i := 11) (v := .bool true) (some 24) rfl rfl (by kernel_rfl) (by kernel_rfl) (by kernel_rfl) (fun _ _ _ h => h) (Or.inl ⟨by rfl, fun X hX => ?_⟩) hS ?_
  · go_simp
  (try go_frame)
  refine takeH (i := 12) (v := .bool true) (some 25) rfl rfl (by kernel_rfl) (by kernel_rfl) (by kernel_rfl) (fun _ _ _ h => h) (Or.inl ⟨by rfl, fun X hX => ?_⟩) hS ?_
  · go_simp
  (try go_frame)
  refine takeH (i := 13) (v := .agg CF) (some 26) rfl rfl (by kernel_rfl) (by kernel_rfl) (by kernel_rfl) (fun _ _ _ h => h) (Or.inl ⟨by rfl, fun X hX => ?_⟩) hS ?_
  · exact exec_load' rfl (p := .pointer (some ⟨pa, 0, none⟩)) (by rfl) ((HA3.out.kept hX).load HCF.out)
  (try go_frame)
  refine takeH (i := 14) (v := .agg CG) (some 27) rfl rfl (by kernel_rfl) (by kernel_rfl) (by kernel_rfl) (fun _ _ _ h => h) (Or.inl ⟨by rfl, fun X hX => ?_⟩) hS ?_
  · exact exec_load' rfl (p := .pointer (some ⟨pa + 1, 0, none⟩)) (by rfl) ((HB3.out.kept hX).load HCG.out)
  (try go_frame)
  refine takeH (i := 16) (v := .agg CF) (some 29) rfl rfl (by kernel_rfl) (by kernel_rfl) (by kernel_rfl) (fun _ _ _ h => h) (Or.inl ⟨by rfl, fun X hX => ?_⟩) hS ?_
  · exact exec_load' rfl (p := .pointer (some ⟨pa, 0, none⟩)) (by rfl) ((HA3.out.kept hX).load HCF.out)
  (try go_frame)
  refine takeH (i := 17) (v := .agg CG) (some 30) rfl rfl (by kernel_rfl) (by kernel_rfl) (by kernel_rfl) (fun _ _ _ h => h) (Or.inl ⟨by rfl, fun X hX => ?_⟩) hS ?_
  · exact exec_load' rfl (p := .pointer (some ⟨pa + 1, 0, none⟩)) (by rfl) ((HB3.out.kept hX).load HCG.out)
  (try go_frame)
  refine wpAnyH_ready (rs := [15]) (by kernel_rfl) (by simp) ?_
  refine AllReadyH.cons rfl (fun K hK => ?_) AllReadyH.nil
  go_simp
  refine (fsame_c HCF.out HCG.out ((HA3.out.kept hS).fi.frv HSF.out.1 HSF.out.2) ((HB3.out.kept hS).fi.frv HSG.out.1 HSG.out.2) (by have := HSF.out.2; omega) (by have := HSG.out.2; omega)).mono ?_
  rintro e X6 ⟨rfl, hkX6⟩
  rw [HQ.out]
  refine hK.out _ _ (hS.trans hkX6) (fun hS => ?_)
  clear hK K
  refine wpAnyH_ready (rs := [18]) (by kernel_rfl) (by simp) ?_
  refine AllReadyH.cons rfl (fun K hK => ?_) AllReadyH.nil
  go_simp
  refine (refsame_c HCF.out HCG.out ((HA3.out.kept hS).fi.frv HSF.out.1 HSF.out.2) ((HB3.out.kept hS).fi.frv HSG.out.1 HSG.out.2) (by have := HSF.out.2; omega) (by have := HSG.out.2; omega)).mono ?_
  rintro e X7 ⟨rfl, hkX7⟩
  rw [HQ.out]
  refine hK.out _ _ (hS.trans hkX7) (fun hS => ?_)
  clear hK K
  refine takeH (i := 19) (v := .bool true) (some 32) rfl rfl (by kernel_rfl) (by kernel_rfl) (by kernel_rfl) (fun _ _ _ h => h) (Or.inl ⟨by rfl, fun X hX => ?_⟩) hS ?_
  · go_simp
  (try go_frame)
  refine takeH (i := 20) (v := .bool true) (some 33) rfl rfl (by kernel_rfl) (by kernel_rfl) (by kernel_rfl) (fun _ _ _ h => h) (Or.inl ⟨by rfl, fun X hX => ?_⟩) hS ?_
  · go_simp
  (try go_frame)
  refine takeH (i := 21) (v := .bool true) (some 34) rfl rfl (by kernel_rfl) (by kernel_rfl) (by kernel_rfl) (fun _ _ _ h => h) (Or.inl ⟨by rfl, fun X hX => ?_⟩) hS ?_
  · go_simp
  (try go_frame)
  refine takeH (i := 22) (v := .agg CF) (some 35) rfl rfl (by kernel_rfl) (by kernel_rfl) (by kernel_rfl) (fun _ _ _ h => h) (Or.inl ⟨by rfl, fun X hX => ?_⟩) hS ?_
  · exact exec_load' rfl (p := .pointer (some ⟨pa, 0, none⟩)) (by rfl) ((HA3.out.kept hX).load HCF.out)
  (try go_frame)
  refine takeH (i := 24) (v := .pointer (some ⟨pa, 0, none⟩)) (some 37) rfl rfl (by kernel_rfl) (by kernel_rfl) (by kernel_rfl) (fun _ _ _ h => h) (Or.inl ⟨by rfl, fun X hX => ?_⟩) hS ?_
  · go_simp
  (try go_frame)
  refine takeH (i := 25) (v := .int .i64 k) (some 38) rfl rfl (by kernel_rfl) (by kernel_rfl) (by kernel_rfl) (fun _ _ _ h => h) (Or.inl ⟨by rfl, fun X hX => ?_⟩) hS ?_
  · have c := (HA3.out.kept hX).a.cells.1; rw [HK.out] at c; go_simp
  (try go_frame)
  by_cases h0 : k = 0
  · subst h0
    have he : el = false := by rw [HEL.out, HK.out]; rfl
    subst he
    refine takeH (i := 26) (v := .bool false) (some 39) rfl rfl (by kernel_rfl) (by kernel_rfl) (by kernel_rfl) (fun _ _ _ h => h) (Or.inl ⟨by rfl, fun X hX => ?_⟩) hS ?_
    · go_simp
    (try go_frame)
    refine wpAnyH_ready (rs := [23]) (by kernel_rfl) (by simp) ?_
    refine AllReadyH.cons rfl (fun K hK => ?_) AllReadyH.nil
    go_simp
    refine (elic_c HCF.out).mono ?_
    rintro e X8 ⟨rfl, hkX8⟩
    rw [HEE.out]
    refine hK.out _ _ (hS.trans hkX8) (fun hS => ?_)
    clear hK K
    refine takeH (i := 27) (v := .bool false) (some 40) rfl rfl (by kernel_rfl) (by kernel_rfl) (by kernel_rfl) (fun _ _ _ h => h) (Or.inl ⟨by rfl, fun X hX => ?_⟩) hS ?_
    · go_simp
    (try go_frame)
    refine takeH (i := 28) (v := undef) (some 41) rfl rfl (by kernel_rfl) (by kernel_rfl) (by kernel_rfl) (fun _ _ _ h => h) (Or.inr ⟨by rfl, rfl⟩) hS ?_
    (try go_frame)
    refine takeH (i := 29) (v := undef) (some 42) rfl rfl (by kernel_rfl) (by kernel_rfl) (by kernel_rfl) (fun _ _ _ h => h) (Or.inr ⟨by rfl, rfl⟩) hS ?_
    (try go_frame)
    refine takeH (i := 30) (v := undef) (some 43) rfl rfl (by kernel_rfl) (by kernel_rfl) (by kernel_rfl) (fun _ _ _ h => h) (Or.inr ⟨by rfl, rfl⟩) hS ?_
    (try go_frame)
    refine takeH (i := 31) (v := .bool false) (some 44) rfl rfl (by kernel_rfl) (by kernel_rfl) (by kernel_rfl) (fun _ _ _ h => h) (Or.inl ⟨by rfl, fun X hX => ?_⟩) hS ?_
    · go_simp
    (try go_frame)
    refine takeH (i := 32) (v := .bool false) (some 45) rfl rfl (by kernel_rfl) (by kernel_rfl) (by kernel_rfl) (fun _ _ _ h => h) (Or.inl ⟨by rfl, fun X hX => ?_⟩) hS ?_
    · go_simp
    (try go_frame)
    refine takeH (i := 33) (v := undef) (some 46) rfl rfl (by kernel_rfl) (by kernel_rfl) (by kernel_rfl) (fun _ _ _ h => h) (Or.inr ⟨by rfl, rfl⟩) hS ?_
    (try go_frame)
    refine takeH (i := 34) (v := undef) (some 47) rfl rfl (by kernel_rfl) (by kernel_rfl) (by kernel_rfl) (fun _ _ _ h => h) (Or.inr ⟨by rfl, rfl⟩) hS ?_
    (try go_frame)
    refine takeH (i := 35) (v := undef) (some 48) rfl rfl (by kernel_rfl) (by kernel_rfl) (by kernel_rfl) (fun _ _ _ h => h) (Or.inr ⟨by rfl, rfl⟩) hS ?_
    (try go_frame)
    refine takeH (i := 36) (v := .bool false) (some 49) rfl rfl (by kernel_rfl) (by kernel_rfl) (by kernel_rfl) (fun _ _ _ h => h) (Or.inl ⟨by rfl, fun X hX => ?_⟩) hS ?_
    · go_simp
    (try go_frame)
    refine takeH (i := 37) (v := .bool true) (some 50) rfl rfl (by kernel_rfl) (by kernel_rfl) (by kernel_rfl) (fun _ _ _ h => h) (Or.inl ⟨by rfl, fun X hX => ?_⟩) hS ?_
    · go_simp
    (try go_frame)
    refine takeH (i := 38) (v := .bool true) (some 51) rfl rfl (by kernel_rfl) (by kernel_rfl) (by kernel_rfl) (fun _ _ _ h => h) (Or.inl ⟨by rfl, fun X hX => ?_⟩) hS ?_
    · go_simp
    (try go_frame)
    refine takeH (i := 39) (v := .bool true) (some 4) rfl rfl (by kernel_rfl) (by kernel_rfl) (by kernel_rfl) (fun _ _ _ h => h) (Or.inl ⟨by rfl, fun X hX => ?_⟩) hS ?_
    · go_simp
    (try go_frame)
    refine wpAnyH_done (by kernel_rfl) ?_ _
    have HM := Lib.hid (HA3.out.kept hS).m
    clear hS
    go_wp2_with fail
    go_ret
    exact ⟨rfl, HM.out.none_below⟩
  have b0 : (k != 0) = true := by simpa using h0
  by_cases h2 : k = 2
  · subst h2
    have he : el = false := by rw [HEL.out, HK.out]; rfl
    subst he
    refine takeH (i := 26) (v := .bool true) (some 39) rfl rfl (by kernel_rfl) (by kernel_rfl) (by kernel_rfl) (fun _ _ _ h => h) (Or.inl ⟨by rfl, fun X hX => ?_⟩) hS ?_
    · go_simp
    (try go_frame)
    refine wpAnyH_ready (rs := [23]) (by kernel_rfl) (by simp) ?_
    refine AllReadyH.cons rfl (fun K hK => ?_) AllReadyH.nil
    go_simp
    refine (elic_c HCF.out).mono ?_
    rintro e X8 ⟨rfl, hkX8⟩
    rw [HEE.out]
    refine hK.out _ _ (hS.trans hkX8) (fun hS => ?_)
    clear hK K
    refine takeH (i := 27) (v := .bool true) (some 40) rfl rfl (by kernel_rfl) (by kernel_rfl) (by kernel_rfl) (fun _ _ _ h => h) (Or.inl ⟨by rfl, fun X hX => ?_⟩) hS ?_
    · go_simp
    (try go_frame)
    refine takeH (i := 28) (v := .pointer (some ⟨pa, 0, none⟩)) (some 41) rfl rfl (by kernel_rfl) (by kernel_rfl) (by kernel_rfl) (fun _ _ _ h => h) (Or.inl ⟨by rfl, fun X hX => ?_⟩) hS ?_
    · go_simp
    (try go_frame)
    refine takeH (i := 29) (v := .int .i64 2) (some 42) rfl rfl (by kernel_rfl) (by kernel_rfl) (by kernel_rfl) (fun _ _ _ h => h) (Or.inl ⟨by rfl, fun X hX => ?_⟩) hS ?_
    · have c := (HA3.out.kept hX).a.cells.1; rw [HK.out] at c; go_simp
    (try go_frame)
    refine takeH (i := 30) (v := .bool false) (some 43) rfl rfl (by kernel_rfl) (by kernel_rfl) (by kernel_rfl) (fun _ _ _ h => h) (Or.inl ⟨by rfl, fun X hX => ?_⟩) hS ?_
    · go_simp
    (try go_frame)
    refine takeH (i := 31) (v := .bool false) (some 44) rfl rfl (by kernel_rfl) (by kernel_rfl) (by kernel_rfl) (fun _ _ _ h => h) (Or.inl ⟨by rfl, fun X hX => ?_⟩) hS ?_
    · go_simp
    (try go_frame)
    refine takeH (i := 32) (v := .bool false) (some 45) rfl rfl (by kernel_rfl) (by kernel_rfl) (by kernel_rfl) (fun _ _ _ h => h) (Or.inl ⟨by rfl, fun X hX => ?_⟩) hS ?_
    · go_simp
    (try go_frame)
    refine takeH (i := 33) (v := undef) (some 46) rfl rfl (by kernel_rfl) (by kernel_rfl) (by kernel_rfl) (fun _ _ _ h => h) (Or.inr ⟨by rfl, rfl⟩) hS ?_
    (try go_frame)
    refine takeH (i := 34) (v := undef) (some 47) rfl rfl (by kernel_rfl) (by kernel_rfl) (by kernel_rfl) (fun _ _ _ h => h) (Or.inr ⟨by rfl, rfl⟩) hS ?_
    (try go_frame)
    refine takeH (i := 35) (v := undef) (some 48) rfl rfl (by kernel_rfl) (by kernel_rfl) (by kernel_rfl) (fun _ _ _ h => h) (Or.inr ⟨by rfl, rfl⟩) hS ?_
    (try go_frame)
    refine takeH (i := 36) (v := .bool false) (some 49) rfl rfl (by kernel_rfl) (by kernel_rfl) (by kernel_rfl) (fun _ _ _ h => h) (Or.inl ⟨by rfl, fun X hX => ?_⟩) hS ?_
    · go_simp
    (try go_frame)
    refine takeH (i := 37) (v := .bool true) (some 50) rfl rfl (by kernel_rfl) (by kernel_rfl) (by kernel_rfl) (fun _ _ _ h => h) (Or.inl ⟨by rfl, fun X hX => ?_⟩) hS ?_
    · go_simp
    (try go_frame)
    refine takeH (i := 38) (v := .bool true) (some 51) rfl rfl (by kernel_rfl) (by kernel_rfl) (by kernel_rfl) (fun _ _ _ h => h) (Or.inl ⟨by rfl, fun X hX => ?_⟩) hS ?_
    · go_simp
    (try go_frame)
    refine takeH (i := 39) (v := .bool true) (some 4) rfl rfl (by kernel_rfl) (by kernel_rfl) (by kernel_rfl) (fun _ _ _ h => h) (Or.inl ⟨by rfl, fun X hX => ?_⟩) hS ?_
    · go_simp
    (try go_frame)
    refine wpAnyH_done (by kernel_rfl) ?_ _
    have HM := Lib.hid (HA3.out.kept hS).m
    clear hS
    go_wp2_with fail
    go_ret
    exact ⟨rfl, HM.out.none_below⟩
  have b2 : (k != 2) = true := by simpa using h2
  by_cases h28 : k = 28
  · subst h28
    have he : el = false := by rw [HEL.out, HK.out]; rfl
    subst he
    refine takeH (i := 26) (v := .bool true) (some 39) rfl rfl (by kernel_rfl) (by kernel_rfl) (by kernel_rfl) (fun _ _ _ h => h) (Or.inl ⟨by rfl, fun X hX => ?_⟩) hS ?_
    · go_simp
    (try go_frame)
    refine wpAnyH_ready (rs := [23]) (by kernel_rfl) (by simp) ?_
    refine AllReadyH.cons rfl (fun K hK => ?_) AllReadyH.nil
    go_simp
    refine (elic_c HCF.out).mono ?_
    rintro e X8 ⟨rfl, hkX8⟩
    rw [HEE.out]
    refine hK.out _ _ (hS.trans hkX8) (fun hS => ?_)
    clear hK K
    refine takeH (i := 27) (v := .bool true) (some 40) rfl rfl (by kernel_rfl) (by kernel_rfl) (by kernel_rfl) (fun _ _ _ h => h) (Or.inl ⟨by rfl, fun X hX => ?_⟩) hS ?_
    · go_simp
    (try go_frame)
    refine takeH (i := 28) (v := .pointer (some ⟨pa, 0, none⟩)) (some 41) rfl rfl (by kernel_rfl) (by kernel_rfl) (by kernel_rfl) (fun _ _ _ h => h) (Or.inl ⟨by rfl, fun X hX => ?_⟩) hS ?_
    · go_simp
    (try go_frame)
    refine takeH (i := 29) (v := .int .i64 28) (some 42) rfl rfl (by kernel_rfl) (by kernel_rfl) (by kernel_rfl) (fun _ _ _ h => h) (Or.inl ⟨by rfl, fun X hX => ?_⟩) hS ?_
    · have c := (HA3.out.kept hX).a.cells.1; rw [HK.out] at c; go_simp
    (try go_frame)
    refine takeH (i := 30) (v := .bool true) (some 43) rfl rfl (by kernel_rfl) (by kernel_rfl) (by kernel_rfl) (fun _ _ _ h => h) (Or.inl ⟨by rfl, fun X hX => ?_⟩) hS ?_
    · go_simp
    (try go_frame)
    refine takeH (i := 31) (v := .bool true) (some 44) rfl rfl (by kernel_rfl) (by kernel_rfl) (by kernel_rfl) (fun _ _ _ h => h) (Or.inl ⟨by rfl, fun X hX => ?_⟩) hS ?_
    · go_simp
    (try go_frame)
    refine takeH (i := 32) (v := .bool true) (some 45) rfl rfl (by kernel_rfl) (by kernel_rfl) (by kernel_rfl) (fun _ _ _ h => h) (Or.inl ⟨by rfl, fun X hX => ?_⟩) hS ?_
    · go_simp
    (try go_frame)
    refine takeH (i := 33) (v := .pointer (some ⟨pa, 0, none⟩)) (some 46) rfl rfl (by kernel_rfl) (by kernel_rfl) (by kernel_rfl) (fun _ _ _ h => h) (Or.inl ⟨by rfl, fun X hX => ?_⟩) hS ?_
    · go_simp
    (try go_frame)
    refine takeH (i := 34) (v := .int .i64 28) (some 47) rfl rfl (by kernel_rfl) (by kernel_rfl) (by kernel_rfl) (fun _ _ _ h => h) (Or.inl ⟨by rfl, fun X hX => ?_⟩) hS ?_
    · have c := (HA3.out.kept hX).a.cells.1; rw [HK.out] at c; go_simp
    (try go_frame)
    refine takeH (i := 35) (v := .bool false) (some 48) rfl rfl (by kernel_rfl) (by kernel_rfl) (by kernel_rfl) (fun _ _ _ h => h) (Or.inl ⟨by rfl, fun X hX => ?_⟩) hS ?_
    · go_simp
    (try go_frame)
    refine takeH (i := 36) (v := .bool false) (some 49) rfl rfl (by kernel_rfl) (by kernel_rfl) (by kernel_rfl) (fun _ _ _ h => h) (Or.inl ⟨by rfl, fun X hX => ?_⟩) hS ?_
    · go_simp
    (try go_frame)
    refine takeH (i := 37) (v := .bool true) (some 50) rfl rfl (by kernel_rfl) (by kernel_rfl) (by kernel_rfl) (fun _ _ _ h => h) (Or.inl ⟨by rfl, fun X hX => ?_⟩) hS ?_
    · go_simp
    (try go_frame)
    refine takeH (i := 38) (v := .bool true) (some 51) rfl rfl (by kernel_rfl) (by kernel_rfl) (by kernel_rfl) (fun _ _ _ h => h) (Or.inl ⟨by rfl, fun X hX => ?_⟩) hS ?_
    · go_simp
    (try go_frame)
    refine takeH (i := 39) (v := .bool true) (some 4) rfl rfl (by kernel_rfl) (by kernel_rfl) (by kernel_rfl) (fun _ _ _ h => h) (Or.inl ⟨by rfl, fun X hX => ?_⟩) hS ?_
    · go_simp
    (try go_frame)
    refine wpAnyH_done (by kernel_rfl) ?_ _
    have HM := Lib.hid (HA3.out.kept hS).m
    clear hS
    go_wp2_with fail
    go_ret
    exact ⟨rfl, HM.out.none_below⟩
  have b28 : (k != 28) = true := by simpa using h28
  have he : el = true := by rw [HEL.out, HK.out, decide_eq_false h0, decide_eq_false h2, decide_eq_false h28]; rfl
  subst he
  refine takeH (i := 26) (v := .bool true) (some 39) rfl rfl (by kernel_rfl) (by kernel_rfl) (by kernel_rfl) (fun _ _ _ h => h) (Or.inl ⟨by rfl, fun X hX => ?_⟩) hS ?_
  · go_simp
  (try go_frame)
  refine wpAnyH_ready (rs := [23]) (by kernel_rfl) (by simp) ?_
  refine AllReadyH.cons rfl (fun K hK => ?_) AllReadyH.nil
  go_simp
  refine (elic_c HCF.out).mono ?_
  rintro e X8 ⟨rfl, hkX8⟩
  rw [HEE.out]
  refine hK.out _ _ (hS.trans hkX8) (fun hS => ?_)
  clear hK K
  refine takeH (i := 27) (v := .bool true) (some 40) rfl rfl (by kernel_rfl) (by kernel_rfl) (by kernel_rfl) (fun _ _ _ h => h) (Or.inl ⟨by rfl, fun X hX => ?_⟩) hS ?_
  · go_simp
  (try go_frame)
  refine takeH (i := 28) (v := .pointer (some ⟨pa, 0, none⟩)) (some 41) rfl rfl (by kernel_rfl) (by kernel_rfl) (by kernel_rfl) (fun _ _ _ h => h) (Or.inl ⟨by rfl, fun X hX => ?_⟩) hS ?_
  · go_simp
  (try go_frame)
  refine takeH (i := 29) (v := .int .i64 k) (some 42) rfl rfl (by kernel_rfl) (by kernel_rfl) (by kernel_rfl) (fun _ _ _ h => h) (Or.inl ⟨by rfl, fun X hX => ?_⟩) hS ?_
  · have c := (HA3.out.kept hX).a.cells.1; rw [HK.out] at c; go_simp
  (try go_frame)
  refine takeH (i := 30) (v := .bool true) (some 43) rfl rfl (by kernel_rfl) (by kernel_rfl) (by kernel_rfl) (fun _ _ _ h => h) (Or.inl ⟨by rfl, fun X hX => ?_⟩) hS ?_
  · go_simp
  (try go_frame)
  refine takeH (i := 31) (v := .bool true) (some 44) rfl rfl (by kernel_rfl) (by kernel_rfl) (by kernel_rfl) (fun _ _ _ h => h) (Or.inl ⟨by rfl, fun X hX => ?_⟩) hS ?_
  · go_simp
  (try go_frame)
  refine takeH (i := 32) (v := .bool true) (some 45) rfl rfl (by kernel_rfl) (by kernel_rfl) (by kernel_rfl) (fun _ _ _ h => h) (Or.inl ⟨by rfl, fun X hX => ?_⟩) hS ?_
  · go_simp
  (try go_frame)
  refine takeH (i := 33) (v := .pointer (some ⟨pa, 0, none⟩)) (some 46) rfl rfl (by kernel_rfl) (by kernel_rfl) (by kernel_rfl) (fun _ _ _ h => h) (Or.inl ⟨by rfl, fun X hX => ?_⟩) hS ?_
  · go_simp
  (try go_frame)
  refine takeH (i := 34) (v := .int .i64 k) (some 47) rfl rfl (by kernel_rfl) (by kernel_rfl) (by kernel_rfl) (fun _ _ _ h => h) (Or.inl ⟨by rfl, fun X hX => ?_⟩) hS ?_
  · have c := (HA3.out.kept hX).a.cells.1; rw [HK.out] at c; go_simp
  (try go_frame)
  refine takeH (i := 35) (v := .bool true) (some 48) rfl rfl (by kernel_rfl) (by kernel_rfl) (by kernel_rfl) (fun _ _ _ h => h) (Or.inl ⟨by rfl, fun X hX => ?_⟩) hS ?_
  · go_simp
  (try go_frame)
  refine takeH (i := 36) (v := .bool true) (some 49) rfl rfl (by kernel_rfl) (by kernel_rfl) (by kernel_rfl) (fun _ _ _ h => h) (Or.inl ⟨by rfl, fun X hX => ?_⟩) hS ?_
  · go_simp
  (try go_frame)
  refine takeH (i := 37) (v := .bool true) (some 50) rfl rfl (by kernel_rfl) (by kernel_rfl) (by kernel_rfl) (fun _ _ _ h => h) (Or.inl ⟨by rfl, fun X hX => ?_⟩) hS ?_
  · go_simp
  (try go_frame)
  refine takeH (i := 38) (v := .bool true) (some 51) rfl rfl (by kernel_rfl) (by kernel_rfl) (by kernel_rfl) (fun _ _ _ h => h) (Or.inl ⟨by rfl, fun X hX => ?_⟩) hS ?_
  · go_simp
  (try go_frame)
  refine takeH (i := 39) (v := .bool true) (some 4) rfl rfl (by kernel_rfl) (by kernel_rfl) (by kernel_rfl) (fun _ _ _ h => h) (Or.inl ⟨by rfl, fun X hX => ?_⟩) hS ?_
  · go_simp
  (try go_frame)
  refine wpAnyH_done (by kernel_rfl) ?_ _
  have HM := Lib.hid (HA3.out.kept hS).m
  clear hS
  go_wp2_with fail
  go_ret
  exact ⟨rfl, HM.out.none_below⟩
end Go.Proofs.YteegonadodmeeaaDoor
