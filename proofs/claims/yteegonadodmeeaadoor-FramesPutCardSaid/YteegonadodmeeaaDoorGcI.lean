/- The walks of the laws that what is put is parsed again, that two frames have the same bytes just if they are the same, and that a frame that is cut off is none. (printed by gengci.py) -/
import Derived.Test.YteegonadodmeeaaDoorGcH
namespace Go.Proofs.YteegonadodmeeaaDoor
open Go.RowKit

def greatB (f : Fr) : Bool := decide (2000 < f.d.length) || decide (40 < f.rs.length)
theorem great_no {f : Fr} (h : greatB f = false) : (f.d.length : Int) ≤ 2000 ∧ (f.rs.length : Int) ≤ 40 := by
  unfold greatB at h
  simp only [Bool.or_eq_false_iff, decide_eq_false_iff_not] at h
  omega
set_option maxRecDepth 10000 in
theorem great_c {w : World} {f : Fr} {vd vr : Value} {C : Array Value} (hC : C = frC f vd vr) (hi : FrIn w f vd vr) : Calls Tryd.prog 11 #[.agg C] w fun e w' => e = .returned (.bool (greatB f)) ∧ Mod (fun _ => False) w w' := by
  subst hC
  obtain ⟨da, dc, rfl, _⟩ := byts_val hi.d
  obtain ⟨ra, rc, rfl, _⟩ := rg_val hi.r
  have e6 : (frC f (.slice da f.d.length dc) (.slice ra f.rs.length rc))[6]? = some (.slice da f.d.length dc) := rfl
  have e7 : (frC f (.slice da f.d.length dc) (.slice ra f.rs.length rc))[7]? = some (.slice ra f.rs.length rc) := rfl
  have HG : Hid (greatB f = (decide (2000 < f.d.length) || decide (40 < f.rs.length))) := rfl
  clear hi
  generalize frC f (.slice da f.d.length dc) (.slice ra f.rs.length rc) = C at *
  generalize greatB f = R at *
  generalize f.d.length = n at *
  generalize f.rs.length = m at *
  go_enter Tryd.func11, Tryd.ntmps11
  go_wp2
  all_goals go_ret
  all_goals refine ⟨ret_bool ?_, (Mod.refl _ _).alloc _⟩
  all_goals (rw [HG.out, Bool.eq_iff_iff]; clear HG; simp_all <;> omega)
/-- A frame that came in, boxed. -/
structure One (w0 w : World) (pa : Nat) (f : Fr) (vd vr : Value) : Prop where
  a : FrB w pa f vd vr
  fi : FrIn w f vd vr
  m : Mod (fun _ => False) w0 w
theorem One.kept {w0 w w' : World} {pa : Nat} {f : Fr} {vd vr : Value} (h : One w0 w pa f vd vr) (hM : Mod (fun _ => False) w w') : One w0 w' pa f vd vr := ⟨h.a.kept hM, h.fi.kept hM, h.m.trans hM⟩
theorem One.load {w0 w : World} {pa : Nat} {f : Fr} {vd vr : Value} (h : One w0 w pa f vd vr) {C : Array Value} (hC : C = frC f vd vr) : (Instr.loadAt 27 (.pointer (some ⟨pa, 0, none⟩))).run Tryd.prog w = .ok (.agg C) w := by
  subst hC
  exact blk_loadAt h.a
theorem One.made (w : World) {f : Fr} {vd vr : Value} (h : FrIn w f vd vr) : One w (w.alloc (.cells (frC f vd vr) 27)) w.heap.size f vd vr := ⟨FrB.new w f vd vr h.t, h.kept ((Mod.refl _ _).alloc _), (Mod.refl _ _).alloc _⟩
theorem One.made2 (w : World) {f g : Fr} {vd vr ud ur : Value} (h : FrIn w f vd vr) (hg : FrIn w g ud ur) : One w ((w.alloc (.cells (frC f vd vr) 27)).alloc (.cells (frC g ud ur) 27)) w.heap.size f vd vr ∧ One w ((w.alloc (.cells (frC f vd vr) 27)).alloc (.cells (frC g ud ur) 27)) (w.heap.size + 1) g ud ur :=
  ⟨(One.made w h).kept ((Mod.refl _ _).alloc _), ⟨new2 _ _ _ _, hg.t⟩, hg.kept (((Mod.refl _ _).alloc _).alloc _), ((Mod.refl _ _).alloc _).alloc _⟩
theorem fput_len {f : Fr} (h : rightF f = true) (ht : f.t.length = 16) : ((fputL f).length : Int) ≤ 2001 := by
  have := body_len h ht
  have e : fputL f = UInt8.ofNat (tagN f) :: bodyN f.k.toNat f := by unfold fputL; rw [if_pos h]
  rw [e, List.length_cons]
  omega
theorem byts_take {w : World} {a : Option Addr} {n cap k : Nat} {l : List UInt8} (h : Byts w (.slice a n cap) l) (hk : k ≤ n) : Byts w (.slice a k cap) (l.take k) := by
  obtain ⟨h1, a', cap', he, h2, h3, h4, h5⟩ := h
  simp only [Value.slice.injEq] at he
  obtain ⟨rfl, rfl, rfl⟩ := he
  have hl : l.length = l.length := rfl
  have e : (l.take k).length = k := by rw [List.length_take]; omega
  refine ⟨by simp, a, cap, by rw [e], by rw [e]; omega, h3, h4, fun j u hu => h5 j u ?_⟩
  rw [List.map_take, List.getElem?_take] at hu
  split at hu
  · exact hu
  · cases hu
set_option maxHeartbeats 8000000 in
set_option maxRecDepth 10000 in
theorem back_law {w : World} {f g : Fr} {vd vr ud ur : Value} (hT : Tabs w) (hf : FrIn w f vd vr) (hg : FrIn w g ud ur) :
    Calls Tryd.prog 4 #[frV f vd vr, frV g ud ur] w fun e w' => e = .returned (.bool true) ∧ Below w.heap.size w w' := by
  have HM0 := Lib.hid (One.made2 w hf hg)
  have HCF0 := hf
  obtain ⟨CF, hCF⟩ : ∃ C, C = frC f vd vr := ⟨_, rfl⟩
  obtain ⟨CG, hCG⟩ : ∃ C, C = frC g ud ur := ⟨_, rfl⟩
  have HCF := Lib.hid hCF
  have HCG := Lib.hid hCG
  have HT := Lib.hid hT
  unfold frV
  rw [← hCF, ← hCG] at HM0 ⊢
  clear hT hf hg HCF0 hCF hCG
  go_enter Tryd.func4, Tryd.ntmps4
  have HA0 := Lib.hid HM0.out.1
  have HB0 := Lib.hid HM0.out.2
  clear HM0
  go_wp2_with fail
  refine (alive_any _ (HA0.out.m.tabs HT.out (fun h => h))).mono ?_
  rintro e w1 ⟨rfl, hM1⟩
  have HA1 := Lib.hid (HA0.out.kept hM1)
  have HB1 := Lib.hid (HB0.out.kept hM1)
  clear hM1 HA0 HB0
  generalize w.heap.size = pa at *
  go_wp2_with (first | ((with_reducible refine wpList_load_v 27 (.tmp 2) ?_ ?_ (.pointer (some ⟨pa, 0, none⟩)) (.agg CF) ?_ (HA1.out.load HCF.out) ?_); (· exact rfl); (· exact rfl); (· exact rfl)) | fail)
  refine (great_c HCF.out HA1.out.fi).mono ?_
  rintro e w2 ⟨rfl, hM2⟩
  have HA2 := Lib.hid (HA1.out.kept hM2)
  have HB2 := Lib.hid (HB1.out.kept hM2)
  clear hM2 HA1 HB1
  generalize hgf : greatB f = gf at *
  have HGF := Lib.hid hgf
  clear hgf
  cases gf
  case true =>
    go_wp2_with fail
    go_ret
    exact ⟨rfl, HA2.out.m.none_below⟩
  have HSF := Lib.hid (great_no HGF.out)
  clear HGF
  go_wp2_with (first | ((with_reducible refine wpList_load_v 27 (.tmp 3) ?_ ?_ (.pointer (some ⟨pa + 1, 0, none⟩)) (.agg CG) ?_ (HB2.out.load HCG.out) ?_); (· exact rfl); (· exact rfl); (· exact rfl)) | fail)
  refine (great_c HCG.out HB2.out.fi).mono ?_
  rintro e w3 ⟨rfl, hM3⟩
  have HA3 := Lib.hid (HA2.out.kept hM3)
  have HB3 := Lib.hid (HB2.out.kept hM3)
  clear hM3 HA2 HB2
  generalize hgg : greatB g = gg at *
  have HGG := Lib.hid hgg
  clear hgg
  cases gg
  case true =>
    go_wp2_with fail
    go_ret
    exact ⟨rfl, HA3.out.m.none_below⟩
  have HSG := Lib.hid (great_no HGG.out)
  clear HGG
  go_wp2_with (first | ((with_reducible refine wpList_load_v 27 (.tmp 2) ?_ ?_ (.pointer (some ⟨pa, 0, none⟩)) (.agg CF) ?_ (HA3.out.load HCF.out) ?_); (· exact rfl); (· exact rfl); (· exact rfl)) | fail)
  refine (right_c HCF.out (HA3.out.fi.frv HSF.out.1 HSF.out.2) (by have := HSF.out.2; omega) HA3.out.fi.k HA3.out.fi.g).mono ?_
  rintro e w4 ⟨rfl, hM4⟩
  have HA4 := Lib.hid (HA3.out.kept hM4)
  have HB4 := Lib.hid (HB3.out.kept hM4)
  clear hM4 HA3 HB3
  generalize hrf : rightF f = rf at *
  have HRF := Lib.hid hrf
  clear hrf
  cases rf
  case false =>
    go_wp2_with fail
    go_ret
    exact ⟨rfl, HA4.out.m.none_below⟩
  go_wp2_with (first | ((with_reducible refine wpList_load_v 27 (.tmp 3) ?_ ?_ (.pointer (some ⟨pa + 1, 0, none⟩)) (.agg CG) ?_ (HB4.out.load HCG.out) ?_); (· exact rfl); (· exact rfl); (· exact rfl)) | fail)
  refine (right_c HCG.out (HB4.out.fi.frv HSG.out.1 HSG.out.2) (by have := HSG.out.2; omega) HB4.out.fi.k HB4.out.fi.g).mono ?_
  rintro e w5 ⟨rfl, hM5⟩
  have HA5 := Lib.hid (HA4.out.kept hM5)
  have HB5 := Lib.hid (HB4.out.kept hM5)
  clear hM5 HA4 HB4
  generalize hrg : rightF g = rg at *
  have HRG := Lib.hid hrg
  clear hrg
  cases rg
  case false =>
    go_wp2_with fail
    go_ret
    exact ⟨rfl, HA5.out.m.none_below⟩
  have c0 := HA5.out.a.cells.1
  have d0 := HB5.out.a.cells.1
  have HKF : Hid (f.k = f.k) := rfl
  obtain ⟨kf, hkf⟩ : ∃ k, f.k = k := ⟨_, rfl⟩
  obtain ⟨kg, hkg⟩ : ∃ k, g.k = k := ⟨_, rfl⟩
  rw [hkf] at c0
  rw [hkg] at d0
  have HKK : Hid (f.k = kf ∧ g.k = kg) := ⟨hkf, hkg⟩
  clear hkf hkg HKF
  by_cases hkk : kf = 0 ∧ kg = 0
  case pos =>
    obtain ⟨rfl, rfl⟩ := hkk
    go_wp2_with fail
    go_ret
    exact ⟨rfl, HA5.out.m.none_below⟩
  obtain ⟨L1, hL1⟩ : ∃ x, fputL f = x := ⟨_, rfl⟩
  obtain ⟨n1, hn1⟩ : ∃ x, L1.length = x := ⟨_, rfl⟩
  obtain ⟨L2, hL2⟩ : ∃ x, fputL g = x := ⟨_, rfl⟩
  obtain ⟨n2, hn2⟩ : ∃ x, L2.length = x := ⟨_, rfl⟩
  have HL1 := Lib.hid hL1
  have HL2 := Lib.hid hL2
  have HN1 := Lib.hid hn1
  have HN2 := Lib.hid hn2
  have HZ1 : Hid ((n1 : Int) ≤ 2001) := by show _ ≤ _; rw [← hn1, ← hL1]; exact fput_len HRF.out HA5.out.fi.t
  have HZ2 : Hid ((n2 : Int) ≤ 2001) := by show _ ≤ _; rw [← hn2, ← hL2]; exact fput_len HRG.out HB5.out.fi.t
  have hp2 := parse_two HRF.out HA5.out.fi.t HRG.out HB5.out.fi.t (by rw [HKK.out.1, HKK.out.2]; exact hkk)
  rw [hL1, hL2] at hp2
  have HP2 := Lib.hid hp2
  have HKN : Hid (¬ (kf = 0 ∧ kg = 0)) := hkk
  clear hp2 hL1 hL2 hn1 hn2 hkk HKK
  by_cases hk0 : kf = 0
  · subst hk0
    have hg0 : (kg == 0) = false := by simp; intro e; exact HKN.out ⟨rfl, e⟩
    clear HKN
    go_wp2_with fail
    clear c0 d0
    (try go_frame)
    refine wp_region_held_drew (S := fun X => Mod (fun _ => False) w5 X) (by kernel_rfl) (Mod.refl _ _).drew (fun hS => ?_)
    refine takeH (i := 0) (v := .agg CF) (some 34) rfl rfl (by kernel_rfl) (by kernel_rfl) (by kernel_rfl) (fun _ _ _ h => h) (Or.inl ⟨by rfl, fun X hX => ?_⟩) hS ?_
    · exact exec_load' rfl (p := .pointer (some ⟨pa, 0, none⟩)) (by rfl) ((HA5.out.kept hX).load HCF.out)
    (try go_frame)
    refine takeH (i := 2) (v := .agg CG) (some 36) rfl rfl (by kernel_rfl) (by kernel_rfl) (by kernel_rfl) (fun _ _ _ h => h) (Or.inl ⟨by rfl, fun X hX => ?_⟩) hS ?_
    · exact exec_load' rfl (p := .pointer (some ⟨pa + 1, 0, none⟩)) (by rfl) ((HB5.out.kept hX).load HCG.out)
    (try go_frame)
    refine wpAnyH_ready (rs := [1]) (by kernel_rfl) (by simp) ?_
    refine AllReadyH.cons rfl (fun K hK => ?_) AllReadyH.nil
    go_simp
    refine (fput_c HCF.out ((HA5.out.kept hS).m.tabs HT.out (fun h => h)) ((HA5.out.kept hS).fi.frv HSF.out.1 HSF.out.2) (by have := HSF.out.2; omega) (HA5.out.kept hS).fi.k (HA5.out.kept hS).fi.g HL1.out HN1.out).mono ?_
    rintro e X1 ⟨a1, c1, rfl, ho1, hk1⟩
    have hb1 := hS.size
    refine hK.out _ _ (hS.trans hk1) (fun hS => ?_)
    clear hK K
    refine wpAnyH_ready (rs := [3]) (by kernel_rfl) (by simp) ?_
    refine AllReadyH.cons rfl (fun K hK => ?_) AllReadyH.nil
    go_simp
    refine (fput_c HCG.out ((HB5.out.kept hS).m.tabs HT.out (fun h => h)) ((HB5.out.kept hS).fi.frv HSG.out.1 HSG.out.2) (by have := HSG.out.2; omega) (HB5.out.kept hS).fi.k (HB5.out.kept hS).fi.g HL2.out HN2.out).mono ?_
    rintro e X3 ⟨a3, c3, rfl, ho3, hk3⟩
    refine hK.out _ _ (hS.trans hk3) (fun hS => ?_)
    clear hK K
    refine wpAnyH_ready (rs := [4]) (by kernel_rfl) (by simp) ?_
    refine AllReadyH.cons rfl (fun K hK => ?_) AllReadyH.nil
    refine step_append_b rfl (.tmp 35) (.tmp 37) rfl (.slice a1 n1 c1) L1 w5.heap.size (n1 + n2) (by rfl) (OwnB.mono (ho1.keptF hk3) hb1) (.slice a3 n2 c3) L2 (by rfl) ho3.byts (L1 ++ L2) rfl (by rw [HN1.out, HN2.out]) (by have := HZ1.out; have := HZ2.out; omega) hS.size ?_
    intro ap4 cp4 X4 hA4
    (try go_frame)
    have hb4 := hA4.byts
    refine hK.out _ _ (hA4.modF hS (Nat.le_refl _)) (fun hS => ?_)
    clear hK K
    refine wpAnyH_ready (rs := [5]) (by kernel_rfl) (by simp) ?_
    refine AllReadyH.cons rfl (fun K hK => ?_) AllReadyH.nil
    go_simp
    refine (parse_c 2 hb4 (by have := HZ1.out; have := HZ2.out; rw [List.length_append, HN1.out, HN2.out]; omega) HP2.out rfl).mono ?_
    rintro e X5 ⟨a5, c5, rfl, ho5, hk5⟩
    refine hK.out _ _ (hS.trans hk5) (fun hS => ?_)
    clear hK K
    refine takeH (i := 6) (v := .tuple #[.slice a5 2 c5, .int .i64 0]) (some 33) rfl rfl (by kernel_rfl) (by kernel_rfl) (by kernel_rfl) (fun _ _ _ h => h) (Or.inl ⟨by rfl, fun X hX => ?_⟩) hS ?_
    · go_simp
    (try go_frame)
    refine takeH (i := 7) (v := .slice a5 2 c5) (some 40) rfl rfl (by kernel_rfl) (by kernel_rfl) (by kernel_rfl) (fun _ _ _ h => h) (Or.inl ⟨by rfl, fun X hX => ?_⟩) hS ?_
    · go_simp
    (try go_frame)
    refine takeH (i := 8) (v := .int .i64 0) (some 41) rfl rfl (by kernel_rfl) (by kernel_rfl) (by kernel_rfl) (fun _ _ _ h => h) (Or.inl ⟨by rfl, fun X hX => ?_⟩) hS ?_
    · go_simp
    (try go_frame)
    refine takeH (i := 9) (v := .slice a5 2 c5) (some 5) rfl rfl (by kernel_rfl) (by kernel_rfl) (by kernel_rfl) (fun _ _ _ h => h) (Or.inl ⟨by rfl, fun X hX => ?_⟩) hS ?_
    · go_simp
    (try go_frame)
    refine takeH (i := 10) (v := .int .i64 0) (some 6) rfl rfl (by kernel_rfl) (by kernel_rfl) (by kernel_rfl) (fun _ _ _ h => h) (Or.inl ⟨by rfl, fun X hX => ?_⟩) hS ?_
    · go_simp
    (try go_frame)
    refine wpAnyH_done (by kernel_rfl) ?_ _
    obtain ⟨h5, c5', xd0, xr0, hv5, hf0, hr0⟩ := ho5.at (i := 0) rfl
    obtain ⟨g5, c5'', xd1, xr1, hv5', hf1, hr1⟩ := ho5.at (i := 1) rfl
    have e5 := hv5'.symm.trans hv5
    simp only [Value.slice.injEq, Option.some.injEq, Addr.mk.injEq, and_true] at e5
    obtain ⟨rfl, -, -⟩ := e5
    clear hv5'
    simp only [Value.slice.injEq] at hv5
    obtain ⟨rfl, -, -⟩ := hv5
    have HA6 := Lib.hid (HA5.out.kept hS)
    have HB6 := Lib.hid (HB5.out.kept hS)
    have HF0 := Lib.hid (hf0.frv (by have := HSF.out.1; omega) (by have := HSF.out.2; omega))
    have HF1 := Lib.hid (hf1.frv (by have := HSG.out.1; omega) (by have := HSG.out.2; omega))
    obtain ⟨C0, hC0⟩ : ∃ C, C = frC f xd0 xr0 := ⟨_, rfl⟩
    obtain ⟨C1, hC1⟩ : ∃ C, C = frC g xd1 xr1 := ⟨_, rfl⟩
    have HC0 := Lib.hid hC0
    have HC1 := Lib.hid hC1
    have HR0 := Lib.hid hr0
    have HR1 := Lib.hid hr1
    clear hf0 hf1 hr0 hr1 ho5 hk5 hb4 hA4 ho3 hk3 ho1 hk1 hb1 hS HA5 HB5 hC0 hC1 HP2 HL1 HL2 HN1 HN2 HZ1 HZ2
    go_wp2_with fail
    (try go_frame)
    refine wp_region_held_drew (S := fun X => Mod (fun _ => False) X5 X) (by kernel_rfl) (Mod.refl _ _).drew (fun hS => ?_)
    refine takeH (i := 0) (v := .int .i64 0) (some 42) rfl rfl (by kernel_rfl) (by kernel_rfl) (by kernel_rfl) (fun _ _ _ h => h) (Or.inl ⟨by rfl, fun X hX => ?_⟩) hS ?_
    · go_simp
    (try go_frame)
    refine takeH (i := 1) (v := .bool true) (some 43) rfl rfl (by kernel_rfl) (by kernel_rfl) (by kernel_rfl) (fun _ _ _ h => h) (Or.inl ⟨by rfl, fun X hX => ?_⟩) hS ?_
    · go_simp
    (try go_frame)
    refine takeH (i := 2) (v := .bool true) (some 44) rfl rfl (by kernel_rfl) (by kernel_rfl) (by kernel_rfl) (fun _ _ _ h => h) (Or.inl ⟨by rfl, fun X hX => ?_⟩) hS ?_
    · go_simp
    (try go_frame)
    refine takeH (i := 3) (v := .slice (some ⟨g5, 0, none⟩) 2 c5) (some 45) rfl rfl (by kernel_rfl) (by kernel_rfl) (by kernel_rfl) (fun _ _ _ h => h) (Or.inl ⟨by rfl, fun X hX => ?_⟩) hS ?_
    · go_simp
    (try go_frame)
    refine takeH (i := 4) (v := .int .i64 2) (some 46) rfl rfl (by kernel_rfl) (by kernel_rfl) (by kernel_rfl) (fun _ _ _ h => h) (Or.inl ⟨by rfl, fun X hX => ?_⟩) hS ?_
    · go_simp
    (try go_frame)
    refine takeH (i := 5) (v := .bool true) (some 47) rfl rfl (by kernel_rfl) (by kernel_rfl) (by kernel_rfl) (fun _ _ _ h => h) (Or.inl ⟨by rfl, fun X hX => ?_⟩) hS ?_
    · go_simp
    (try go_frame)
    refine takeH (i := 6) (v := .bool true) (some 48) rfl rfl (by kernel_rfl) (by kernel_rfl) (by kernel_rfl) (fun _ _ _ h => h) (Or.inl ⟨by rfl, fun X hX => ?_⟩) hS ?_
    · go_simp
    (try go_frame)
    refine takeH (i := 7) (v := .bool true) (some 49) rfl rfl (by kernel_rfl) (by kernel_rfl) (by kernel_rfl) (fun _ _ _ h => h) (Or.inl ⟨by rfl, fun X hX => ?_⟩) hS ?_
    · go_simp
    (try go_frame)
    refine takeH (i := 8) (v := .slice (some ⟨g5, 0, none⟩) 2 c5) (some 50) rfl rfl (by kernel_rfl) (by kernel_rfl) (by kernel_rfl) (fun _ _ _ h => h) (Or.inl ⟨by rfl, fun X hX => ?_⟩) hS ?_
    · go_simp
    (try go_frame)
    refine takeH (i := 9) (v := .pointer (some ⟨g5, 0, none⟩)) (some 51) rfl rfl (by kernel_rfl) (by kernel_rfl) (by kernel_rfl) (fun _ _ _ h => h) (Or.inl ⟨by rfl, fun X hX => ?_⟩) hS ?_
    · go_simp
    (try go_frame)
    refine takeH (i := 10) (v := .agg C0) (some 52) rfl rfl (by kernel_rfl) (by kernel_rfl) (by kernel_rfl) (fun _ _ _ h => h) (Or.inl ⟨by rfl, fun X hX => ?_⟩) hS ?_
    · exact exec_load' rfl (p := .pointer (some ⟨g5, 0, none⟩)) (by rfl) (frC_load HC0.out (range_kept HR0.out hX (fun h => h)) HF0.out.t)
    (try go_frame)
    refine takeH (i := 11) (v := .agg CF) (some 53) rfl rfl (by kernel_rfl) (by kernel_rfl) (by kernel_rfl) (fun _ _ _ h => h) (Or.inl ⟨by rfl, fun X hX => ?_⟩) hS ?_
    · exact exec_load' rfl (p := .pointer (some ⟨pa, 0, none⟩)) (by rfl) ((HA6.out.kept hX).load HCF.out)
    (try go_frame)
    refine wpAnyH_ready (rs := [12]) (by kernel_rfl) (by simp) ?_
    refine AllReadyH.cons rfl (fun K hK => ?_) AllReadyH.nil
    go_simp
    refine (fsame_c HC0.out HCF.out (HF0.out.kept hS) ((HA6.out.kept hS).fi.frv HSF.out.1 HSF.out.2) (by have := HSF.out.2; omega) (by have := HSF.out.2; omega)).mono ?_
    rintro e X8 ⟨rfl, hk8⟩
    rw [show sameF f f = true by simp [sameF]]
    refine hK.out _ _ (hS.trans hk8) (fun hS => ?_)
    clear hK K
    refine takeH (i := 13) (v := .bool true) (some 55) rfl rfl (by kernel_rfl) (by kernel_rfl) (by kernel_rfl) (fun _ _ _ h => h) (Or.inl ⟨by rfl, fun X hX => ?_⟩) hS ?_
    · go_simp
    (try go_frame)
    refine takeH (i := 14) (v := .bool true) (some 56) rfl rfl (by kernel_rfl) (by kernel_rfl) (by kernel_rfl) (fun _ _ _ h => h) (Or.inl ⟨by rfl, fun X hX => ?_⟩) hS ?_
    · go_simp
    (try go_frame)
    refine takeH (i := 15) (v := .slice (some ⟨g5, 0, none⟩) 2 c5) (some 57) rfl rfl (by kernel_rfl) (by kernel_rfl) (by kernel_rfl) (fun _ _ _ h => h) (Or.inl ⟨by rfl, fun X hX => ?_⟩) hS ?_
    · go_simp
    (try go_frame)
    refine takeH (i := 16) (v := .pointer (some ⟨g5, 24, none⟩)) (some 58) rfl rfl (by kernel_rfl) (by kernel_rfl) (by kernel_rfl) (fun _ _ _ h => h) (Or.inl ⟨by rfl, fun X hX => ?_⟩) hS ?_
    · go_simp
    (try go_frame)
    refine takeH (i := 17) (v := .agg C1) (some 59) rfl rfl (by kernel_rfl) (by kernel_rfl) (by kernel_rfl) (fun _ _ _ h => h) (Or.inl ⟨by rfl, fun X hX => ?_⟩) hS ?_
    · exact exec_load' rfl (p := .pointer (some ⟨g5, 24, none⟩)) (by rfl) (frC_load HC1.out (range_kept HR1.out hX (fun h => h)) HF1.out.t)
    (try go_frame)
    refine takeH (i := 18) (v := .agg CG) (some 60) rfl rfl (by kernel_rfl) (by kernel_rfl) (by kernel_rfl) (fun _ _ _ h => h) (Or.inl ⟨by rfl, fun X hX => ?_⟩) hS ?_
    · exact exec_load' rfl (p := .pointer (some ⟨pa + 1, 0, none⟩)) (by rfl) ((HB6.out.kept hX).load HCG.out)
    (try go_frame)
    refine wpAnyH_ready (rs := [19]) (by kernel_rfl) (by simp) ?_
    refine AllReadyH.cons rfl (fun K hK => ?_) AllReadyH.nil
    go_simp
    refine (fsame_c HC1.out HCG.out (HF1.out.kept hS) ((HB6.out.kept hS).fi.frv HSG.out.1 HSG.out.2) (by have := HSG.out.2; omega) (by have := HSG.out.2; omega)).mono ?_
    rintro e X9 ⟨rfl, hk9⟩
    rw [show sameF g g = true by simp [sameF]]
    refine hK.out _ _ (hS.trans hk9) (fun hS => ?_)
    clear hK K
    refine takeH (i := 20) (v := .bool true) (some 62) rfl rfl (by kernel_rfl) (by kernel_rfl) (by kernel_rfl) (fun _ _ _ h => h) (Or.inl ⟨by rfl, fun X hX => ?_⟩) hS ?_
    · go_simp
    (try go_frame)
    refine takeH (i := 21) (v := .bool true) (some 4) rfl rfl (by kernel_rfl) (by kernel_rfl) (by kernel_rfl) (fun _ _ _ h => h) (Or.inl ⟨by rfl, fun X hX => ?_⟩) hS ?_
    · go_simp
    (try go_frame)
    refine wpAnyH_done (by kernel_rfl) ?_ _
    have HM := Lib.hid (HA6.out.kept hS).m
    clear hS
    go_wp2_with fail
    go_ret
    exact ⟨rfl, HM.out.none_below⟩
  · have hk1 : (kf == 0) = false := by simpa using hk0
    clear HKN hk0
    go_wp2_with fail
    clear c0 d0
    (try go_frame)
    refine wp_region_held_drew (S := fun X => Mod (fun _ => False) w5 X) (by kernel_rfl) (Mod.refl _ _).drew (fun hS => ?_)
    refine takeH (i := 0) (v := .agg CF) (some 34) rfl rfl (by kernel_rfl) (by kernel_rfl) (by kernel_rfl) (fun _ _ _ h => h) (Or.inl ⟨by rfl, fun X hX => ?_⟩) hS ?_
    · exact exec_load' rfl (p := .pointer (some ⟨pa, 0, none⟩)) (by rfl) ((HA5.out.kept hX).load HCF.out)
    (try go_frame)
    refine takeH (i := 2) (v := .agg CG) (some 36) rfl rfl (by kernel_rfl) (by kernel_rfl) (by kernel_rfl) (fun _ _ _ h => h) (Or.inl ⟨by rfl, fun X hX => ?_⟩) hS ?_
    · exact exec_load' rfl (p := .pointer (some ⟨pa + 1, 0, none⟩)) (by rfl) ((HB5.out.kept hX).load HCG.out)
    (try go_frame)
    refine wpAnyH_ready (rs := [1]) (by kernel_rfl) (by simp) ?_
    refine AllReadyH.cons rfl (fun K hK => ?_) AllReadyH.nil
    go_simp
    refine (fput_c HCF.out ((HA5.out.kept hS).m.tabs HT.out (fun h => h)) ((HA5.out.kept hS).fi.frv HSF.out.1 HSF.out.2) (by have := HSF.out.2; omega) (HA5.out.kept hS).fi.k (HA5.out.kept hS).fi.g HL1.out HN1.out).mono ?_
    rintro e X1 ⟨a1, c1, rfl, ho1, hk1⟩
    have hb1 := hS.size
    refine hK.out _ _ (hS.trans hk1) (fun hS => ?_)
    clear hK K
    refine wpAnyH_ready (rs := [3]) (by kernel_rfl) (by simp) ?_
    refine AllReadyH.cons rfl (fun K hK => ?_) AllReadyH.nil
    go_simp
    refine (fput_c HCG.out ((HB5.out.kept hS).m.tabs HT.out (fun h => h)) ((HB5.out.kept hS).fi.frv HSG.out.1 HSG.out.2) (by have := HSG.out.2; omega) (HB5.out.kept hS).fi.k (HB5.out.kept hS).fi.g HL2.out HN2.out).mono ?_
    rintro e X3 ⟨a3, c3, rfl, ho3, hk3⟩
    refine hK.out _ _ (hS.trans hk3) (fun hS => ?_)
    clear hK K
    refine wpAnyH_ready (rs := [4]) (by kernel_rfl) (by simp) ?_
    refine AllReadyH.cons rfl (fun K hK => ?_) AllReadyH.nil
    refine step_append_b rfl (.tmp 35) (.tmp 37) rfl (.slice a1 n1 c1) L1 w5.heap.size (n1 + n2) (by rfl) (OwnB.mono (ho1.keptF hk3) hb1) (.slice a3 n2 c3) L2 (by rfl) ho3.byts (L1 ++ L2) rfl (by rw [HN1.out, HN2.out]) (by have := HZ1.out; have := HZ2.out; omega) hS.size ?_
    intro ap4 cp4 X4 hA4
    (try go_frame)
    have hb4 := hA4.byts
    refine hK.out _ _ (hA4.modF hS (Nat.le_refl _)) (fun hS => ?_)
    clear hK K
    refine wpAnyH_ready (rs := [5]) (by kernel_rfl) (by simp) ?_
    refine AllReadyH.cons rfl (fun K hK => ?_) AllReadyH.nil
    go_simp
    refine (parse_c 2 hb4 (by have := HZ1.out; have := HZ2.out; rw [List.length_append, HN1.out, HN2.out]; omega) HP2.out rfl).mono ?_
    rintro e X5 ⟨a5, c5, rfl, ho5, hk5⟩
    refine hK.out _ _ (hS.trans hk5) (fun hS => ?_)
    clear hK K
    refine takeH (i := 6) (v := .tuple #[.slice a5 2 c5, .int .i64 0]) (some 33) rfl rfl (by kernel_rfl) (by kernel_rfl) (by kernel_rfl) (fun _ _ _ h => h) (Or.inl ⟨by rfl, fun X hX => ?_⟩) hS ?_
    · go_simp
    (try go_frame)
    refine takeH (i := 7) (v := .slice a5 2 c5) (some 40) rfl rfl (by kernel_rfl) (by kernel_rfl) (by kernel_rfl) (fun _ _ _ h => h) (Or.inl ⟨by rfl, fun X hX => ?_⟩) hS ?_
    · go_simp
    (try go_frame)
    refine takeH (i := 8) (v := .int .i64 0) (some 41) rfl rfl (by kernel_rfl) (by kernel_rfl) (by kernel_rfl) (fun _ _ _ h => h) (Or.inl ⟨by rfl, fun X hX => ?_⟩) hS ?_
    · go_simp
    (try go_frame)
    refine takeH (i := 9) (v := .slice a5 2 c5) (some 5) rfl rfl (by kernel_rfl) (by kernel_rfl) (by kernel_rfl) (fun _ _ _ h => h) (Or.inl ⟨by rfl, fun X hX => ?_⟩) hS ?_
    · go_simp
    (try go_frame)
    refine takeH (i := 10) (v := .int .i64 0) (some 6) rfl rfl (by kernel_rfl) (by kernel_rfl) (by kernel_rfl) (fun _ _ _ h => h) (Or.inl ⟨by rfl, fun X hX => ?_⟩) hS ?_
    · go_simp
    (try go_frame)
    refine wpAnyH_done (by kernel_rfl) ?_ _
    obtain ⟨h5, c5', xd0, xr0, hv5, hf0, hr0⟩ := ho5.at (i := 0) rfl
    obtain ⟨g5, c5'', xd1, xr1, hv5', hf1, hr1⟩ := ho5.at (i := 1) rfl
    have e5 := hv5'.symm.trans hv5
    simp only [Value.slice.injEq, Option.some.injEq, Addr.mk.injEq, and_true] at e5
    obtain ⟨rfl, -, -⟩ := e5
    clear hv5'
    simp only [Value.slice.injEq] at hv5
    obtain ⟨rfl, -, -⟩ := hv5
    have HA6 := Lib.hid (HA5.out.kept hS)
    have HB6 := Lib.hid (HB5.out.kept hS)
    have HF0 := Lib.hid (hf0.frv (by have := HSF.out.1; omega) (by have := HSF.out.2; omega))
    have HF1 := Lib.hid (hf1.frv (by have := HSG.out.1; omega) (by have := HSG.out.2; omega))
    obtain ⟨C0, hC0⟩ : ∃ C, C = frC f xd0 xr0 := ⟨_, rfl⟩
    obtain ⟨C1, hC1⟩ : ∃ C, C = frC g xd1 xr1 := ⟨_, rfl⟩
    have HC0 := Lib.hid hC0
    have HC1 := Lib.hid hC1
    have HR0 := Lib.hid hr0
    have HR1 := Lib.hid hr1
    clear hf0 hf1 hr0 hr1 ho5 hk5 hb4 hA4 ho3 hk3 ho1 hk1 hb1 hS HA5 HB5 hC0 hC1 HP2 HL1 HL2 HN1 HN2 HZ1 HZ2
    go_wp2_with fail
    (try go_frame)
    refine wp_region_held_drew (S := fun X => Mod (fun _ => False) X5 X) (by kernel_rfl) (Mod.refl _ _).drew (fun hS => ?_)
    refine takeH (i := 0) (v := .int .i64 0) (some 42) rfl rfl (by kernel_rfl) (by kernel_rfl) (by kernel_rfl) (fun _ _ _ h => h) (Or.inl ⟨by rfl, fun X hX => ?_⟩) hS ?_
    · go_simp
    (try go_frame)
    refine takeH (i := 1) (v := .bool true) (some 43) rfl rfl (by kernel_rfl) (by kernel_rfl) (by kernel_rfl) (fun _ _ _ h => h) (Or.inl ⟨by rfl, fun X hX => ?_⟩) hS ?_
    · go_simp
    (try go_frame)
    refine takeH (i := 2) (v := .bool true) (some 44) rfl rfl (by kernel_rfl) (by kernel_rfl) (by kernel_rfl) (fun _ _ _ h => h) (Or.inl ⟨by rfl, fun X hX => ?_⟩) hS ?_
    · go_simp
    (try go_frame)
    refine takeH (i := 3) (v := .slice (some ⟨g5, 0, none⟩) 2 c5) (some 45) rfl rfl (by kernel_rfl) (by kernel_rfl) (by kernel_rfl) (fun _ _ _ h => h) (Or.inl ⟨by rfl, fun X hX => ?_⟩) hS ?_
    · go_simp
    (try go_frame)
    refine takeH (i := 4) (v := .int .i64 2) (some 46) rfl rfl (by kernel_rfl) (by kernel_rfl) (by kernel_rfl) (fun _ _ _ h => h) (Or.inl ⟨by rfl, fun X hX => ?_⟩) hS ?_
    · go_simp
    (try go_frame)
    refine takeH (i := 5) (v := .bool true) (some 47) rfl rfl (by kernel_rfl) (by kernel_rfl) (by kernel_rfl) (fun _ _ _ h => h) (Or.inl ⟨by rfl, fun X hX => ?_⟩) hS ?_
    · go_simp
    (try go_frame)
    refine takeH (i := 6) (v := .bool true) (some 48) rfl rfl (by kernel_rfl) (by kernel_rfl) (by kernel_rfl) (fun _ _ _ h => h) (Or.inl ⟨by rfl, fun X hX => ?_⟩) hS ?_
    · go_simp
    (try go_frame)
    refine takeH (i := 7) (v := .bool true) (some 49) rfl rfl (by kernel_rfl) (by kernel_rfl) (by kernel_rfl) (fun _ _ _ h => h) (Or.inl ⟨by rfl, fun X hX => ?_⟩) hS ?_
    · go_simp
    (try go_frame)
    refine takeH (i := 8) (v := .slice (some ⟨g5, 0, none⟩) 2 c5) (some 50) rfl rfl (by kernel_rfl) (by kernel_rfl) (by kernel_rfl) (fun _ _ _ h => h) (Or.inl ⟨by rfl, fun X hX => ?_⟩) hS ?_
    · go_simp
    (try go_frame)
    refine takeH (i := 9) (v := .pointer (some ⟨g5, 0, none⟩)) (some 51) rfl rfl (by kernel_rfl) (by kernel_rfl) (by kernel_rfl) (fun _ _ _ h => h) (Or.inl ⟨by rfl, fun X hX => ?_⟩) hS ?_
    · go_simp
    (try go_frame)
    refine takeH (i := 10) (v := .agg C0) (some 52) rfl rfl (by kernel_rfl) (by kernel_rfl) (by kernel_rfl) (fun _ _ _ h => h) (Or.inl ⟨by rfl, fun X hX => ?_⟩) hS ?_
    · exact exec_load' rfl (p := .pointer (some ⟨g5, 0, none⟩)) (by rfl) (frC_load HC0.out (range_kept HR0.out hX (fun h => h)) HF0.out.t)
    (try go_frame)
    refine takeH (i := 11) (v := .agg CF) (some 53) rfl rfl (by kernel_rfl) (by kernel_rfl) (by kernel_rfl) (fun _ _ _ h => h) (Or.inl ⟨by rfl, fun X hX => ?_⟩) hS ?_
    · exact exec_load' rfl (p := .pointer (some ⟨pa, 0, none⟩)) (by rfl) ((HA6.out.kept hX).load HCF.out)
    (try go_frame)
    refine wpAnyH_ready (rs := [12]) (by kernel_rfl) (by simp) ?_
    refine AllReadyH.cons rfl (fun K hK => ?_) AllReadyH.nil
    go_simp
    refine (fsame_c HC0.out HCF.out (HF0.out.kept hS) ((HA6.out.kept hS).fi.frv HSF.out.1 HSF.out.2) (by have := HSF.out.2; omega) (by have := HSF.out.2; omega)).mono ?_
    rintro e X8 ⟨rfl, hk8⟩
    rw [show sameF f f = true by simp [sameF]]
    refine hK.out _ _ (hS.trans hk8) (fun hS => ?_)
    clear hK K
    refine takeH (i := 13) (v := .bool true) (some 55) rfl rfl (by kernel_rfl) (by kernel_rfl) (by kernel_rfl) (fun _ _ _ h => h) (Or.inl ⟨by rfl, fun X hX => ?_⟩) hS ?_
    · go_simp
    (try go_frame)
    refine takeH (i := 14) (v := .bool true) (some 56) rfl rfl (by kernel_rfl) (by kernel_rfl) (by kernel_rfl) (fun _ _ _ h => h) (Or.inl ⟨by rfl, fun X hX => ?_⟩) hS ?_
    · go_simp
    (try go_frame)
    refine takeH (i := 15) (v := .slice (some ⟨g5, 0, none⟩) 2 c5) (some 57) rfl rfl (by kernel_rfl) (by kernel_rfl) (by kernel_rfl) (fun _ _ _ h => h) (Or.inl ⟨by rfl, fun X hX => ?_⟩) hS ?_
    · go_simp
    (try go_frame)
    refine takeH (i := 16) (v := .pointer (some ⟨g5, 24, none⟩)) (some 58) rfl rfl (by kernel_rfl) (by kernel_rfl) (by kernel_rfl) (fun _ _ _ h => h) (Or.inl ⟨by rfl, fun X hX => ?_⟩) hS ?_
    · go_simp
    (try go_frame)
    refine takeH (i := 17) (v := .agg C1) (some 59) rfl rfl (by kernel_rfl) (by kernel_rfl) (by kernel_rfl) (fun _ _ _ h => h) (Or.inl ⟨by rfl, fun X hX => ?_⟩) hS ?_
    · exact exec_load' rfl (p := .pointer (some ⟨g5, 24, none⟩)) (by rfl) (frC_load HC1.out (range_kept HR1.out hX (fun h => h)) HF1.out.t)
    (try go_frame)
    refine takeH (i := 18) (v := .agg CG) (some 60) rfl rfl (by kernel_rfl) (by kernel_rfl) (by kernel_rfl) (fun _ _ _ h => h) (Or.inl ⟨by rfl, fun X hX => ?_⟩) hS ?_
    · exact exec_load' rfl (p := .pointer (some ⟨pa + 1, 0, none⟩)) (by rfl) ((HB6.out.kept hX).load HCG.out)
    (try go_frame)
    refine wpAnyH_ready (rs := [19]) (by kernel_rfl) (by simp) ?_
    refine AllReadyH.cons rfl (fun K hK => ?_) AllReadyH.nil
    go_simp
    refine (fsame_c HC1.out HCG.out (HF1.out.kept hS) ((HB6.out.kept hS).fi.frv HSG.out.1 HSG.out.2) (by have := HSG.out.2; omega) (by have := HSG.out.2; omega)).mono ?_
    rintro e X9 ⟨rfl, hk9⟩
    rw [show sameF g g = true by simp [sameF]]
    refine hK.out _ _ (hS.trans hk9) (fun hS => ?_)
    clear hK K
    refine takeH (i := 20) (v := .bool true) (some 62) rfl rfl (by kernel_rfl) (by kernel_rfl) (by kernel_rfl) (fun _ _ _ h => h) (Or.inl ⟨by rfl, fun X hX => ?_⟩) hS ?_
    · go_simp
    (try go_frame)
    refine takeH (i := 21) (v := .bool true) (some 4) rfl rfl (by kernel_rfl) (by kernel_rfl) (by kernel_rfl) (fun _ _ _ h => h) (Or.inl ⟨by rfl, fun X hX => ?_⟩) hS ?_
    · go_simp
    (try go_frame)
    refine wpAnyH_done (by kernel_rfl) ?_ _
    have HM := Lib.hid (HA6.out.kept hS).m
    clear hS
    go_wp2_with fail
    go_ret
    exact ⟨rfl, HM.out.none_below⟩
set_option maxHeartbeats 8000000 in
set_option maxRecDepth 10000 in
theorem apart_law {w : World} {f g : Fr} {vd vr ud ur : Value} (hT : Tabs w) (hf : FrIn w f vd vr) (hg : FrIn w g ud ur) :
    Calls Tryd.prog 6 #[frV f vd vr, frV g ud ur] w fun e w' => e = .returned (.bool true) ∧ Below w.heap.size w w' := by
  have HM0 := Lib.hid (One.made2 w hf hg)
  have HCF0 := hf
  obtain ⟨CF, hCF⟩ : ∃ C, C = frC f vd vr := ⟨_, rfl⟩
  obtain ⟨CG, hCG⟩ : ∃ C, C = frC g ud ur := ⟨_, rfl⟩
  have HCF := Lib.hid hCF
  have HCG := Lib.hid hCG
  have HT := Lib.hid hT
  unfold frV
  rw [← hCF, ← hCG] at HM0 ⊢
  clear hT hf hg HCF0 hCF hCG
  go_enter Tryd.func6, Tryd.ntmps6
  have HA0 := Lib.hid HM0.out.1
  have HB0 := Lib.hid HM0.out.2
  clear HM0
  go_wp2_with fail
  refine (alive_any _ (HA0.out.m.tabs HT.out (fun h => h))).mono ?_
  rintro e w1 ⟨rfl, hM1⟩
  have HA1 := Lib.hid (HA0.out.kept hM1)
  have HB1 := Lib.hid (HB0.out.kept hM1)
  clear hM1 HA0 HB0
  generalize w.heap.size = pa at *
  go_wp2_with (first | ((with_reducible refine wpList_load_v 27 (.tmp 2) ?_ ?_ (.pointer (some ⟨pa, 0, none⟩)) (.agg CF) ?_ (HA1.out.load HCF.out) ?_); (· exact rfl); (· exact rfl); (· exact rfl)) | fail)
  refine (great_c HCF.out HA1.out.fi).mono ?_
  rintro e w2 ⟨rfl, hM2⟩
  have HA2 := Lib.hid (HA1.out.kept hM2)
  have HB2 := Lib.hid (HB1.out.kept hM2)
  clear hM2 HA1 HB1
  generalize hgf : greatB f = gf at *
  have HGF := Lib.hid hgf
  clear hgf
  cases gf
  case true =>
    go_wp2_with fail
    go_ret
    exact ⟨rfl, HA2.out.m.none_below⟩
  have HSF := Lib.hid (great_no HGF.out)
  clear HGF
  go_wp2_with (first | ((with_reducible refine wpList_load_v 27 (.tmp 3) ?_ ?_ (.pointer (some ⟨pa + 1, 0, none⟩)) (.agg CG) ?_ (HB2.out.load HCG.out) ?_); (· exact rfl); (· exact rfl); (· exact rfl)) | fail)
  refine (great_c HCG.out HB2.out.fi).mono ?_
  rintro e w3 ⟨rfl, hM3⟩
  have HA3 := Lib.hid (HA2.out.kept hM3)
  have HB3 := Lib.hid (HB2.out.kept hM3)
  clear hM3 HA2 HB2
  generalize hgg : greatB g = gg at *
  have HGG := Lib.hid hgg
  clear hgg
  cases gg
  case true =>
    go_wp2_with fail
    go_ret
    exact ⟨rfl, HA3.out.m.none_below⟩
  have HSG := Lib.hid (great_no HGG.out)
  clear HGG
  go_wp2_with (first | ((with_reducible refine wpList_load_v 27 (.tmp 2) ?_ ?_ (.pointer (some ⟨pa, 0, none⟩)) (.agg CF) ?_ (HA3.out.load HCF.out) ?_); (· exact rfl); (· exact rfl); (· exact rfl)) | fail)
  refine (right_c HCF.out (HA3.out.fi.frv HSF.out.1 HSF.out.2) (by have := HSF.out.2; omega) HA3.out.fi.k HA3.out.fi.g).mono ?_
  rintro e w4 ⟨rfl, hM4⟩
  have HA4 := Lib.hid (HA3.out.kept hM4)
  have HB4 := Lib.hid (HB3.out.kept hM4)
  clear hM4 HA3 HB3
  generalize hrf : rightF f = rf at *
  have HRF := Lib.hid hrf
  clear hrf
  cases rf
  case false =>
    go_wp2_with fail
    go_ret
    exact ⟨rfl, HA4.out.m.none_below⟩
  go_wp2_with (first | ((with_reducible refine wpList_load_v 27 (.tmp 3) ?_ ?_ (.pointer (some ⟨pa + 1, 0, none⟩)) (.agg CG) ?_ (HB4.out.load HCG.out) ?_); (· exact rfl); (· exact rfl); (· exact rfl)) | fail)
  refine (right_c HCG.out (HB4.out.fi.frv HSG.out.1 HSG.out.2) (by have := HSG.out.2; omega) HB4.out.fi.k HB4.out.fi.g).mono ?_
  rintro e w5 ⟨rfl, hM5⟩
  have HA5 := Lib.hid (HA4.out.kept hM5)
  have HB5 := Lib.hid (HB4.out.kept hM5)
  clear hM5 HA4 HB4
  generalize hrg : rightF g = rg at *
  have HRG := Lib.hid hrg
  clear hrg
  cases rg
  case false =>
    go_wp2_with fail
    go_ret
    exact ⟨rfl, HA5.out.m.none_below⟩
  obtain ⟨L1, hL1⟩ : ∃ x, fputL f = x := ⟨_, rfl⟩
  obtain ⟨n1, hn1⟩ : ∃ x, L1.length = x := ⟨_, rfl⟩
  obtain ⟨L2, hL2⟩ : ∃ x, fputL g = x := ⟨_, rfl⟩
  obtain ⟨n2, hn2⟩ : ∃ x, L2.length = x := ⟨_, rfl⟩
  have HL1 := Lib.hid hL1
  have HL2 := Lib.hid hL2
  have HN1 := Lib.hid hn1
  have HN2 := Lib.hid hn2
  have HZ1 : Hid ((n1 : Int) ≤ 2001) := by show _ ≤ _; rw [← hn1, ← hL1]; exact fput_len HRF.out HA5.out.fi.t
  have HZ2 : Hid ((n2 : Int) ≤ 2001) := by show _ ≤ _; rw [← hn2, ← hL2]; exact fput_len HRG.out HB5.out.fi.t
  obtain ⟨q, hq⟩ : ∃ q, sameF f g = q := ⟨_, rfl⟩
  have hpq := fput_inj HRF.out HA5.out.fi.t HRG.out HB5.out.fi.t
  rw [hL1, hL2, hq] at hpq
  have HPQ := Lib.hid hpq
  have HQ := Lib.hid hq
  clear hpq hq hL1 hL2 hn1 hn2
  go_wp2_with fail
  (try go_frame)
  refine wp_region_held_drew (S := fun X => Mod (fun _ => False) w5 X) (by kernel_rfl) (Mod.refl _ _).drew (fun hS => ?_)
  refine takeH (i := 0) (v := .agg CF) (some 23) rfl rfl (by kernel_rfl) (by kernel_rfl) (by kernel_rfl) (fun _ _ _ h => h) (Or.inl ⟨by rfl, fun X hX => ?_⟩) hS ?_
  · exact exec_load' rfl (p := .pointer (some ⟨pa, 0, none⟩)) (by rfl) ((HA5.out.kept hX).load HCF.out)
  (try go_frame)
  refine takeH (i := 2) (v := .agg CG) (some 25) rfl rfl (by kernel_rfl) (by kernel_rfl) (by kernel_rfl) (fun _ _ _ h => h) (Or.inl ⟨by rfl, fun X hX => ?_⟩) hS ?_
  · exact exec_load' rfl (p := .pointer (some ⟨pa + 1, 0, none⟩)) (by rfl) ((HB5.out.kept hX).load HCG.out)
  (try go_frame)
  refine takeH (i := 5) (v := .agg CF) (some 28) rfl rfl (by kernel_rfl) (by kernel_rfl) (by kernel_rfl) (fun _ _ _ h => h) (Or.inl ⟨by rfl, fun X hX => ?_⟩) hS ?_
  · exact exec_load' rfl (p := .pointer (some ⟨pa, 0, none⟩)) (by rfl) ((HA5.out.kept hX).load HCF.out)
  (try go_frame)
  refine takeH (i := 6) (v := .agg CG) (some 29) rfl rfl (by kernel_rfl) (by kernel_rfl) (by kernel_rfl) (fun _ _ _ h => h) (Or.inl ⟨by rfl, fun X hX => ?_⟩) hS ?_
  · exact exec_load' rfl (p := .pointer (some ⟨pa + 1, 0, none⟩)) (by rfl) ((HB5.out.kept hX).load HCG.out)
  (try go_frame)
  refine wpAnyH_ready (rs := [1]) (by kernel_rfl) (by simp) ?_
  refine AllReadyH.cons rfl (fun K hK => ?_) AllReadyH.nil
  go_simp
  refine (fput_c HCF.out ((HA5.out.kept hS).m.tabs HT.out (fun h => h)) ((HA5.out.kept hS).fi.frv HSF.out.1 HSF.out.2) (by have := HSF.out.2; omega) (HA5.out.kept hS).fi.k (HA5.out.kept hS).fi.g HL1.out HN1.out).mono ?_
  rintro e X1 ⟨a1, c1, rfl, ho1, hk1⟩
  have hb1 := ho1.byts
  refine hK.out _ _ (hS.trans hk1) (fun hS => ?_)
  clear hK K
  refine wpAnyH_ready (rs := [3]) (by kernel_rfl) (by simp) ?_
  refine AllReadyH.cons rfl (fun K hK => ?_) AllReadyH.nil
  go_simp
  refine (fput_c HCG.out ((HB5.out.kept hS).m.tabs HT.out (fun h => h)) ((HB5.out.kept hS).fi.frv HSG.out.1 HSG.out.2) (by have := HSG.out.2; omega) (HB5.out.kept hS).fi.k (HB5.out.kept hS).fi.g HL2.out HN2.out).mono ?_
  rintro e X3 ⟨a3, c3, rfl, ho3, hk3⟩
  have hb3 := byts_kept hb1 hk3
  refine hK.out _ _ (hS.trans hk3) (fun hS => ?_)
  clear hK K
  refine wpAnyH_ready (rs := [4]) (by kernel_rfl) (by simp) ?_
  refine AllReadyH.cons rfl (fun K hK => ?_) AllReadyH.nil
  go_simp
  refine (same_c hb3 ho3.byts).mono ?_
  rintro e X4 ⟨rfl, hk4⟩
  rw [HPQ.out]
  refine hK.out _ _ (hS.trans hk4) (fun hS => ?_)
  clear hK K
  refine wpAnyH_ready (rs := [7]) (by kernel_rfl) (by simp) ?_
  refine AllReadyH.cons rfl (fun K hK => ?_) AllReadyH.nil
  go_simp
  refine (fsame_c HCF.out HCG.out ((HA5.out.kept hS).fi.frv HSF.out.1 HSF.out.2) ((HB5.out.kept hS).fi.frv HSG.out.1 HSG.out.2) (by have := HSF.out.2; omega) (by have := HSG.out.2; omega)).mono ?_
  rintro e X5 ⟨rfl, hk5⟩
  rw [HQ.out]
  refine hK.out _ _ (hS.trans hk5) (fun hS => ?_)
  clear hK K
  refine takeH (i := 8) (v := .bool true) (some 31) rfl rfl (by kernel_rfl) (by kernel_rfl) (by kernel_rfl) (fun _ _ _ h => h) (Or.inl ⟨by rfl, fun X hX => ?_⟩) hS ?_
  · go_simp
  (try go_frame)
  refine takeH (i := 9) (v := .bool true) (some 4) rfl rfl (by kernel_rfl) (by kernel_rfl) (by kernel_rfl) (fun _ _ _ h => h) (Or.inl ⟨by rfl, fun X hX => ?_⟩) hS ?_
  · go_simp
  (try go_frame)
  refine wpAnyH_done (by kernel_rfl) ?_ _
  have HM := Lib.hid (HA5.out.kept hS).m
  clear hS
  go_wp2_with fail
  go_ret
  exact ⟨rfl, HM.out.none_below⟩
set_option maxHeartbeats 8000000 in
set_option maxRecDepth 10000 in
theorem cut_law {w : World} {f : Fr} {vd vr : Value} {z : Int} (hT : Tabs w) (hf : FrIn w f vd vr) (hz : 0 ≤ z ∧ z ≤ 65535) :
    Calls Tryd.prog 5 #[frV f vd vr, .int .u16 z] w fun e w' => e = .returned (.bool true) ∧ Below w.heap.size w w' := by
  have HM0 := Lib.hid (One.made w hf)
  obtain ⟨CF, hCF⟩ : ∃ C, C = frC f vd vr := ⟨_, rfl⟩
  have HCF := Lib.hid hCF
  have HT := Lib.hid hT
  unfold frV
  rw [← hCF] at HM0 ⊢
  clear hT hf hCF
  go_enter Tryd.func5, Tryd.ntmps5
  go_wp2_with fail
  refine (alive_any _ (HM0.out.m.tabs HT.out (fun h => h))).mono ?_
  rintro e w1 ⟨rfl, hM1⟩
  have HA1 := Lib.hid (HM0.out.kept hM1)
  clear hM1 HM0
  generalize w.heap.size = pa at *
  go_wp2_with (first | ((with_reducible refine wpList_load_v 27 (.tmp 2) ?_ ?_ (.pointer (some ⟨pa, 0, none⟩)) (.agg CF) ?_ (HA1.out.load HCF.out) ?_); (· exact rfl); (· exact rfl); (· exact rfl)) | fail)
  refine (great_c HCF.out HA1.out.fi).mono ?_
  rintro e w2 ⟨rfl, hM2⟩
  have HA2 := Lib.hid (HA1.out.kept hM2)
  clear hM2 HA1
  generalize hgf : greatB f = gf at *
  have HGF := Lib.hid hgf
  clear hgf
  cases gf
  case true =>
    go_wp2_with fail
    go_ret
    exact ⟨rfl, HA2.out.m.none_below⟩
  have HSF := Lib.hid (great_no HGF.out)
  clear HGF
  go_wp2_with (first | ((with_reducible refine wpList_load_v 27 (.tmp 2) ?_ ?_ (.pointer (some ⟨pa, 0, none⟩)) (.agg CF) ?_ (HA2.out.load HCF.out) ?_); (· exact rfl); (· exact rfl); (· exact rfl)) | fail)
  refine (right_c HCF.out (HA2.out.fi.frv HSF.out.1 HSF.out.2) (by have := HSF.out.2; omega) HA2.out.fi.k HA2.out.fi.g).mono ?_
  rintro e w4 ⟨rfl, hM4⟩
  have HA4 := Lib.hid (HA2.out.kept hM4)
  clear hM4 HA2
  generalize hrf : rightF f = rf at *
  have HRF := Lib.hid hrf
  clear hrf
  cases rf
  case false =>
    go_wp2_with fail
    go_ret
    exact ⟨rfl, HA4.out.m.none_below⟩
  have c0 := HA4.out.a.cells.1
  obtain ⟨kf, hkf⟩ : ∃ k, f.k = k := ⟨_, rfl⟩
  rw [hkf] at c0
  have HKK := Lib.hid hkf
  clear hkf
  by_cases hk0 : kf = 0
  case pos =>
    subst hk0
    go_wp2_with fail
    go_ret
    exact ⟨rfl, HA4.out.m.none_below⟩
  have hk1 : (kf == 0) = false := by simpa using hk0
  have HKN : Hid (f.k ≠ 0) := by show _ ≠ _; rw [HKK.out]; exact hk0
  obtain ⟨L1, hL1⟩ : ∃ x, fputL f = x := ⟨_, rfl⟩
  obtain ⟨n1, hn1⟩ : ∃ x, L1.length = x := ⟨_, rfl⟩
  have HL1 := Lib.hid hL1
  have HN1 := Lib.hid hn1
  have hz1 : (n1 : Int) ≤ 2001 := by rw [← hn1, ← hL1]; exact fput_len HRF.out HA4.out.fi.t
  have hz0 : (1 : Int) ≤ (n1 : Int) := by
    have := List.length_pos_iff.2 (put_ne HRF.out)
    rw [← hn1, ← hL1]
    omega
  clear hk0 hL1 hn1 HKK
  go_wp2_with (first | ((with_reducible refine wpList_load_v 27 (.tmp 2) ?_ ?_ (.pointer (some ⟨pa, 0, none⟩)) (.agg CF) ?_ (HA4.out.load HCF.out) ?_); (· exact rfl); (· exact rfl); (· exact rfl)) | fail)
  clear c0
  refine (fput_c HCF.out (HA4.out.m.tabs HT.out (fun h => h)) (HA4.out.fi.frv HSF.out.1 HSF.out.2) (by have := HSF.out.2; omega) HA4.out.fi.k HA4.out.fi.g HL1.out HN1.out).mono ?_
  rintro e w5 ⟨a5, c5, rfl, ho5, hM5⟩
  have HA5 := Lib.hid (HA4.out.kept hM5)
  have HB5 := Lib.hid ho5.byts
  have hnc : (n1 : Int) ≤ c5 := by
    obtain ⟨_, a', c', he, h2, _⟩ := ho5.byts
    simp only [Value.slice.injEq] at he
    obtain ⟨-, h1, h3⟩ := he
    rw [← h1, ← h3] at h2
    omega
  clear hM5 ho5 HA4
  obtain ⟨m, hm⟩ : ∃ m : Nat, (m : Int) = z.tmod n1 := ⟨(z.tmod n1).toNat, by
    have := Int.tmod_nonneg (n1 : Int) hz.1
    omega⟩
  have hm1 : (m : Int) < n1 := by rw [hm]; exact Int.tmod_lt_of_pos z (by omega)
  have hw1 : IntKind.i64.wrap z = z := IntWalk.i64_in _ (by omega)
  have hw2 : IntKind.i64.wrap (z.tmod n1) = (m : Int) := by rw [← hm]; exact IntWalk.i64_in _ (by omega)
  have HBM := Lib.hid (byts_take HB5.out (show m ≤ n1 by omega))
  have HCP : Hid ((parse66 (L1.take m)).1 = [] ∧ ((parse66 (L1.take m)).2 = 2 ∨ (parse66 (L1.take m)).2 = 3)) := by
    refine cut_parse (f := f) HRF.out HA5.out.fi.t HKN.out (r := L1.drop m) (fun e => ?_) (by rw [HL1.out, List.take_append_drop])
    have := congrArg List.length e
    rw [List.length_drop, HN1.out] at this
    simp at this
    omega
  obtain ⟨l2, z2, hp⟩ : ∃ l z, parse66 (L1.take m) = (l, z) := ⟨_, _, rfl⟩
  rw [hp] at HCP
  have HP := Lib.hid hp
  clear hp
  have h20 : l2 = [] := HCP.out.1
  have hz2 : z2 = 2 ∨ z2 = 3 := HCP.out.2
  subst h20
  clear HCP HB5
  have hme : z % (n1 : Int) = (m : Int) := by rw [hm, Int.tmod_eq_emod_of_nonneg hz.1]
  have hin : 0 ≤ z % (n1 : Int) ∧ z % (n1 : Int) ≤ c5 := by rw [hme]; omega
  have HME := Lib.hid hme
  clear hme
  go_wp2_with fail
  have hme := HME.out
  clear hin HME
  rw [hme, Int.toNat_natCast]
  refine (parse_c 0 HBM.out (by have := HN1.out; rw [List.length_take]; omega) HP.out rfl).mono ?_
  rintro e w6 ⟨a6, c6, rfl, _, hM6⟩
  have HM6 := Lib.hid (HA5.out.kept hM6).m
  clear hM6 HA5 HBM HP hme hm hm1 hw2
  rcases hz2 with rfl | rfl
  · go_wp2_with fail
    go_ret
    exact ⟨rfl, HM6.out.none_below⟩
  · go_wp2_with fail
    go_ret
    exact ⟨rfl, HM6.out.none_below⟩
end Go.Proofs.YteegonadodmeeaaDoor
