/- The walk of the law that what is put is read again, and what is packed unpacked. (printed by genfbj.py) -/
import Derived.Test.YtcnpiclpdgkngaaDoorFbD
import Derived.Test.YtcnpiclpdgkngaaDoorFbF
import Derived.Test.YtcnpiclpdgkngaaDoorFbI
namespace Go.Proofs.YtcnpiclpdgkngaaDoor
open Go.RowKit

theorem byts_take {w : World} {a : Option Addr} {n cap k : Nat} {l : List UInt8} (h : Byts w (.slice a n cap) l) (hk : k ≤ n) : Byts w (.slice a k cap) (l.take k) := by
  obtain ⟨h1, a', cap', he, h2, h3, h4, h5⟩ := h
  simp only [Value.slice.injEq] at he
  obtain ⟨rfl, rfl, rfl⟩ := he
  have hl : l.length = l.length := rfl
  have e : (l.take k).length = k := by rw [List.length_take]; omega
  refine ⟨by simp, a, cap, by rw [e], by rw [e]; omega, h3, h4, fun j u hu => h5 j u ?_⟩
  rw [List.map_take, List.getElem?_take] at hu
  split at hu
  · exact hu
  · cases hu
set_option maxHeartbeats 8000000 in
set_option maxRecDepth 10000 in
theorem back_any {w : World} {f : HF} {vs vd vm va : Value} {lm : List UInt8} {l : List Fd} (hT : Tabs w) (hU : UTabs w) (hs : SetV w vs f.st) (hd : Byts w vd f.d) (hm : Byts w vm lm) (hl : FldV w va l) (hb : FdsMem l) :
    Calls Tryd.prog 5 #[hfA f vs vd, vm, va] w fun e w' => e = .returned (.bool true) ∧ Below w.heap.size w w' := by
  obtain ⟨sa, sc, rfl, _⟩ := set_val hs
  obtain ⟨da, dc, rfl, _⟩ := byts_val hd
  obtain ⟨ma, mc, rfl, _⟩ := byts_val hm
  obtain ⟨la, lc, rfl, _⟩ := fld_val hl
  unfold hfA
  obtain ⟨ns, hns⟩ : ∃ n, f.st.length = n := ⟨_, rfl⟩
  obtain ⟨nd, hnd⟩ : ∃ n, f.d.length = n := ⟨_, rfl⟩
  obtain ⟨nm, hnm⟩ : ∃ n, n = lm.length := ⟨_, rfl⟩
  obtain ⟨nl, hnl⟩ : ∃ n, n = l.length := ⟨_, rfl⟩
  obtain ⟨i, hi⟩ : ∃ n : Int, (f.id : Int) = n := ⟨_, rfl⟩
  obtain ⟨k, hk⟩ : ∃ n : Int, f.k = n := ⟨_, rfl⟩
  rw [hns] at hs ⊢
  rw [hnd] at hd ⊢
  rw [← hnm] at hm ⊢
  rw [← hnl] at hl ⊢
  rw [hi, hk]
  have hM00 : Mod (fun _ => False) w (w.alloc (.cells #[.int .i64 k, .int .u64 i, .slice sa ns sc, .slice da nd dc] 26)) := (Mod.refl _ w).alloc _
  have HM0 := Lib.hid hM00
  have HT := Lib.hid (fun (X : World) (h : Mod (fun _ => False) (w.alloc (.cells #[.int .i64 k, .int .u64 i, .slice sa ns sc, .slice da nd dc] 26)) X) => (hM00.trans h).tabs hT (fun h => h))
  have HU := Lib.hid (fun (X : World) (h : Mod (fun _ => False) (w.alloc (.cells #[.int .i64 k, .int .u64 i, .slice sa ns sc, .slice da nd dc] 26)) X) => hU.kept (hM00.trans h))
  have HLX := Lib.hid (fun (X : World) (h : Mod (fun _ => False) (w.alloc (.cells #[.int .i64 k, .int .u64 i, .slice sa ns sc, .slice da nd dc] 26)) X) => hl.kept (hM00.trans h))
  have HMX := Lib.hid (fun (X : World) (h : Mod (fun _ => False) (w.alloc (.cells #[.int .i64 k, .int .u64 i, .slice sa ns sc, .slice da nd dc] 26)) X) => byts_kept hm (hM00.trans h))
  have HBX := Lib.hid (fun (X : World) (h : Mod (fun _ => False) (w.alloc (.cells #[.int .i64 k, .int .u64 i, .slice sa ns sc, .slice da nd dc] 26)) X) => h.blk (Blk.new w #[.int .i64 k, .int .u64 i, .slice sa ns sc, .slice da nd dc] 26) (fun h => h))
  have HSX := Lib.hid (fun (X : World) (h : Mod (fun _ => False) (w.alloc (.cells #[.int .i64 k, .int .u64 i, .slice sa ns sc, .slice da nd dc] 26)) X) => hs.kept (hM00.trans h))
  have HDX := Lib.hid (fun (X : World) (h : Mod (fun _ => False) (w.alloc (.cells #[.int .i64 k, .int .u64 i, .slice sa ns sc, .slice da nd dc] 26)) X) => byts_kept hd (hM00.trans h))
  have HG := Lib.hid (fun (X : World) (h : Mod (fun _ => False) (w.alloc (.cells #[.int .i64 k, .int .u64 i, .slice sa ns sc, .slice da nd dc] 26)) X) => great_any (hl.kept (hM00.trans h)) hb)
  have HRG : Hid (∀ X, SetV X (.slice sa ns sc) f.st → Byts X (.slice da nd dc) f.d → Calls Tryd.prog 11 #[.agg #[.int .i64 k, .int .u64 i, .slice sa ns sc, .slice da nd dc]] X fun e w' => e = .returned (.bool (greatH f)) ∧ Mod (fun _ => False) X w') := by
    intro X h1 h2
    have := refgreat_any h1 h2
    unfold hfA at this
    rw [hi, hk] at this
    exact this
  have HAL := Lib.hid (alive_any _ (hM00.tabs hT (fun h => h)) (hU.kept hM00))
  have HNS := Lib.hid hns
  have HND := Lib.hid hnd
  have HNM := Lib.hid hnm
  have HNL := Lib.hid hnl
  have HI := Lib.hid hi
  have HK := Lib.hid hk
  have HSM : Hid ((f.d.length : Int) ≤ 140737488355328 → (f.st.length : Int) ≤ 100000 → ∀ X, Mod (fun _ => False) (w.alloc (.cells #[.int .i64 k, .int .u64 i, .slice sa ns sc, .slice da nd dc] 26)) X → HFV X f (.slice sa ns sc) (.slice da nd dc)) := fun h1 h2 X h => ⟨hs.kept (hM00.trans h), byts_kept hd (hM00.trans h), h2, h1⟩
  clear hT hU hs hd hm hl hb hns hnd hnm hnl hi hk hM00
  go_enter Tryd.func5, Tryd.ntmps5
  go_wp2_with fail
  refine (HAL.out).mono ?_
  rintro e w1 ⟨rfl, hM1⟩
  have HM1 := Lib.hid hM1
  clear hM1 HAL
  have c0 := (HBX.out _ HM1.out).cellAt 0 rfl
  have c1 := (HBX.out _ HM1.out).cellAt 1 rfl
  have c2 := (HBX.out _ HM1.out).cellAt 2 rfl
  have c3 := (HBX.out _ HM1.out).cellAt 3 rfl
  go_wp2_with fail
  refine (HRG.out _ (HSX.out _ HM1.out) (HDX.out _ HM1.out)).mono ?_
  rintro e w2 ⟨rfl, hM2⟩
  have HM2 := Lib.hid (HM1.out.trans hM2)
  clear hM2 HM1 HRG
  generalize hgr : greatH f = gr at *
  cases gr
  case true =>
    go_wp2_with fail
    go_ret
    exact ⟨rfl, (HM0.out.trans HM2.out).none_below⟩
  have hgs : (f.d.length : Int) ≤ 1500 ∧ (f.st.length : Int) ≤ 40 := by
    unfold greatH at hgr
    simp only [Bool.or_eq_false_iff, decide_eq_false_iff_not] at hgr
    omega
  have HFX := Lib.hid (HSM.out (by omega) (by omega))
  have hns2 : (ns : Int) ≤ 40 := by have := HNS.out; omega
  clear hgr hgs HSM
  by_cases hm100 : (nm : Int) ≤ 100
  case neg =>
    go_wp2_with fail
    go_ret
    exact ⟨rfl, (HM0.out.trans HM2.out).none_below⟩
  go_wp2_with fail
  refine (HG.out _ HM2.out).mono ?_
  rintro e w3 ⟨g2, rfl, hg2, hM3⟩
  have HM3 := Lib.hid (HM2.out.trans hM3)
  have HG2 := Lib.hid hg2
  clear hM3 HM2 HG hg2 c0 c1 c2 c3
  cases g2
  case true =>
    go_wp2_with fail
    go_ret
    exact ⟨rfl, (HM0.out.trans HM3.out).none_below⟩
  have HQ : Hid (FdsOk l ∧ (l.length : Int) ≤ 200) := HG2.out rfl
  clear HG2
  have c0 := (HBX.out _ HM3.out).cellAt 0 rfl
  have c1 := (HBX.out _ HM3.out).cellAt 1 rfl
  have c2 := (HBX.out _ HM3.out).cellAt 2 rfl
  have c3 := (HBX.out _ HM3.out).cellAt 3 rfl
  go_wp2_with fail
  refine (right_c (HFX.out _ HM3.out) HK.out HI.out).mono ?_
  rintro e w4 ⟨rfl, hM4⟩
  have HM4 := Lib.hid (HM3.out.trans hM4)
  clear hM4 HM3 c0 c1 c2 c3
  generalize hR : rightH f = R at *
  cases R
  case false =>
    clear hR
    have HMx := HM4
    clear HM4
    go_wp2_with fail
    refine (flds_any (HU.out _ HMx.out) (HLX.out _ HMx.out) (by have := HQ.out.2; omega) HQ.out.1).mono ?_
    rintro e y1 ⟨rfl, hM⟩
    have HMy := Lib.hid (HMx.out.trans hM)
    clear hM HMx
    generalize hfl : fieldsB l = fl at *
    cases fl
    · have hp : packL l = [] := by unfold packL; rw [if_neg (by simp [hfl])]
      have HP := Lib.hid hp
      clear hp hfl
      go_wp2_with fail
      refine (pack_c (HT.out _ HMy.out) (HU.out _ HMy.out) (HLX.out _ HMy.out) (by have := HQ.out.2; omega) HQ.out.1 HP.out rfl).mono ?_
      rintro e y2 ⟨a2, c2, rfl, _, hM⟩
      have HMz := Lib.hid (HMy.out.trans hM)
      clear hM HMy
      go_wp2_with fail
      go_ret
      exact ⟨rfl, (HM0.out.trans HMz.out).none_below⟩
    · have HUP := Lib.hid (unpack_pack hfl)
      have HPZ := Lib.hid (pack_size hfl)
      clear hfl
      obtain ⟨P, hP⟩ : ∃ P, packL l = P := ⟨_, rfl⟩
      rw [hP] at HUP HPZ
      have HP := Lib.hid hP
      clear hP
      obtain ⟨pz, hpz⟩ : ∃ n, P.length = n := ⟨_, rfl⟩
      have HPL := Lib.hid hpz
      clear hpz
      go_wp2_with fail
      refine (pack_c (HT.out _ HMy.out) (HU.out _ HMy.out) (HLX.out _ HMy.out) (by have := HQ.out.2; omega) HQ.out.1 HP.out HPL.out).mono ?_
      rintro e y2 ⟨a2, c2, rfl, ho, hM⟩
      have HMz := Lib.hid (HMy.out.trans hM)
      have HO := Lib.hid ho.byts
      clear hM HMy ho
      go_wp2_with fail
      refine (unpack_c nl HNL.out.symm (HU.out _ HMz.out) HO.out (by have := HPZ.out; omega) HUP.out).mono ?_
      rintro e y3 ⟨a3, c3, rfl, hf, hM⟩
      have HMv := Lib.hid (HMz.out.trans hM)
      have HF := Lib.hid hf
      clear hM HMz hf HO
      go_wp2_with fail
      refine (list_any HF.out (HLX.out _ HMv.out) (by have := HQ.out.2; omega)).mono ?_
      rintro e y4 ⟨rfl, hM⟩
      have HMu := Lib.hid (HMv.out.trans hM)
      clear hM HMv
      go_wp2_with fail
      go_ret
      exact ⟨rfl, (HM0.out.trans HMu.out).none_below⟩
  have HNX := Lib.hid (put_next hR lm)
  have HCU := Lib.hid (put_cut hR)
  have HPL := Lib.hid (hput_len hR)
  clear hR
  obtain ⟨L, hL⟩ : ∃ L, hfputL f = L := ⟨_, rfl⟩
  rw [hL] at HNX HCU HPL
  have HL := Lib.hid hL
  clear hL
  obtain ⟨p, hp⟩ : ∃ n, L.length = n := ⟨_, rfl⟩
  rw [hp] at HNX HCU HPL
  have HLN := Lib.hid hp
  clear hp
  have hp1 : (2 : Int) ≤ p := by have := HPL.out; omega
  have hp2 : (p : Int) ≤ 1016 := by have := HPL.out; omega
  obtain ⟨q, hq⟩ : ∃ q, q = p + nm := ⟨_, rfl⟩
  have hq2 : (q : Int) ≤ 1200 := by omega
  have HQN := Lib.hid hq
  clear hq
  have c0 := (HBX.out _ HM4.out).cellAt 0 rfl
  have c1 := (HBX.out _ HM4.out).cellAt 1 rfl
  have c2 := (HBX.out _ HM4.out).cellAt 2 rfl
  have c3 := (HBX.out _ HM4.out).cellAt 3 rfl
  go_wp2_with fail
  refine (hput_c (HT.out _ HM4.out) (HFX.out _ HM4.out) HL.out HLN.out HK.out HI.out).mono ?_
  rintro e w5 ⟨a5, c5, rfl, ho5, hM5⟩
  obtain ⟨y1, y2, hv5, hc5, y3⟩ := byts_val ho5.byts
  simp only [Value.slice.injEq] at hv5
  obtain ⟨y4, y5, rfl⟩ := hv5
  have hpc : (p : Int) ≤ c5 := by have := HLN.out; omega
  have HM5 := Lib.hid (HM4.out.trans hM5)
  have HO5 := Lib.hid ho5.byts
  clear hM5 HM4 ho5 c0 c1 c2 c3 hc5 y3 y4 y5
  have hA6 : Mod (fun _ => False) w5 (w5.alloc (.cells #[] 5)) := (Mod.refl _ _).alloc _
  have HA6 := Lib.hid hA6
  have HW6 := Lib.hid (own_lit w5 [] #[] 0 w5.heap.size rfl rfl (by decide) (Nat.le_refl _))
  have HP6 := Lib.hid (byts_kept HO5.out hA6)
  have HB6 := Lib.hid (HMX.out _ (HM5.out.trans hA6))
  obtain ⟨L2, hL2⟩ : ∃ x, x = L ++ lm := ⟨_, rfl⟩
  rw [← hL2] at HNX
  have HL2 := Lib.hid hL2
  clear hA6 hL2
  go_wp2_with (first
    | ((with_reducible refine wpList_append_b ?_ (.tmp 34) (.tmp 35) ?_ (.slice (some ⟨w5.heap.size, 0, none⟩) 0 0) [] w5.heap.size p ?_ HW6.out (.slice a5 p c5) L ?_ HP6.out L ?_ ?_ ?_ HA6.out.size ?_); (· exact rfl); (· exact rfl); (· exact rfl); (· exact rfl); (· simp); (· have := HLN.out; simp; omega); (· omega); intro a7 c7 w7 hA7; have HA7 := Lib.hid (hA7.modF HA6.out (Nat.le_refl _)); have HO7 := Lib.hid hA7.own; have HX7 := Lib.hid (HMX.out _ (HM5.out.trans HA7.out)); clear hA7)
    | ((with_reducible refine wpList_append_b ?_ (.tmp 36) (.tmp 37) ?_ (.slice a7 p c7) L w5.heap.size q ?_ HO7.out (.slice ma nm mc) lm ?_ HX7.out L2 HL2.out ?_ ?_ HA7.out.size ?_); (· exact rfl); (· exact rfl); (· exact rfl); (· exact rfl); (· have := HLN.out; have := HNM.out; have := HQN.out; omega); (· omega); intro a8 c8 w8 hA8; have HA8 := Lib.hid (hA8.modF HA7.out (Nat.le_refl _)); have HO8 := Lib.hid hA8.byts; clear hA8)
    | fail)
  have HL5 : Hid ((L2.length : Int) ≤ 100000) := by show _ ≤ _; rw [HL2.out, List.length_append]; have := HLN.out; have := HNM.out; omega
  have HM8 := Lib.hid (HM5.out.trans HA8.out)
  have HP8 := Lib.hid (byts_kept HO5.out HA8.out)
  clear HA6 HW6 HP6 HB6 HA7 HO7 HX7 HM5 HO5 HA8
  refine (next_c k i (p : Int) ns nd HO8.out HL5.out HNX.out HK.out HI.out rfl HNS.out HND.out).mono ?_
  rintro e w9 ⟨sa9, sc9, da9, dc9, rfl, hv9, hM9⟩
  have hk10 : Mod (fun _ => False) w9 (w9.alloc (.cells #[.int .i64 k, .int .u64 i, .slice sa9 ns sc9, .slice da9 nd dc9] 26)) := (Mod.refl _ _).alloc _
  have HV10 := Lib.hid (hv9.kept hk10)
  have HM10 := Lib.hid ((HM8.out.trans hM9).trans hk10)
  have HP10 := Lib.hid (byts_kept (byts_kept HP8.out hM9) hk10)
  clear hv9 hM9 hk10 HM8 HP8 HO8
  have c0 := (HBX.out _ HM10.out).cellAt 0 rfl
  have c1 := (HBX.out _ HM10.out).cellAt 1 rfl
  have c2 := (HBX.out _ HM10.out).cellAt 2 rfl
  have c3 := (HBX.out _ HM10.out).cellAt 3 rfl
  go_wp2_with fail
  refine (hsame_c (HFX.out _ HM10.out) HV10.out HK.out HI.out HK.out HI.out).mono ?_
  rintro e w11 ⟨rfl, hM11⟩
  rw [sameHF_self]
  have HM11 := Lib.hid (HM10.out.trans hM11)
  have HP11 := Lib.hid (byts_kept HP10.out hM11)
  clear hM11 HM10 HP10 HV10 c0 c1 c2 c3
  obtain ⟨r, hr⟩ : ∃ r : Nat, p = r + 1 := ⟨p - 1, by omega⟩
  have hr1 : (p : Int) - 1 = r := by omega
  have hr2 : (1 : Int) ≤ r := by omega
  have HRC : Hid (∀ X, Byts X (.slice a5 p c5) L → Byts X (.slice a5 r c5) (L.take (p - 1))) := fun X h => by have := byts_take h (k := r) (by omega); rw [show p - 1 = r by omega]; exact this
  clear hr
  have hw : IntKind.i64.wrap ((p : Int) - 1) = r := by rw [hr1]; exact IntWalk.i64_in _ (by omega)
  go_wp2_with fail
  refine (next_c 0 0 0 0 0 (HRC.out _ HP11.out) (by rw [List.length_take]; have := HLN.out; omega) HCU.out rfl rfl rfl rfl rfl).mono ?_
  rintro e w12 ⟨sa12, sc12, da12, dc12, rfl, _, hM12⟩
  have hk13 : Mod (fun _ => False) w12 (w12.alloc (.cells #[.int .i64 0, .int .u64 0, .slice sa12 0 sc12, .slice da12 0 dc12] 26)) := (Mod.refl _ _).alloc _
  have HMx := Lib.hid ((HM11.out.trans hM12).trans hk13)
  clear hM12 hk13 HM11 HP11 HRC hw hr1 hr2
  go_wp2_with fail
  refine (flds_any (HU.out _ HMx.out) (HLX.out _ HMx.out) (by have := HQ.out.2; omega) HQ.out.1).mono ?_
  rintro e y1 ⟨rfl, hM⟩
  have HMy := Lib.hid (HMx.out.trans hM)
  clear hM HMx
  generalize hfl : fieldsB l = fl at *
  cases fl
  · have hp : packL l = [] := by unfold packL; rw [if_neg (by simp [hfl])]
    have HP := Lib.hid hp
    clear hp hfl
    go_wp2_with fail
    refine (pack_c (HT.out _ HMy.out) (HU.out _ HMy.out) (HLX.out _ HMy.out) (by have := HQ.out.2; omega) HQ.out.1 HP.out rfl).mono ?_
    rintro e y2 ⟨a2, c2, rfl, _, hM⟩
    have HMz := Lib.hid (HMy.out.trans hM)
    clear hM HMy
    go_wp2_with fail
    go_ret
    exact ⟨rfl, (HM0.out.trans HMz.out).none_below⟩
  · have HUP := Lib.hid (unpack_pack hfl)
    have HPZ := Lib.hid (pack_size hfl)
    clear hfl
    obtain ⟨P, hP⟩ : ∃ P, packL l = P := ⟨_, rfl⟩
    rw [hP] at HUP HPZ
    have HP := Lib.hid hP
    clear hP
    obtain ⟨pz, hpz⟩ : ∃ n, P.length = n := ⟨_, rfl⟩
    have HPL := Lib.hid hpz
    clear hpz
    go_wp2_with fail
    refine (pack_c (HT.out _ HMy.out) (HU.out _ HMy.out) (HLX.out _ HMy.out) (by have := HQ.out.2; omega) HQ.out.1 HP.out HPL.out).mono ?_
    rintro e y2 ⟨a2, c2, rfl, ho, hM⟩
    have HMz := Lib.hid (HMy.out.trans hM)
    have HO := Lib.hid ho.byts
    clear hM HMy ho
    go_wp2_with fail
    refine (unpack_c nl HNL.out.symm (HU.out _ HMz.out) HO.out (by have := HPZ.out; omega) HUP.out).mono ?_
    rintro e y3 ⟨a3, c3, rfl, hf, hM⟩
    have HMv := Lib.hid (HMz.out.trans hM)
    have HF := Lib.hid hf
    clear hM HMz hf HO
    go_wp2_with fail
    refine (list_any HF.out (HLX.out _ HMv.out) (by have := HQ.out.2; omega)).mono ?_
    rintro e y4 ⟨rfl, hM⟩
    have HMu := Lib.hid (HMv.out.trans hM)
    clear hM HMv
    go_wp2_with fail
    go_ret
    exact ⟨rfl, (HM0.out.trans HMu.out).none_below⟩
end Go.Proofs.YtcnpiclpdgkngaaDoor
