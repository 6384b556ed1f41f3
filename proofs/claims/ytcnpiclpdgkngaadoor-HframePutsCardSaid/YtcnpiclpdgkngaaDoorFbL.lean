/- The document's Put of a frame. (printed by genfbl.py) -/
import Derived.Test.YtcnpiclpdgkngaaDoorFbK
import Derived.Test.YtcnpiclpdgkngaaDoorFaH
import Derived.Test.YtcnpiclpdgkngaaDoorFbC
import Derived.Test.YtcnpiclpdgkngaaDoorAppB
import Derived.Deep.RegionHeld3
namespace Go.Proofs.YtcnpiclpdgkngaaDoor
open Go.RowKit

theorem base_of {f : HF} (h : rightH f = true) : (isId f.k = true → putL f.id ++ setL f.st = bodyL f) ∧ (isId f.k = false → f.d ++ setL f.st = bodyL f) ∧ f.st.length ≤ 16 ∧ f.d.length ≤ 1000 := by
  have hk := right_kinds h
  by_cases h1 : f.k = 0 ∨ f.k = 1
  · rw [right_data h1] at h
    simp only [Bool.and_eq_true, decide_eq_true_eq] at h
    have e : f.st = [] := List.eq_nil_of_length_eq_zero h.1.2
    have ei : isId f.k = false := by unfold isId; rcases h1 with h1 | h1 <;> rw [h1] <;> rfl
    refine ⟨fun h' => (by rw [ei] at h'; cases h'), fun _ => ?_, by omega, h.2⟩
    unfold bodyL
    rw [if_pos (by unfold isData; simpa using h1), e]
    simp [setL]
  by_cases h2 : f.k = 4
  · rw [right_set h2] at h
    simp only [Bool.and_eq_true, decide_eq_true_eq] at h
    have e : f.d = [] := List.eq_nil_of_length_eq_zero h.1.2
    have hs := settings_ok h.2
    refine ⟨fun h' => (by rw [h2] at h'; cases h'), fun _ => ?_, hs.2, by omega⟩
    unfold bodyL
    rw [if_neg (by rw [h2]; decide), if_pos h2, e]
    simp
  · have h3 : f.k = 3 ∨ f.k = 7 ∨ f.k = 13 := by omega
    rw [right_id h3] at h
    simp only [Bool.and_eq_true, decide_eq_true_eq] at h
    have e : f.st = [] := List.eq_nil_of_length_eq_zero (by omega)
    have ei : isId f.k = true := by unfold isId; simp only [Bool.or_eq_true, decide_eq_true_eq]; omega
    refine ⟨fun _ => ?_, fun h' => (by rw [ei] at h'; cases h'), by omega, by omega⟩
    unfold bodyL
    rw [if_neg (by unfold isData; simp; omega), if_neg h2, e]
    simp [setL]
set_option maxHeartbeats 16000000 in
set_option maxRecDepth 10000 in
theorem refhput_any {w : World} {f : HF} {vs vd : Value} (hv : HFV w f vs vd) : Calls Tryd.prog 16 #[hfA f vs vd] w fun e w' => ∃ v, e = .returned v ∧ OwnB w' w.heap.size v (hfputL f) ∧ Mod (fun _ => False) w w' := by
  obtain ⟨sa, sc, rfl, hsc, _⟩ := set_val hv.st
  obtain ⟨da, dc, rfl, _⟩ := byts_val hv.d
  obtain ⟨ns, hns⟩ : ∃ n, n = f.st.length := ⟨_, rfl⟩
  obtain ⟨nd, hnd⟩ : ∃ n, n = f.d.length := ⟨_, rfl⟩
  obtain ⟨k, hk⟩ : ∃ k, k = f.k := ⟨_, rfl⟩
  unfold hfA at *
  have hst := hv.st
  have hdt := hv.d
  rw [← hns, ← hnd] at hv
  rw [← hns] at hst hsc ⊢
  rw [← hnd] at hdt ⊢
  rw [← hk]
  obtain ⟨i, hi⟩ : ∃ i : Int, i = f.id := ⟨_, rfl⟩
  rw [← hi]
  have hnc : (ns : Int) ≤ sc := by omega
  have hM0 : Mod (fun _ => False) w (w.alloc (.cells #[.int .i64 k, .int .u64 i, .slice sa ns sc, .slice da nd dc] 26)) := (Mod.refl _ w).alloc _
  have HM0 := Lib.hid hM0
  have hRG : ∀ X, Mod (fun _ => False) (w.alloc (.cells #[.int .i64 k, .int .u64 i, .slice sa ns sc, .slice da nd dc] 26)) X → Calls Tryd.prog 13 #[.agg #[.int .i64 k, .int .u64 i, .slice sa ns sc, .slice da nd dc]] X fun e w' => e = .returned (.bool (rightH f)) ∧ Mod (fun _ => False) X w' := by
    intro X h
    have := refright_any (hv.kept (hM0.trans h))
    unfold hfA at this
    rw [← hk, ← hi] at this
    exact this
  have HRG := Lib.hid hRG
  have HBF := Lib.hid (Blk.new w #[.int .i64 k, .int .u64 i, .slice sa ns sc, .slice da nd dc] 26)
  have HSX : Hid (∀ X, Mod (fun _ => False) (w.alloc (.cells #[.int .i64 k, .int .u64 i, .slice sa ns sc, .slice da nd dc] 26)) X → SetV X (.slice sa ns sc) f.st) := fun X h => hst.kept (hM0.trans h)
  have HDX : Hid (∀ X, Mod (fun _ => False) (w.alloc (.cells #[.int .i64 k, .int .u64 i, .slice sa ns sc, .slice da nd dc] 26)) X → Byts X (.slice da nd dc) f.d) := fun X h => byts_kept hdt (hM0.trans h)
  have HNS := Lib.hid hns
  have HND := Lib.hid hnd
  have hK := hk
  clear hRG hst hdt hsc hv hns hnd hM0
  cases hR : rightH f
  · have e : hfputL f = [] := by unfold hfputL; rw [hR]; simp
    rw [e]
    rw [hR] at HRG
    clear hR e hK hk hi
    go_enter Tryd.func16, Tryd.ntmps16
    go_wp2_with fail
    refine (HRG.out _ (Mod.refl _ _)).mono ?_
    rintro e w1 ⟨rfl, hM1⟩
    go_wp2
    go_ret
    exact ⟨_, rfl, OwnB.nil _ _, HM0.out.trans hM1⟩
  have hkinds := right_kinds hR
  obtain ⟨hb1, hb2, h16, hd1⟩ := base_of hR
  have hbz := body_len hR
  have HRES : Hid (hfputL f = [UInt8.ofNat k.toNat] ++ putL (bodyL f).length ++ bodyL f) := by
    show _ = _
    unfold hfputL
    rw [if_pos hR, putL_small f.k.toNat (by omega), hK]
  have HWK : Hid (IntKind.u8.wrap k = k) := IntWalk.u8_in _ (by rw [hK]; omega)
  have HBV : Hid (bv (UInt8.ofNat k.toNat) = .int .u8 k) := bv_of (by rw [hK]; omega)
  have HL16 : Hid (f.st.length ≤ 16) := h16
  rw [hR] at HRG
  have hkk : k = 0 ∨ k = 1 ∨ k = 3 ∨ k = 4 ∨ k = 7 ∨ k = 13 := by rw [hK]; exact hkinds
  have hnd1 : (nd : Int) ≤ 1000 := by have := HND.out; omega
  rw [← hK] at hb1 hb2
  clear hk hkinds hR hK
  have hns16 : (ns : Int) ≤ 16 := by have := HNS.out; omega
  generalize f.st = l at *
  obtain ⟨Bd, hBd⟩ : ∃ x, x = bodyL f := ⟨_, rfl⟩
  rw [← hBd] at hb1 hb2 hbz HRES
  have HBDZ := Lib.hid hbz
  obtain ⟨D, hD⟩ : ∃ x, x = f.d := ⟨_, rfl⟩
  rw [← hD] at HDX HND hb2
  obtain ⟨iN, hiN⟩ : ∃ x, x = f.id := ⟨_, rfl⟩
  rw [← hiN] at hi hb1
  have hpi := putL_len iN
  have HB1 := Lib.hid hb1
  have HB2 := Lib.hid hb2
  clear hb1 hb2 hbz hBd hD hiN h16 hd1
  have hid : (∃ b3 b7 b13 : Bool, (k == 3) = b3 ∧ (k == 7) = b7 ∧ (k == 13) = b13 ∧ (isId k = (b3 || b7 || b13)) ∧ ((b3 = true) ∨ (b3 = false ∧ b7 = true) ∨ (b3 = false ∧ b7 = false ∧ b13 = true) ∨ (b3 = false ∧ b7 = false ∧ b13 = false))) := by
    rcases hkk with rfl | rfl | rfl | rfl | rfl | rfl
    · exact ⟨_, _, _, rfl, rfl, rfl, by decide, by decide⟩
    · exact ⟨_, _, _, rfl, rfl, rfl, by decide, by decide⟩
    · exact ⟨_, _, _, rfl, rfl, rfl, by decide, by decide⟩
    · exact ⟨_, _, _, rfl, rfl, rfl, by decide, by decide⟩
    · exact ⟨_, _, _, rfl, rfl, rfl, by decide, by decide⟩
    · exact ⟨_, _, _, rfl, rfl, rfl, by decide, by decide⟩
  clear hkk
  obtain ⟨b3, b7, b13, t3, t7, t13, hi4, hb4⟩ := hid
  rw [hi4] at HB1 HB2
  clear hi4
  subst hi
  go_enter Tryd.func16, Tryd.ntmps16
  go_wp2_with fail
  refine (HRG.out _ (Mod.refl _ _)).mono ?_
  rintro e w1 ⟨rfl, hM1⟩
  have HM1 := Lib.hid hM1
  clear hM1 HRG
  generalize hW : (w.alloc (.cells #[.int .i64 k, .int .u64 (iN : Int), .slice sa ns sc, .slice da nd dc] 26)) = W at *
  clear hW
  generalize w.heap.size = gF at *
  have hA2 : Mod (fun _ => False) W (w1.alloc (.cells #[] 5)) := HM1.out.alloc _
  have HA2 := Lib.hid hA2
  have HW2 := Lib.hid (own_lit w1 [] #[] 0 W.heap.size rfl rfl (by decide) HM1.out.size)
  have HD2 := Lib.hid (HDX.out _ hA2)
  have cA := (HM1.out.blk HBF.out (fun h => h)).cellAt 3 rfl
  have cB := (hA2.blk HBF.out (fun h => h)).cellAt 3 rfl
  clear hA2
  rcases hb4 with rfl | ⟨rfl, rfl⟩ | ⟨rfl, rfl, rfl⟩ | ⟨rfl, rfl, rfl⟩
  all_goals
    go_wp2_with (first
      | ((with_reducible refine wpList_append_b ?_ (.tmp 8) (.tmp 10) ?_ (.slice (some ⟨w1.heap.size, 0, none⟩) 0 0) [] W.heap.size nd ?_ HW2.out (.slice da nd dc) D ?_ HD2.out D ?_ ?_ ?_ HA2.out.size ?_); (· exact rfl); (· exact rfl); (· exact rfl); (· exact rfl); (· simp); (· have := HND.out; simp; omega); (· omega); intro a3 c3 w3 hA3; have HM3 := Lib.hid (hA3.modF HA2.out (Nat.le_refl _)); have HO3 := Lib.hid hA3.own; have c0 := (HM3.out.blk HBF.out (fun h => h)).cellAt 0 rfl; have c1 := (HM3.out.blk HBF.out (fun h => h)).cellAt 1 rfl; clear hA3 cA cB)
      | fail)
  all_goals first
    | (refine (refput_any iN _).mono ?_
       rintro e w4 ⟨v4, rfl, ho4, hk4⟩
       obtain ⟨az, cz, rfl, _⟩ := byts_val ho4.byts
       obtain ⟨base, hbase⟩ : ∃ x, x = putL iN := ⟨_, rfl⟩
       rw [← hbase] at ho4 hpi HB1 ⊢
       obtain ⟨nb, hnb⟩ : ∃ x, x = base.length := ⟨_, rfl⟩
       rw [← hnb] at ho4 ⊢
       have HBN := Lib.hid hnb.symm
       have HOB : Hid (OwnB w4 W.heap.size (.slice az nb cz) base ∧ Mod (fun _ => False) W w4) := ⟨ho4.mono HM3.out.size, HM3.out.trans hk4⟩
       have HBZ : Hid (base.length ≤ 1000) := by show _ ≤ _; omega
       have HBD : Hid (base ++ setL l = Bd) := HB1.out (by rfl)
       clear ho4 hk4 hbase hnb HO3 HM3 c0 c1 HB1 HB2
       go_wp2_with fail)
    | (obtain ⟨base, hbase⟩ : ∃ x, x = D := ⟨_, rfl⟩
       rw [← hbase] at HO3 HND HB2
       obtain ⟨nb, hnb⟩ : ∃ x, x = nd := ⟨_, rfl⟩
       have HBN : Hid (base.length = nd) := by show _ = _; exact HND.out.symm
       have HOB : Hid (OwnB w3 W.heap.size (.slice a3 nd c3) base ∧ Mod (fun _ => False) W w3) := ⟨HO3.out, HM3.out⟩
       have HBZ : Hid (base.length ≤ 1000) := by show _ ≤ _; have := HND.out; omega
       have HBD : Hid (base ++ setL l = Bd) := HB2.out (by rfl)
       obtain ⟨az, haz⟩ : ∃ x, x = a3 := ⟨_, rfl⟩
       obtain ⟨cz, hcz⟩ : ∃ x, x = c3 := ⟨_, rfl⟩
       rw [← haz, ← hcz] at HOB ⊢
       clear haz hcz hnb hbase HO3 HM3 c0 c1 HB1 HB2)
  all_goals
    go_loopw [3, 4] (fun s3 s4 wr => ∃ j : Nat, j ≤ ns ∧ s4 = .int .i64 j ∧ ∃ ap cp, s3 = .slice ap (base ++ setL (l.take j)).length cp ∧ Hid (OwnB wr W.heap.size (.slice ap (base ++ setL (l.take j)).length cp) (base ++ setL (l.take j)) ∧ Mod (fun _ => False) W wr)) (fun _ s4 _ => ns - (intOf s4).toNat)
    case atStart =>
      have e : base ++ setL (l.take 0) = base := by simp [setL]
      refine ⟨0, Nat.zero_le _, rfl, az, cz, by rw [e, HBN.out], ?_⟩
      show _ ∧ _
      rw [e, HBN.out]
      exact HOB.out
    case round =>
      clear HOB
      obtain ⟨j, hj, rfl, ap, cp, rfl, HR⟩ := hrel
      have cc := (HR.out.2.blk HBF.out (fun h => h)).cellAt 2 rfl
      by_cases hjn : (j : Int) < ns
      · have hjl : j < l.length := by have := HNS.out; omega
        have hs : l[j]? = some l[j] := List.getElem?_eq_getElem hjl
        generalize l[j] = s at hs
        obtain ⟨b, off, cp0, hv, hq1, hq2, hcs⟩ := set_addr (HSX.out _ HR.out.2) (by rintro rfl; simp at hjl)
        simp only [Value.slice.injEq] at hv
        obtain ⟨rfl, hq3, rfl⟩ := hv
        have HSJ := Lib.hid hs
        have HJN := Lib.hid hjn
        have g0 := (hcs j s hs).1
        have hl16 : l.length ≤ 16 := HL16.out
        obtain ⟨acc, hacc⟩ : ∃ x, x = base ++ setL (l.take j) := ⟨_, rfl⟩
        obtain ⟨L1, hL1⟩ : ∃ x, x = acc ++ putL s.1 := ⟨_, rfl⟩
        obtain ⟨L2, hL2⟩ : ∃ x, x = L1 ++ putL s.2 := ⟨_, rfl⟩
        have HNEW : Hid (base ++ setL (l.take (j + 1)) = L2) := by show _ = _; rw [hL2, hL1, hacc, take_snoc l j s hs]; simp [setL, List.append_assoc]
        have hbz := HBZ.out
        have hz1 : (acc.length : Int) ≤ 2000 := by
          rw [hacc, List.length_append]
          have := setL_len (l.take j)
          have h3 : (l.take j).length ≤ 16 := by rw [List.length_take]; omega
          omega
        rw [← hacc] at HR ⊢
        have hp1 := putL_len s.1
        have hp2 := putL_len s.2
        have HL1 := Lib.hid hL1
        have HL2 := Lib.hid hL2
        clear hacc hL1 hL2 hs hcs hjl hq1 hq2 hq3 hl16 hbz
        obtain ⟨na, hna⟩ : ∃ n, n = acc.length := ⟨_, rfl⟩
        obtain ⟨n1, hn1⟩ : ∃ n, n = na + (putL s.1).length := ⟨_, rfl⟩
        obtain ⟨n2, hn2⟩ : ∃ n, n = n1 + (putL s.2).length := ⟨_, rfl⟩
        rw [← hna] at HR hz1 ⊢
        have hz2 : (n1 : Int) ≤ 3000 := by omega
        have hz3 : (n2 : Int) ≤ 4000 := by omega
        have HNA := Lib.hid hna
        have HN1 := Lib.hid hn1
        have HN2 := Lib.hid hn2
        clear hna hn1 hn2 hp1 hp2
        go_wp2_with fail
        refine (refput_any s.1 wr).mono ?_
        rintro e y1 ⟨v1, rfl, ho1, hk1⟩
        have HM1 := Lib.hid (HR.out.2.trans hk1)
        have HK1 := Lib.hid hk1
        have HA1 := Lib.hid (HR.out.1.keptF hk1)
        have HP1 := Lib.hid ho1.byts
        obtain ⟨a1, c1, rfl, _⟩ := byts_val ho1.byts
        clear ho1 hk1 g0 cc
        go_wp2_with (first
          | ((with_reducible refine wpList_append_b ?_ (.tmp 35) (.tmp 42) ?_ (.slice ap na cp) acc W.heap.size n1 ?_ HA1.out (.slice a1 (putL s.1).length c1) (putL s.1) ?_ HP1.out L1 HL1.out ?_ ?_ HM1.out.size ?_); (· exact rfl); (· exact rfl); (· exact rfl); (· exact rfl); (· have := HNA.out; have := HN1.out; omega); (· omega); intro a2 c2 y2 hA2; have HM2 := Lib.hid (hA2.modF HM1.out (Nat.le_refl _)); have HO2 := Lib.hid hA2.own; have HLN := Lib.hid (congrArg List.length HL1.out); have cc := (HM2.out.blk HBF.out (fun h => h)).cellAt 2 rfl; have g1 := (show y2.cell? ⟨b, off + j * 2 + 1, none⟩ = some (.int .u64 (s.2 : Int)) from (by obtain ⟨b', off', cp', hv', _, _, hct⟩ := set_addr (HSX.out _ HM2.out) (by intro h0; have := HNS.out; rw [h0] at this; simp at this; omega); simp only [Value.slice.injEq, Option.some.injEq, Addr.mk.injEq] at hv'; obtain ⟨⟨rfl, rfl, _⟩, _, _⟩ := hv'; exact (hct j s HSJ.out).2)); clear hA2)
          | fail)
        refine (refput_any s.2 y2).mono ?_
        rintro e y3 ⟨v3, rfl, ho3, hk3⟩
        have HM3 := Lib.hid (HM2.out.trans hk3)
        have HA3 := Lib.hid (HO2.out.keptF hk3)
        have HP3 := Lib.hid ho3.byts
        obtain ⟨a3, c3, rfl, _⟩ := byts_val ho3.byts
        clear ho3 hk3 g1 cc
        go_wp2_with (first
          | ((with_reducible refine wpList_append_b ?_ (.tmp 44) (.tmp 51) ?_ (.slice a2 n1 c2) L1 W.heap.size n2 ?_ HA3.out (.slice a3 (putL s.2).length c3) (putL s.2) ?_ HP3.out L2 HL2.out ?_ ?_ HM3.out.size ?_); (· exact rfl); (· exact rfl); (· exact rfl); (· exact rfl); (· have := HNA.out; have := HN1.out; have := HN2.out; have := HLN.out; simp only [List.length_append] at this; omega); (· omega); intro a4 c4 y4 hA4; have HM4 := Lib.hid (hA4.modF HM3.out (Nat.le_refl _)); have HO4 := Lib.hid hA4.own; clear hA4)
          | fail)
        have HLN2 : Hid (L2.length = n2) := by
          show _ = _
          have h1 := congrArg List.length HL2.out
          have h2 := HLN.out
          have := HNA.out; have := HN1.out; have := HN2.out
          simp only [List.length_append] at h1 h2
          omega
        go_roundw
        case rel => exact ⟨j + 1, (by have := HJN.out; omega), by go_num, a4, c4, by rw [HNEW.out, HLN2.out], by show _ ∧ _; rw [HNEW.out, HLN2.out]; exact ⟨HO4.out, HM4.out⟩⟩
        case measure => have := HJN.out; simp [intOf]; omega
      · have hjn' : j = ns := by omega
        have hall : base ++ setL (l.take j) = Bd := by rw [List.take_of_length_le (by have := HNS.out; omega)]; exact HBD.out
        rw [hall] at HR ⊢
        obtain ⟨n, hn⟩ : ∃ n, n = Bd.length := ⟨_, rfl⟩
        rw [← hn] at HR ⊢
        have hnz : (n : Int) ≤ 1000 := by have := HBDZ.out; omega
        have HNB := Lib.hid hn
        have hpl := putL_len n
        obtain ⟨L8, hL8⟩ : ∃ x, x = [UInt8.ofNat k.toNat] ++ putL n := ⟨_, rfl⟩
        obtain ⟨L10, hL10⟩ : ∃ x, x = L8 ++ Bd := ⟨_, rfl⟩
        obtain ⟨n8, hn8⟩ : ∃ m, m = 1 + (putL n).length := ⟨_, rfl⟩
        obtain ⟨n10, hn10⟩ : ∃ m, m = n8 + n := ⟨_, rfl⟩
        have hz8 : (n8 : Int) ≤ 20 := by omega
        have hz10 : (n10 : Int) ≤ 2000 := by omega
        have HL8 := Lib.hid hL8
        have HL10 := Lib.hid hL10
        have HN8 := Lib.hid hn8
        have HLN8 : Hid (L8.length = n8) := by show _ = _; rw [hL8, hn8]; simp; omega
        have HN10 := Lib.hid hn10
        have HFIN : Hid (L10 = hfputL f) := by
          show _ = _
          have := HRES.out
          rw [this, hL10, hL8, hn]
        clear hall hn hpl hL8 hL10 hn8 hn10
        have hw64 : IntKind.u64.wrap (n : Int) = n := IntWalk.u64_in _ (by omega)
        have hwk : IntKind.u8.wrap k = k := HWK.out
        go_wp2_with fail
        have x0 := (HR.out.2.blk HBF.out (fun h => h)).cellAt 0 rfl
        have HBDY := Lib.hid (HR.out.1.byts)
        have HWX := Lib.hid HR.out.2.size
        have HMW := Lib.hid HR.out.2
        have hd : Mod (fun _ => False) wr wr.drew := (Mod.refl _ _).drew
        refine wp_region_held_drew (S := fun X => X.cell? ⟨gF, 0, none⟩ = some (.int .i64 k) ∧ True) (by kernel_rfl) ⟨hd.cellAt x0 (fun h => h), trivial⟩ (fun hS => ?_)
        refine wpAnyH_take (i := 0) (v := .pointer (some ⟨gF, 0, none⟩)) rfl (by kernel_rfl) (by kernel_rfl) (by kernel_rfl) (fun _ _ _ h => h) (Or.inl ⟨by rfl, fun X hX => ?_⟩) hS ?_
        · go_simp
        refine wpAnyH_take (i := 1) (v := .int .i64 k) rfl (by kernel_rfl) (by kernel_rfl) (by kernel_rfl) (fun _ _ _ h => h) (Or.inl ⟨by rfl, fun X hX => ?_⟩) hS ?_
        · have := hX.1; go_simp
        refine wpAnyH_take (i := 2) (v := .int .u8 k) rfl (by kernel_rfl) (by kernel_rfl) (by kernel_rfl) (fun _ _ _ h => h) (Or.inl ⟨by rfl, fun X hX => ?_⟩) hS ?_
        · go_simp
        refine wpAnyH_take (i := 4) (v := .slice ap n cp) rfl (by kernel_rfl) (by kernel_rfl) (by kernel_rfl) (fun _ _ _ h => h) (Or.inl ⟨by rfl, fun X hX => ?_⟩) hS ?_
        · go_simp
        refine wpAnyH_take (i := 5) (v := .int .i64 n) rfl (by kernel_rfl) (by kernel_rfl) (by kernel_rfl) (fun _ _ _ h => h) (Or.inl ⟨by rfl, fun X hX => ?_⟩) hS ?_
        · go_simp
        refine wpAnyH_take (i := 6) (v := .int .u64 n) rfl (by kernel_rfl) (by kernel_rfl) (by kernel_rfl) (fun _ _ _ h => h) (Or.inl ⟨by rfl, fun X hX => ?_⟩) hS ?_
        · go_simp
        refine wpAnyH_take (i := 9) (v := .slice ap n cp) rfl (by kernel_rfl) (by kernel_rfl) (by kernel_rfl) (fun _ _ _ h => h) (Or.inl ⟨by rfl, fun X hX => ?_⟩) hS ?_
        · go_simp
        refine wpAnyH_ready (rs := [3, 7]) (by kernel_rfl) (by simp) ?_
        refine (AllReadyH.cons rfl (fun K hK => ?_) (AllReadyH.cons rfl (fun K hK => ?_) AllReadyH.nil))
        · go_simp
          have k1 : Mod (fun _ => False) wr.drew (wr.drew.alloc (.cells #[.int .u8 k] 5)) := (Mod.refl _ _).alloc _
          have m1 := hd.trans k1
          have o1 : OwnB (wr.drew.alloc (.cells #[.int .u8 k] 5)) wr.heap.size (.slice (some ⟨wr.heap.size, 0, none⟩) 1 1) [UInt8.ofNat k.toNat] := own_lit wr.drew _ _ 1 wr.heap.size (by simp only [List.map_cons, List.map_nil, HBV.out]) rfl (by decide) hd.size
          refine hK.out _ _ ⟨(m1.cellAt x0 (fun h => h)), trivial⟩ (fun hS => ?_)
          clear hK K
          refine wpAnyH_ready (rs := [7]) (by kernel_rfl) (by simp) ?_
          refine (AllReadyH.cons rfl (fun K hK => ?_) AllReadyH.nil)
          go_simp
          refine (refput_any n (wr.drew.alloc (.cells #[.int .u8 k] 5))).mono ?_
          rintro e Y2 ⟨v2, rfl, q2, k2⟩
          have m2 := m1.trans k2
          have p2 := q2.byts
          obtain ⟨av, cv, rfl, _⟩ := byts_val p2
          have o2 := o1.keptF k2
          refine hK.out _ _ ⟨(m2.cellAt x0 (fun h => h)), trivial⟩ (fun hS => ?_)
          clear hK K
          refine wpAnyH_ready (rs := [8]) (by kernel_rfl) (by simp) ?_
          refine (AllReadyH.cons rfl (fun K hK => ?_) AllReadyH.nil)
          refine step_append_b rfl (.tmp 56) (.tmp 60) (by rfl) (.slice (some ⟨wr.heap.size, 0, none⟩) 1 1) [UInt8.ofNat k.toNat] wr.heap.size n8 (by rfl) o2 _ (putL n) (by rfl) p2 L8 HL8.out (by have := HN8.out; simp only [List.length_cons, List.length_nil]; omega) (by omega) m2.size ?_
          intro ap8 cp8 Y8 A8
          have m8 := A8.modF m2 (Nat.le_refl _)
          refine hK.out _ _ ⟨(m8.cellAt x0 (fun h => h)), trivial⟩ (fun hS => ?_)
          clear hK K
          refine wpAnyH_ready (rs := [10]) (by kernel_rfl) (by simp) ?_
          refine (AllReadyH.cons rfl (fun K hK => ?_) AllReadyH.nil)
          refine step_append_b rfl (.tmp 61) (.tmp 62) (by rfl) (.slice ap8 n8 cp8) L8 wr.heap.size n10 (by rfl) A8.own _ Bd (by rfl) (byts_kept HBDY.out m8) L10 HL10.out (by have := HN10.out; have := HLN8.out; have := HNB.out; omega) (by omega) m8.size ?_
          intro ap10 cp10 Y10 A10
          have m10 := A10.modF m8 (Nat.le_refl _)
          refine hK.out _ _ ⟨(m10.cellAt x0 (fun h => h)), trivial⟩ (fun hS => ?_)
          clear hK K
          refine wpAnyH_ready (rs := [11]) (by kernel_rfl) (by simp) ?_
          refine (AllReadyH.cons rfl (fun K hK => ?_) AllReadyH.nil)
          go_simp
          refine hK.out _ _ ⟨(m10.cellAt x0 (fun h => h)), trivial⟩ (fun hS => ?_)
          clear hK K
          refine wpAnyH_done (by kernel_rfl) ?_ _
          go_simp
          have HOF := Lib.hid (A10.own.mono HWX.out)
          have HMF := Lib.hid (HMW.out.trans m10)
          clear hS m8 m10 A8 A10 hd x0
          go_wp2_with fail
          go_ret
          exact ⟨_, rfl, by rw [← HFIN.out]; exact HOF.out.mono HM0.out.size, HM0.out.trans HMF.out⟩
        · go_simp
          refine (refput_any n wr.drew).mono ?_
          rintro e Y1 ⟨v1, rfl, q1, k1⟩
          have m1 := hd.trans k1
          have p1 := q1.byts
          obtain ⟨av, cv, rfl, _⟩ := byts_val p1
          refine hK.out _ _ ⟨(m1.cellAt x0 (fun h => h)), trivial⟩ (fun hS => ?_)
          clear hK K
          refine wpAnyH_ready (rs := [3]) (by kernel_rfl) (by simp) ?_
          refine (AllReadyH.cons rfl (fun K hK => ?_) AllReadyH.nil)
          go_simp
          have k2 : Mod (fun _ => False) Y1 (Y1.alloc (.cells #[.int .u8 k] 5)) := (Mod.refl _ _).alloc _
          have m2 := m1.trans k2
          have o2 : OwnB (Y1.alloc (.cells #[.int .u8 k] 5)) wr.heap.size (.slice (some ⟨Y1.heap.size, 0, none⟩) 1 1) [UInt8.ofNat k.toNat] := own_lit Y1 _ _ 1 wr.heap.size (by simp only [List.map_cons, List.map_nil, HBV.out]) rfl (by decide) m1.size
          have p2 := byts_kept p1 k2
          refine hK.out _ _ ⟨(m2.cellAt x0 (fun h => h)), trivial⟩ (fun hS => ?_)
          clear hK K
          refine wpAnyH_ready (rs := [8]) (by kernel_rfl) (by simp) ?_
          refine (AllReadyH.cons rfl (fun K hK => ?_) AllReadyH.nil)
          refine step_append_b rfl (.tmp 56) (.tmp 60) (by rfl) (.slice (some ⟨Y1.heap.size, 0, none⟩) 1 1) [UInt8.ofNat k.toNat] wr.heap.size n8 (by rfl) o2 _ (putL n) (by rfl) p2 L8 HL8.out (by have := HN8.out; simp only [List.length_cons, List.length_nil]; omega) (by omega) m2.size ?_
          intro ap8 cp8 Y8 A8
          have m8 := A8.modF m2 (Nat.le_refl _)
          refine hK.out _ _ ⟨(m8.cellAt x0 (fun h => h)), trivial⟩ (fun hS => ?_)
          clear hK K
          refine wpAnyH_ready (rs := [10]) (by kernel_rfl) (by simp) ?_
          refine (AllReadyH.cons rfl (fun K hK => ?_) AllReadyH.nil)
          refine step_append_b rfl (.tmp 61) (.tmp 62) (by rfl) (.slice ap8 n8 cp8) L8 wr.heap.size n10 (by rfl) A8.own _ Bd (by rfl) (byts_kept HBDY.out m8) L10 HL10.out (by have := HN10.out; have := HLN8.out; have := HNB.out; omega) (by omega) m8.size ?_
          intro ap10 cp10 Y10 A10
          have m10 := A10.modF m8 (Nat.le_refl _)
          refine hK.out _ _ ⟨(m10.cellAt x0 (fun h => h)), trivial⟩ (fun hS => ?_)
          clear hK K
          refine wpAnyH_ready (rs := [11]) (by kernel_rfl) (by simp) ?_
          refine (AllReadyH.cons rfl (fun K hK => ?_) AllReadyH.nil)
          go_simp
          refine hK.out _ _ ⟨(m10.cellAt x0 (fun h => h)), trivial⟩ (fun hS => ?_)
          clear hK K
          refine wpAnyH_done (by kernel_rfl) ?_ _
          go_simp
          have HOF := Lib.hid (A10.own.mono HWX.out)
          have HMF := Lib.hid (HMW.out.trans m10)
          clear hS m8 m10 A8 A10 hd x0
          go_wp2_with fail
          go_ret
          exact ⟨_, rfl, by rw [← HFIN.out]; exact HOF.out.mono HM0.out.size, HM0.out.trans HMF.out⟩
end Go.Proofs.YtcnpiclpdgkngaaDoor
