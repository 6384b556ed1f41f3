/- Is a frame right: the document's. (printed by genfbk.py) -/
import Derived.Test.YtcnpiclpdgkngaaDoorFaE
import Derived.Test.YtcnpiclpdgkngaaDoorFaD
import Derived.Deep.RegionHeld3
namespace Go.Proofs.YtcnpiclpdgkngaaDoor
open Go.RowKit

set_option maxHeartbeats 8000000 in
set_option maxRecDepth 10000 in
theorem refright_set {w : World} {f : HF} {vs vd : Value} (hv : HFV w f vs vd) (h4 : f.k = 4) : Calls Tryd.prog 13 #[hfA f vs vd] w fun e w' => e = .returned (.bool (rightH f)) ∧ Mod (fun _ => False) w w' := by
  have HV := Lib.hid hv.st
  have hdl := hv.dl
  obtain ⟨sa, sc, rfl, hsc, _⟩ := set_val hv.st
  obtain ⟨da, dc, rfl, _⟩ := byts_val hv.d
  unfold hfA
  obtain ⟨R, hR⟩ : ∃ R, R = rightH f := ⟨_, rfl⟩
  rw [← hR]
  have HR := Lib.hid (hR.trans (right_set h4))
  clear hR hv
  rw [h4]
  clear h4
  generalize hst : f.st = l at *
  clear hst
  obtain ⟨n, hn⟩ : ∃ n, n = l.length := ⟨_, rfl⟩
  rw [← hn] at hsc ⊢
  have HN := Lib.hid hn
  clear hn
  have hnc : (n : Int) ≤ sc := by omega
  clear hsc
  generalize f.d.length = nd at *
  generalize f.id = i at *
  by_cases hall : i = 0 ∧ nd = 0 ∧ (n : Int) ≤ 16
  case neg =>
    have HR2 : Hid (R = false) := by
      show _ = _
      rw [HR.out]
      have hN := HN.out
      by_cases h1 : i = 0
      · by_cases h2 : nd = 0
        · have e : settingsB l = false := by
            unfold settingsB
            rw [decide_eq_false (show ¬ l.length ≤ 16 by omega)]
            simp
          rw [e]; simp
        · rw [decide_eq_false h2]; simp
      · rw [decide_eq_false h1]; simp
    clear HR
    go_enter Tryd.func13, Tryd.ntmps13
    go_wp2_with fail
    all_goals first
      | (go_ret; exact ⟨ret_bool HR2.out.symm, (Mod.refl _ w).alloc _⟩)
      | (exfalso; omega)
  obtain ⟨rfl, rfl, hn16⟩ := hall
  have HRS : Hid (R = settingsB l) := by show _ = _; rw [HR.out]; simp
  clear HR
  have HM0 := Lib.hid ((Mod.refl (fun _ => False) w).alloc (.cells #[.int .i64 4, .int .u64 0, .slice sa n sc, .slice da 0 dc] 26))
  have HB0 := Lib.hid (Blk.new w #[.int .i64 4, .int .u64 0, .slice sa n sc, .slice da 0 dc] 26)
  have HVX : Hid (∀ X, Mod (fun _ => False) (w.alloc (.cells #[.int .i64 4, .int .u64 0, .slice sa n sc, .slice da 0 dc] 26)) X → SetV X (.slice sa n sc) l) := fun X h => by have := HV.out.kept (HM0.out.trans h); rw [← HN.out] at this; exact this
  go_enter Tryd.func13, Tryd.ntmps13
  go_wp2_with fail
  generalize hW : (w.alloc (.cells #[.int .i64 4, .int .u64 0, .slice sa n sc, .slice da 0 dc] 26)) = W at *
  clear hW
  generalize w.heap.size = g at *
  go_loopw [3] (fun s3 wr => ∃ k : Nat, k ≤ n ∧ s3 = .int .i64 k ∧ Mod (fun _ => False) W wr ∧ Hid (goodTo l k)) (fun s3 _ => n - (intOf s3).toNat)
  case atStart => exact ⟨0, Nat.zero_le _, rfl, Mod.refl _ _, fun i s hi _ => by omega⟩
  case round =>
    obtain ⟨k, hk, rfl, hM, HJ⟩ := hrel
    have HMr := Lib.hid hM
    have cc := (hM.blk HB0.out (fun h => h)).cellAt 2 rfl
    clear hM
    by_cases hkn : (k : Int) < n
    · have hkl : k < l.length := by have := HN.out; omega
      have hs : l[k]? = some l[k] := List.getElem?_eq_getElem hkl
      generalize l[k] = s at hs
      obtain ⟨b, off, cp, hv, _, _, hcs⟩ := set_addr (HVX.out _ HMr.out) (by rintro rfl; simp at hkl)
      simp only [Value.slice.injEq] at hv
      obtain ⟨rfl, hq1, rfl⟩ := hv
      clear hq1
      obtain ⟨g0', g1'⟩ := hcs k s hs
      have HS := Lib.hid hs
      clear hs hcs hkl
      go_wp2_with ((with_reducible refine wpList_store_blk ?_ 49 (.tmp 4) (.tmp 73) ?_ wr.heap.size ?_ #[.int .u64 0, .int .u64 0] #[.int .u64 (s.1 : Int), .int .u64 (s.2 : Int)] ?_ 49 (Blk.new _ _ _) (size49 _ _) ?_ ?_ ?_); (· exact rfl); (· exact rfl); (· exact rfl); (· exact rfl); (· exact rfl); (· intro v hv; simp at hv; rcases hv with rfl | rfl <;> rfl); intro wx hBx hMx; have HMx := Lib.hid (HMr.out.trans (((Mod.refl (fun _ => False) wr).alloc _).trans' hMx (fun i hi e => by omega))); have x0 : wx.cell? ⟨wr.heap.size, 0, none⟩ = some (.int .u64 (s.1 : Int)) := hBx.cellAt 0 rfl; have x1 : wx.cell? ⟨wr.heap.size, 1, none⟩ = some (.int .u64 (s.2 : Int)) := hBx.cellAt 1 rfl; clear hBx hMx)
      all_goals first
        | (go_ret
           refine ⟨ret_bool ?_, HM0.out.trans HMx.out⟩
           rw [HRS.out]
           exact (settings_bad HS.out (.inl (okSet_no (by unfold topN; first | omega | (rename_i hh; simp only [beq_iff_eq] at hh; omega))))).symm)
        | skip
      rename_i hh
      simp only [beq_eq_false_iff_ne, ne_eq] at hh
      have hok : okSet s = true := okSet_yes (by omega) (by omega) (by unfold topN; omega) (by unfold topN; omega)
      clear hh
      have HOK := Lib.hid hok
      have X0 := Lib.hid x0
      clear hok x0 x1 g0' g1' cc
      generalize wr.heap.size = gs at *
      go_loopw [5] (fun s5 wq => ∃ j : Nat, j ≤ k ∧ s5 = .int .i64 j ∧ Mod (fun _ => False) wx wq ∧ Hid (((l.take j).any fun t => t.1 == s.1) = false)) (fun s5 _ => k - (intOf s5).toNat)
      case atStart => exact ⟨0, Nat.zero_le _, rfl, Mod.refl _ _, by show _ = _; simp⟩
      case round =>
        obtain ⟨j, hj, rfl, hMq, HJQ⟩ := hrel
        have HMq := Lib.hid hMq
        clear hMq
        by_cases hjk : (j : Int) < k
        · have hjl : j < l.length := by have := HN.out; omega
          have hjn : (j : Int) < n := by omega
          have hjn2 : ¬ n ≤ j := by omega
          have ht : l[j]? = some l[j] := List.getElem?_eq_getElem hjl
          generalize l[j] = t at ht
          have hMd := HMx.out.trans HMq.out.drew
          obtain ⟨b', off', cp', hv', _, _, hct⟩ := set_addr (HVX.out _ hMd) (by rintro rfl; simp at hjl)
          simp only [Value.slice.injEq, Option.some.injEq, Addr.mk.injEq] at hv'
          obtain ⟨⟨rfl, rfl, hq1⟩, hq2, rfl⟩ := hv'
          clear hq1 hq2
          obtain ⟨h0', _⟩ := hct j t ht
          have cd := (hMd.blk HB0.out (fun h => h)).cellAt 2 rfl
          have xd := HMq.out.drew.cellAt X0.out (fun h => h)
          have HTT := Lib.hid ht
          obtain ⟨c, hc⟩ : ∃ c, ((t.1 : Int) == (s.1 : Int)) = c := ⟨_, rfl⟩
          clear ht hct hjl hMd
          go_wp2_with fail
          refine wp_region_held_drew (S := fun X => X.cell? ⟨g, 2, none⟩ = some (.slice (some ⟨b, off, none⟩) n sc) ∧ X.cell? ⟨b, off + j * 2, none⟩ = some (.int .u64 (t.1 : Int)) ∧ X.cell? ⟨gs, 0, none⟩ = some (.int .u64 (s.1 : Int))) (by kernel_rfl) ⟨cd, h0', xd⟩ (fun hS => ?_)
          refine wpAnyH_take (i := 0) (v := .pointer (some ⟨g, 2, none⟩)) rfl (by kernel_rfl) (by kernel_rfl) (by kernel_rfl) (fun _ _ _ h => h) (Or.inl ⟨by rfl, fun X hX => ?_⟩) hS ?_
          · go_simp
          refine wpAnyH_take (i := 1) (v := .slice (some ⟨b, off, none⟩) n sc) rfl (by kernel_rfl) (by kernel_rfl) (by kernel_rfl) (fun _ _ _ h => h) (Or.inl ⟨by rfl, fun X hX => ?_⟩) hS ?_
          · have := hX.1; go_simp
          refine wpAnyH_take (i := 2) (v := .int .i64 j) rfl (by kernel_rfl) (by kernel_rfl) (by kernel_rfl) (fun _ _ _ h => h) (Or.inl ⟨by rfl, fun X hX => ?_⟩) hS ?_
          · go_simp
          refine wpAnyH_take (i := 3) (v := .pointer (some ⟨b, off + j * 2, none⟩)) rfl (by kernel_rfl) (by kernel_rfl) (by kernel_rfl) (fun _ _ _ h => h) (Or.inl ⟨by rfl, fun X hX => ?_⟩) hS ?_
          · go_simp
          refine wpAnyH_take (i := 4) (v := .pointer (some ⟨b, off + j * 2, none⟩)) rfl (by kernel_rfl) (by kernel_rfl) (by kernel_rfl) (fun _ _ _ h => h) (Or.inl ⟨by rfl, fun X hX => ?_⟩) hS ?_
          · go_simp
          refine wpAnyH_take (i := 5) (v := .int .u64 (t.1 : Int)) rfl (by kernel_rfl) (by kernel_rfl) (by kernel_rfl) (fun _ _ _ h => h) (Or.inl ⟨by rfl, fun X hX => ?_⟩) hS ?_
          · have := hX.2.1; go_simp
          refine wpAnyH_take (i := 6) (v := .pointer (some ⟨gs, 0, none⟩)) rfl (by kernel_rfl) (by kernel_rfl) (by kernel_rfl) (fun _ _ _ h => h) (Or.inl ⟨by rfl, fun X hX => ?_⟩) hS ?_
          · go_simp
          refine wpAnyH_take (i := 7) (v := .int .u64 (s.1 : Int)) rfl (by kernel_rfl) (by kernel_rfl) (by kernel_rfl) (fun _ _ _ h => h) (Or.inl ⟨by rfl, fun X hX => ?_⟩) hS ?_
          · have := hX.2.2; go_simp
          refine wpAnyH_take (i := 8) (v := .bool c) rfl (by kernel_rfl) (by kernel_rfl) (by kernel_rfl) (fun _ _ _ h => h) (Or.inl ⟨by rfl, fun X hX => ?_⟩) hS ?_
          · go_simp
          refine wpAnyH_done (by kernel_rfl) ?_ _
          go_simp
          have HC := Lib.hid hc
          have HMd := Lib.hid (HMq.out.drew)
          clear hc hS cd xd h0'
          cases c
          · go_wp2_with fail
            go_roundw
            case rel => exact ⟨j + 1, by omega, by go_num, HMd.out, by show _ = _; rw [take_snoc l j t HTT.out, List.any_append, HJQ.out]; have := HC.out; simp only [beq_eq_false_iff_ne] at this; simp; omega⟩
            case measure => simp [intOf]; omega
          · go_wp2_with fail
            go_ret
            refine ⟨ret_bool ?_, HM0.out.trans (HMx.out.trans HMd.out)⟩
            rw [HRS.out]
            refine (settings_bad HS.out (.inr ?_)).symm
            refine List.any_eq_true.2 ⟨t, ?_, by have := HC.out; simp only [beq_iff_eq] at this ⊢; omega⟩
            have hjt : (l.take k)[j]? = some t := by rw [List.getElem?_take, if_pos (by omega)]; exact HTT.out
            exact List.mem_of_getElem? hjt
        · have hjk' : j = k := by omega
          have HANY : Hid (((l.take k).any fun t => t.1 == s.1) = false) := by have := HJQ.out; rw [hjk'] at this; exact this
          go_wp2
          go_roundw
          case rel => exact ⟨k + 1, by omega, by go_num, HMx.out.trans HMq.out, goodTo_succ HJ.out HS.out HOK.out HANY.out⟩
          case measure => simp [intOf]; omega
    · have hkn' : k = n := by omega
      have hall := settings_all l (fun i s hs => HJ.out i s (by have := (List.getElem?_eq_some_iff.1 hs).1; have := HN.out; omega) hs)
      go_wp2
      go_ret
      refine ⟨ret_bool ?_, HM0.out.trans HMr.out⟩
      rw [HRS.out]
      unfold settingsB
      rw [hall.1, hall.2, ← HN.out, Bool.eq_iff_iff]
      simp
      omega

set_option maxHeartbeats 8000000 in
set_option maxRecDepth 10000 in
theorem refright_any {w : World} {f : HF} {vs vd : Value} (hv : HFV w f vs vd) : Calls Tryd.prog 13 #[hfA f vs vd] w fun e w' => e = .returned (.bool (rightH f)) ∧ Mod (fun _ => False) w w' := by
  by_cases h4 : f.k = 4
  · exact refright_set hv h4
  have hsl := hv.sl
  have hdl := hv.dl
  obtain ⟨sa, sc, rfl, _⟩ := set_val hv.st
  obtain ⟨da, dc, rfl, _⟩ := byts_val hv.d
  unfold hfA
  obtain ⟨R, hR⟩ : ∃ R, R = rightH f := ⟨_, rfl⟩
  rw [← hR]
  by_cases h0 : f.k = 0 ∨ f.k = 1
  · have HR := Lib.hid (hR.trans (right_data h0))
    clear hv hR
    generalize f.st.length = ns at *
    generalize f.d.length = nd at *
    generalize f.id = i at *
    rcases h0 with h | h
    all_goals
      rw [h]
      clear h h4
      go_enter Tryd.func13, Tryd.ntmps13
      go_wp2
    all_goals go_ret
    all_goals refine ⟨ret_bool ?_, (Mod.refl _ w).alloc _⟩
    all_goals (rw [HR.out]; simp_all <;> omega)
  · by_cases h3 : f.k = 3 ∨ f.k = 7 ∨ f.k = 13
    · have HR := Lib.hid (hR.trans (right_id h3))
      clear hv hR h0 h4
      generalize f.st.length = ns at *
      generalize f.d.length = nd at *
      generalize f.id = i at *
      rcases h3 with h | h | h
      all_goals
        rw [h]
        clear h
        go_enter Tryd.func13, Tryd.ntmps13
        go_wp2
      all_goals go_ret
      all_goals refine ⟨ret_bool ?_, (Mod.refl _ w).alloc _⟩
      all_goals (rw [HR.out]; unfold topN; rw [Bool.eq_iff_iff]; simp_all <;> omega)
    · have HR := Lib.hid (hR.trans (right_none ⟨h0, h4, h3⟩))
      generalize f.k = k at *
      have t0 : (k == 0) = false := by simp; omega
      have t1 : (k == 1) = false := by simp; omega
      have t4 : (k == 4) = false := by simp; omega
      have t3 : (k == 3) = false := by simp; omega
      have t7 : (k == 7) = false := by simp; omega
      have t13 : (k == 13) = false := by simp; omega
      clear hv hR h0 h4 h3
      generalize f.st.length = ns at *
      generalize f.d.length = nd at *
      generalize f.id = i at *
      go_enter Tryd.func13, Tryd.ntmps13
      go_wp2
      go_ret
      exact ⟨ret_bool HR.out.symm, (Mod.refl _ w).alloc _⟩
end Go.Proofs.YtcnpiclpdgkngaaDoor
