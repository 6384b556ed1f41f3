/- The kinds' functions that say whether a frame may be. -/
import Derived.Test.YteegonadodmeeaaDoorGaC
namespace Go.Proofs.YteegonadodmeeaaDoor
open Go.RowKit

/-- What a kind's function answers. -/
def OkK (fn k : Nat) : Prop := ∀ (w : World) (f : Fr) (vd vr : Value), FrV w f vd vr → topB f = true → Calls Tryd.prog fn #[frV f vd vr] w fun e w' => e = .returned (.bool (okN k f)) ∧ Mod (fun _ => False) w w'
theorem ok_fine {w : World} {f : Fr} {vd vr : Value} : Calls Tryd.prog 56 #[frV f vd vr] w fun e w' => e = .returned (.bool true) ∧ Mod (fun _ => False) w w' := by
  unfold frV
  generalize frC f vd vr = C at *
  go_enter Tryd.func56, Tryd.ntmps56
  go_wp2
  go_ret
  exact ⟨rfl, (Mod.refl _ _).alloc _⟩
set_option maxRecDepth 10000 in
theorem ok_pad : OkK 54 0 := by
  intro w f vd vr hv ht
  have e2 : (frC f vd vr)[2]? = some (.int .u64 (f.a : Int)) := rfl
  have HO : Hid (okN 0 f = (decide (1 ≤ f.a) && decide (f.a ≤ 1200))) := rfl
  rw [HO.out]
  unfold frV
  clear hv ht HO
  generalize frC f vd vr = C at *
  generalize f.a = n at *
  go_enter Tryd.func54, Tryd.ntmps54
  go_wp2
  all_goals go_ret
  all_goals refine ⟨ret_bool ?_, (Mod.refl _ _).alloc _⟩
  all_goals (rw [Bool.eq_iff_iff]; simp_all <;> omega)
set_option maxRecDepth 10000 in
theorem ok_long {w : World} {f : Fr} {vd vr : Value} (hv : FrV w f vd vr) : Calls Tryd.prog 72 #[frV f vd vr] w fun e w' => e = .returned (.bool (decide (f.d.length ≤ 1200))) ∧ Mod (fun _ => False) w w' := by
  have hdl := hv.dl
  obtain ⟨da, dc, rfl, _⟩ := byts_val hv.d
  have e6 : (frC f (.slice da f.d.length dc) vr)[6]? = some (.slice da f.d.length dc) := rfl
  unfold frV
  clear hv
  generalize frC f (.slice da f.d.length dc) vr = C at *
  generalize f.d.length = n at *
  go_enter Tryd.func72, Tryd.ntmps72
  go_wp2
  all_goals go_ret
  all_goals refine ⟨ret_bool ?_, (Mod.refl _ _).alloc _⟩
  all_goals (rw [Bool.eq_iff_iff]; simp_all <;> omega)
set_option maxRecDepth 10000 in
theorem ok_is8 {w : World} {f : Fr} {vd vr : Value} (hv : FrV w f vd vr) : Calls Tryd.prog 53 #[frV f vd vr] w fun e w' => e = .returned (.bool (decide (f.d.length = 8))) ∧ Mod (fun _ => False) w w' := by
  have hdl := hv.dl
  obtain ⟨da, dc, rfl, _⟩ := byts_val hv.d
  have e6 : (frC f (.slice da f.d.length dc) vr)[6]? = some (.slice da f.d.length dc) := rfl
  unfold frV
  clear hv
  generalize frC f (.slice da f.d.length dc) vr = C at *
  generalize f.d.length = n at *
  go_enter Tryd.func53, Tryd.ntmps53
  go_wp2
  all_goals go_ret
  all_goals refine ⟨ret_bool ?_, (Mod.refl _ _).alloc _⟩
  all_goals (rw [Bool.eq_iff_iff]; simp_all <;> omega)
set_option maxRecDepth 10000 in
theorem ok_few {w : World} {f : Fr} {vd vr : Value} : Calls Tryd.prog 76 #[frV f vd vr] w fun e w' => e = .returned (.bool (decide (f.a ≤ 1152921504606846976))) ∧ Mod (fun _ => False) w w' := by
  have e2 : (frC f vd vr)[2]? = some (.int .u64 (f.a : Int)) := rfl
  unfold frV
  generalize frC f vd vr = C at *
  generalize f.a = n at *
  go_enter Tryd.func76, Tryd.ntmps76
  go_wp2
  all_goals go_ret
  all_goals refine ⟨ret_bool ?_, (Mod.refl _ _).alloc _⟩
  all_goals (rw [Bool.eq_iff_iff]; simp_all <;> omega)
theorem loadWhole (w : World) (f : Fr) (vd vr : Value) (h : f.t.length = 16) : ∀ X, X = w.alloc (.cells (frC f vd vr) 27) → (Instr.loadAt 27 (.pointer (some ⟨w.heap.size, 0, none⟩))).run Tryd.prog X = .ok (frV f vd vr) X := by
  rintro X rfl
  exact run_loadAt_mid (w.alloc (.cells (frC f vd vr) 27)) w.heap.size 0 27 (frC f vd vr).toList _ (Blk.new w (frC f vd vr) 27).whole Tryd.underlying27 rfl (sizeFr f vd vr h)
set_option maxHeartbeats 1000000 in
set_option maxRecDepth 10000 in
theorem ok_ends {w : World} {f : Fr} {vd vr : Value} (hv : FrV w f vd vr) (ha : f.a ≤ topN) : Calls Tryd.prog 68 #[frV f vd vr] w fun e w' => e = .returned (.bool (decide (f.d.length ≤ 1200) && decide (f.a + f.d.length ≤ topN))) ∧ Mod (fun _ => False) w w' := by
  have hdl := hv.dl
  have hM := (Mod.refl (fun _ => False) w).alloc (.cells (frC f vd vr) 27)
  have HL := Lib.hid (ok_long (hv.kept hM))
  have HW := Lib.hid (loadWhole w f vd vr hv.t)
  have HMM := Lib.hid hM
  obtain ⟨da, dc, rfl, _⟩ := byts_val hv.d
  have e2 : (frC f (.slice da f.d.length dc) vr)[2]? = some (.int .u64 (f.a : Int)) := rfl
  have e6 : (frC f (.slice da f.d.length dc) vr)[6]? = some (.slice da f.d.length dc) := rfl
  have hai : (f.a : Int) ≤ 4611686018427387903 := by unfold topN at ha; omega
  unfold frV at *
  clear hv hM ha
  generalize frC f (.slice da f.d.length dc) vr = C at *
  generalize f.d.length = n at *
  generalize f.a = m at *
  by_cases hn : (n : Int) ≤ 1200
  · have hd : decide (n ≤ 1200) = true := by simpa using (by omega : n ≤ 1200)
    rw [hd] at HL ⊢
    have hw1 : IntKind.u64.wrap (n : Int) = n := IntWalk.u64_in _ (by omega)
    clear hd
    go_enter Tryd.func68, Tryd.ntmps68
    go_wp2_with (first
      | ((with_reducible refine wpList_load_v 27 (.tmp 1) ?_ ?_ (.pointer (some ⟨w.heap.size, 0, none⟩)) (.agg C) ?_ (HW.out _ rfl) ?_); (· exact rfl); (· exact rfl); (· exact rfl))
      | (refine (HL.out).mono ?_; rintro e w1 ⟨rfl, hM1⟩; have g2 := hM1.cellAt (show (w.alloc (.cells C 27)).cell? ⟨w.heap.size, 2, none⟩ = _ from (by simpa using e2)) (fun h => h); have g6 := hM1.cellAt (show (w.alloc (.cells C 27)).cell? ⟨w.heap.size, 6, none⟩ = _ from (by simpa using e6)) (fun h => h); have HM1 := Lib.hid hM1; clear hM1)
      | fail)
    all_goals go_ret
    all_goals refine ⟨ret_bool ?_, HMM.out.trans HM1.out⟩
    all_goals (unfold topN; rw [Bool.eq_iff_iff]; simp_all <;> omega)
  · have hd : decide (n ≤ 1200) = false := by simpa using (by omega : 1200 < n)
    rw [hd] at HL ⊢
    clear hd
    go_enter Tryd.func68, Tryd.ntmps68
    go_wp2_with (first
      | ((with_reducible refine wpList_load_v 27 (.tmp 1) ?_ ?_ (.pointer (some ⟨w.heap.size, 0, none⟩)) (.agg C) ?_ (HW.out _ rfl) ?_); (· exact rfl); (· exact rfl); (· exact rfl))
      | (refine (HL.out).mono ?_; rintro e w1 ⟨rfl, hM1⟩)
      | fail)
    all_goals go_ret
    all_goals exact ⟨rfl, HMM.out.trans hM1⟩
set_option maxHeartbeats 1000000 in
set_option maxRecDepth 10000 in
theorem ok_tokn {w : World} {f : Fr} {vd vr : Value} (hv : FrV w f vd vr) : Calls Tryd.prog 71 #[frV f vd vr] w fun e w' => e = .returned (.bool (decide (f.d.length ≤ 1200) && decide (1 ≤ f.d.length))) ∧ Mod (fun _ => False) w w' := by
  have hdl := hv.dl
  have hM := (Mod.refl (fun _ => False) w).alloc (.cells (frC f vd vr) 27)
  have HL := Lib.hid (ok_long (hv.kept hM))
  have HW := Lib.hid (loadWhole w f vd vr hv.t)
  have HMM := Lib.hid hM
  obtain ⟨da, dc, rfl, _⟩ := byts_val hv.d
  have e6 : (frC f (.slice da f.d.length dc) vr)[6]? = some (.slice da f.d.length dc) := rfl
  unfold frV at *
  clear hv hM
  generalize frC f (.slice da f.d.length dc) vr = C at *
  generalize f.d.length = n at *
  by_cases hn : (n : Int) ≤ 1200
  · have hd : decide (n ≤ 1200) = true := by simpa using (by omega : n ≤ 1200)
    rw [hd] at HL ⊢
    clear hd
    go_enter Tryd.func71, Tryd.ntmps71
    go_wp2_with (first
      | ((with_reducible refine wpList_load_v 27 (.tmp 1) ?_ ?_ (.pointer (some ⟨w.heap.size, 0, none⟩)) (.agg C) ?_ (HW.out _ rfl) ?_); (· exact rfl); (· exact rfl); (· exact rfl))
      | (refine (HL.out).mono ?_; rintro e w1 ⟨rfl, hM1⟩; have g6 := hM1.cellAt (show (w.alloc (.cells C 27)).cell? ⟨w.heap.size, 6, none⟩ = _ from (by simpa using e6)) (fun h => h); have HM1 := Lib.hid hM1; clear hM1)
      | fail)
    all_goals go_ret
    all_goals refine ⟨ret_bool ?_, HMM.out.trans HM1.out⟩
    all_goals (rw [Bool.eq_iff_iff]; simp_all <;> omega)
  · have hd : decide (n ≤ 1200) = false := by simpa using (by omega : 1200 < n)
    rw [hd] at HL ⊢
    clear hd
    go_enter Tryd.func71, Tryd.ntmps71
    go_wp2_with (first
      | ((with_reducible refine wpList_load_v 27 (.tmp 1) ?_ ?_ (.pointer (some ⟨w.heap.size, 0, none⟩)) (.agg C) ?_ (HW.out _ rfl) ?_); (· exact rfl); (· exact rfl); (· exact rfl))
      | (refine (HL.out).mono ?_; rintro e w1 ⟨rfl, hM1⟩)
      | fail)
    all_goals go_ret
    all_goals exact ⟨rfl, HMM.out.trans hM1⟩
set_option maxHeartbeats 1000000 in
set_option maxRecDepth 10000 in
theorem ok_close {w : World} {f : Fr} {vd vr : Value} (hv : FrV w f vd vr) : Calls Tryd.prog 86 #[frV f vd vr] w fun e w' => e = .returned (.bool (decide (f.d.length ≤ 1200) && (!f.fl || decide (f.a = 0)))) ∧ Mod (fun _ => False) w w' := by
  have hM := (Mod.refl (fun _ => False) w).alloc (.cells (frC f vd vr) 27)
  have HL := Lib.hid (ok_long (hv.kept hM))
  have HW := Lib.hid (loadWhole w f vd vr hv.t)
  have HMM := Lib.hid hM
  have e2 : (frC f vd vr)[2]? = some (.int .u64 (f.a : Int)) := rfl
  have e5 : (frC f vd vr)[5]? = some (.bool f.fl) := rfl
  unfold frV at *
  clear hv hM
  generalize frC f vd vr = C at *
  generalize f.a = m at *
  generalize f.fl = b at *
  cases hn : decide (f.d.length ≤ 1200)
  · rw [hn] at HL
    clear hn
    go_enter Tryd.func86, Tryd.ntmps86
    go_wp2_with (first
      | ((with_reducible refine wpList_load_v 27 (.tmp 1) ?_ ?_ (.pointer (some ⟨w.heap.size, 0, none⟩)) (.agg C) ?_ (HW.out _ rfl) ?_); (· exact rfl); (· exact rfl); (· exact rfl))
      | (refine (HL.out).mono ?_; rintro e w1 ⟨rfl, hM1⟩)
      | fail)
    all_goals go_ret
    all_goals exact ⟨rfl, HMM.out.trans hM1⟩
  · rw [hn] at HL
    clear hn
    cases b
    all_goals
      go_enter Tryd.func86, Tryd.ntmps86
      go_wp2_with (first
        | ((with_reducible refine wpList_load_v 27 (.tmp 1) ?_ ?_ (.pointer (some ⟨w.heap.size, 0, none⟩)) (.agg C) ?_ (HW.out _ rfl) ?_); (· exact rfl); (· exact rfl); (· exact rfl))
        | (refine (HL.out).mono ?_; rintro e w1 ⟨rfl, hM1⟩; have g5 := hM1.cellAt (show (w.alloc (.cells C 27)).cell? ⟨w.heap.size, 5, none⟩ = _ from (by simpa using e5)) (fun h => h); have g2 := hM1.cellAt (show (w.alloc (.cells C 27)).cell? ⟨w.heap.size, 2, none⟩ = _ from (by simpa using e2)) (fun h => h); have HM1 := Lib.hid hM1; clear hM1)
        | fail)
    all_goals go_ret
    all_goals refine ⟨ret_bool ?_, HMM.out.trans HM1.out⟩
    all_goals (rw [Bool.eq_iff_iff]; simp_all <;> omega)
set_option maxRecDepth 10000 in
theorem ok_cid {w : World} {f : Fr} {vd vr : Value} (hv : FrV w f vd vr) : Calls Tryd.prog 78 #[frV f vd vr] w fun e w' => e = .returned (.bool (decide (f.a ≤ f.id) && decide (1 ≤ f.d.length) && decide (f.d.length ≤ 20))) ∧ Mod (fun _ => False) w w' := by
  have hdl := hv.dl
  obtain ⟨da, dc, rfl, _⟩ := byts_val hv.d
  have e1 : (frC f (.slice da f.d.length dc) vr)[1]? = some (.int .u64 (f.id : Int)) := rfl
  have e2 : (frC f (.slice da f.d.length dc) vr)[2]? = some (.int .u64 (f.a : Int)) := rfl
  have e6 : (frC f (.slice da f.d.length dc) vr)[6]? = some (.slice da f.d.length dc) := rfl
  unfold frV
  clear hv
  generalize frC f (.slice da f.d.length dc) vr = C at *
  generalize f.d.length = n at *
  generalize f.a = m at *
  generalize f.id = i at *
  go_enter Tryd.func78, Tryd.ntmps78
  go_wp2
  all_goals go_ret
  all_goals refine ⟨ret_bool ?_, (Mod.refl _ _).alloc _⟩
  all_goals (rw [Bool.eq_iff_iff]; simp_all <;> omega)
end Go.Proofs.YteegonadodmeeaaDoor
