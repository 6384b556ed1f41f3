/- Is a frame right: the program's. -/
import Derived.Test.YtcnpiclpdgkngaaDoorFaD
namespace Go.Proofs.YtcnpiclpdgkngaaDoor
open Go.RowKit

/-- A frame in memory. -/
structure HFV (w : World) (f : HF) (vs vd : Value) : Prop where
  st : SetV w vs f.st
  d : Byts w vd f.d
  sl : (f.st.length : Int) ≤ 100000
  dl : (f.d.length : Int) ≤ 140737488355328
theorem HFV.kept {w w' : World} {f : HF} {vs vd : Value} (h : HFV w f vs vd) (hM : Mod (fun _ => False) w w') : HFV w' f vs vd := ⟨h.st.kept hM, Sl.kept h.d hM (fun _ _ h => h), h.sl, h.dl⟩
def hfA (f : HF) (vs vd : Value) : Value := .agg #[.int .i64 f.k, .int .u64 (f.id : Int), vs, vd]
theorem right_data {f : HF} (h : f.k = 0 ∨ f.k = 1) : rightH f = (decide (f.id = 0) && decide (f.st.length = 0) && decide (f.d.length ≤ 1000)) := by
  unfold rightH isData
  rcases h with h | h <;> rw [h] <;> rfl
theorem right_set {f : HF} (h : f.k = 4) : rightH f = (decide (f.id = 0) && decide (f.d.length = 0) && settingsB f.st) := by
  unfold rightH isData
  rw [h]
  rfl
theorem right_id {f : HF} (h : f.k = 3 ∨ f.k = 7 ∨ f.k = 13) : rightH f = (decide (f.id ≤ topN) && decide (f.d.length + f.st.length = 0)) := by
  unfold rightH isData isId
  rcases h with h | h | h <;> rw [h] <;> rfl
theorem right_none {f : HF} (h : ¬ (f.k = 0 ∨ f.k = 1) ∧ ¬ f.k = 4 ∧ ¬ (f.k = 3 ∨ f.k = 7 ∨ f.k = 13)) : rightH f = false := by
  unfold rightH isData isId
  obtain ⟨h1, h2, h3⟩ := h
  have e1 : (decide (f.k = 0) || decide (f.k = 1)) = false := by simp; omega
  have e2 : (decide (f.k = 3) || decide (f.k = 7) || decide (f.k = 13)) = false := by simp; omega
  rw [e1, e2, if_neg (by simp), if_neg h2, if_neg (by simp)]
set_option maxHeartbeats 4000000 in
set_option maxRecDepth 10000 in
theorem right_any {w : World} {f : HF} {vs vd : Value} (hv : HFV w f vs vd) : Calls Tryd.prog 12 #[hfA f vs vd] w fun e w' => e = .returned (.bool (rightH f)) ∧ Mod (fun _ => False) w w' := by
  have HV := Lib.hid hv
  have hsl := hv.sl
  have hdl := hv.dl
  obtain ⟨sa, sc, rfl, _⟩ := set_val hv.st
  obtain ⟨da, dc, rfl, _⟩ := byts_val hv.d
  unfold hfA
  obtain ⟨R, hR⟩ : ∃ R, R = rightH f := ⟨_, rfl⟩
  rw [← hR]
  by_cases h0 : f.k = 0 ∨ f.k = 1
  · have HR := Lib.hid (hR.trans (right_data h0))
    clear hv hR
    generalize f.st.length = ns at *
    generalize f.d.length = nd at *
    generalize f.id = i at *
    rcases h0 with h | h
    all_goals
      rw [h]
      clear h
      go_enter Tryd.func12, Tryd.ntmps12
      go_wp2
    all_goals go_ret
    all_goals refine ⟨ret_bool ?_, (Mod.refl _ w).alloc _⟩
    all_goals (rw [HR.out]; simp_all <;> omega)
  · by_cases h4 : f.k = 4
    · have HR := Lib.hid (hR.trans (right_set h4))
      clear hv hR h0
      rw [h4]
      clear h4
      generalize hS : settingsB f.st = S at *
      have HSS := Lib.hid hS
      clear hS
      generalize f.st.length = ns at *
      generalize f.d.length = nd at *
      generalize f.id = i at *
      go_enter Tryd.func12, Tryd.ntmps12
      go_wp2_with fail
      all_goals first
        | (go_ret
           refine ⟨ret_bool ?_, (Mod.refl _ w).alloc _⟩
           rw [HR.out]
           simp_all)
        | (refine (settings_any (HV.out.st.kept ((Mod.refl (fun _ => False) w).alloc _)) HV.out.sl).mono ?_
           rintro e w1 ⟨rfl, hM1⟩
           rw [HSS.out]
           go_wp2_with fail
           go_ret
           refine ⟨ret_bool ?_, ((Mod.refl _ w).alloc _).trans hM1⟩
           rw [HR.out]
           simp_all)
    · by_cases h3 : f.k = 3 ∨ f.k = 7 ∨ f.k = 13
      · have HR := Lib.hid (hR.trans (right_id h3))
        clear hv hR h0 h4
        generalize f.st.length = ns at *
        generalize f.d.length = nd at *
        generalize f.id = i at *
        have hw : IntKind.i64.wrap ((nd : Int) + (ns : Int)) = (nd : Int) + ns := IntWalk.i64_in _ (by omega)
        rcases h3 with h | h | h
        all_goals
          rw [h]
          clear h
          go_enter Tryd.func12, Tryd.ntmps12
          go_wp2
        all_goals go_ret
        all_goals refine ⟨ret_bool ?_, (Mod.refl _ w).alloc _⟩
        all_goals (rw [HR.out]; unfold topN; rw [Bool.eq_iff_iff]; simp_all <;> omega)
      · have HR := Lib.hid (hR.trans (right_none ⟨h0, h4, h3⟩))
        generalize f.k = k at *
        have t0 : (k == 0) = false := by simp; omega
        have t1 : (k == 1) = false := by simp; omega
        have t4 : (k == 4) = false := by simp; omega
        have t3 : (k == 3) = false := by simp; omega
        have t7 : (k == 7) = false := by simp; omega
        have t13 : (k == 13) = false := by simp; omega
        clear hv hR h0 h4 h3
        generalize f.st.length = ns at *
        generalize f.d.length = nd at *
        generalize f.id = i at *
        go_enter Tryd.func12, Tryd.ntmps12
        go_wp2
        go_ret
        exact ⟨ret_bool HR.out.symm, (Mod.refl _ w).alloc _⟩
end Go.Proofs.YtcnpiclpdgkngaaDoor
