/- Is a frame right: the program's, for all kinds. (printed by gengai.py) -/
import Derived.Test.YteegonadodmeeaaDoorGaH
namespace Go.Proofs.YteegonadodmeeaaDoor
open Go.RowKit

theorem hask5 : HasK 43 ⟨false, true, false, false, false, false, false, false⟩ := by
  intro w f vd vr hv
  refine (has5 hv).mono ?_
  rintro e w' ⟨rfl, hM⟩
  exact ⟨_, _, rfl, ⟨Sl.nil _ _, Sl.nil _ _, rfl, by simp [onlyF, Fr.noK], by simp [onlyF, Fr.noK]⟩, hM⟩
theorem ent5 : Enter 43 := fun _ _ => by kernel_rfl
theorem hask6 : HasK 44 ⟨true, true, false, false, false, false, false, false⟩ := by
  intro w f vd vr hv
  refine (has6 hv).mono ?_
  rintro e w' ⟨rfl, hM⟩
  exact ⟨_, _, rfl, ⟨Sl.nil _ _, Sl.nil _ _, rfl, by simp [onlyF, Fr.noK], by simp [onlyF, Fr.noK]⟩, hM⟩
theorem ent6 : Enter 44 := fun _ _ => by kernel_rfl
theorem hask7 : HasK 45 ⟨false, true, false, false, true, false, false, false⟩ := by
  intro w f vd vr hv
  refine (has7 hv).mono ?_
  rintro e w' ⟨rfl, hM⟩
  exact ⟨_, _, rfl, ⟨Sl.nil _ _, Sl.nil _ _, rfl, by simp [onlyF, Fr.noK], by simp [onlyF, Fr.noK]⟩, hM⟩
theorem ent7 : Enter 45 := fun _ _ => by kernel_rfl
theorem hask8 : HasK 46 ⟨false, false, false, false, false, true, false, false⟩ := by
  intro w f vd vr hv
  refine (has8 hv).mono ?_
  rintro e w' ⟨rfl, hM⟩
  exact ⟨_, _, rfl, ⟨byts_kept hv.d hM, Sl.nil _ _, rfl, hv.dl, by simp [onlyF, Fr.noK]⟩, hM⟩
theorem ent8 : Enter 46 := fun _ _ => by kernel_rfl
theorem hask9 : HasK 47 ⟨false, false, false, false, false, false, false, false⟩ := by
  intro w f vd vr hv
  refine (has9 hv).mono ?_
  rintro e w' ⟨rfl, hM⟩
  exact ⟨_, _, rfl, ⟨Sl.nil _ _, Sl.nil _ _, rfl, by simp [onlyF, Fr.noK], by simp [onlyF, Fr.noK]⟩, hM⟩
theorem ent9 : Enter 47 := fun _ _ => by kernel_rfl
theorem hask18 : HasK 57 ⟨false, false, true, false, false, false, true, false⟩ := by
  intro w f vd vr hv
  refine (has18 hv).mono ?_
  rintro e w' ⟨rfl, hM⟩
  exact ⟨_, _, rfl, ⟨Sl.nil _ _, hv.r.kept hM, rfl, by simp [onlyF, Fr.noK], hv.rl⟩, hM⟩
theorem ent18 : Enter 57 := fun _ _ => by kernel_rfl
theorem hask19 : HasK 61 ⟨true, true, false, true, false, false, false, false⟩ := by
  intro w f vd vr hv
  refine (has19 hv).mono ?_
  rintro e w' ⟨rfl, hM⟩
  exact ⟨_, _, rfl, ⟨Sl.nil _ _, Sl.nil _ _, rfl, by simp [onlyF, Fr.noK], by simp [onlyF, Fr.noK]⟩, hM⟩
theorem ent19 : Enter 61 := fun _ _ => by kernel_rfl
theorem hask22 : HasK 64 ⟨true, false, false, true, false, false, false, false⟩ := by
  intro w f vd vr hv
  refine (has22 hv).mono ?_
  rintro e w' ⟨rfl, hM⟩
  exact ⟨_, _, rfl, ⟨Sl.nil _ _, Sl.nil _ _, rfl, by simp [onlyF, Fr.noK], by simp [onlyF, Fr.noK]⟩, hM⟩
theorem ent22 : Enter 64 := fun _ _ => by kernel_rfl
theorem hask25 : HasK 67 ⟨false, true, false, false, false, true, false, false⟩ := by
  intro w f vd vr hv
  refine (has25 hv).mono ?_
  rintro e w' ⟨rfl, hM⟩
  exact ⟨_, _, rfl, ⟨byts_kept hv.d hM, Sl.nil _ _, rfl, hv.dl, by simp [onlyF, Fr.noK]⟩, hM⟩
theorem ent25 : Enter 67 := fun _ _ => by kernel_rfl
theorem hask31 : HasK 75 ⟨true, true, false, false, true, true, false, false⟩ := by
  intro w f vd vr hv
  refine (has31 hv).mono ?_
  rintro e w' ⟨rfl, hM⟩
  exact ⟨_, _, rfl, ⟨byts_kept hv.d hM, Sl.nil _ _, rfl, hv.dl, by simp [onlyF, Fr.noK]⟩, hM⟩
theorem ent31 : Enter 75 := fun _ _ => by kernel_rfl
theorem hask32 : HasK 77 ⟨true, true, false, false, false, true, false, true⟩ := by
  intro w f vd vr hv
  refine (has32 hv).mono ?_
  rintro e w' ⟨rfl, hM⟩
  exact ⟨_, _, rfl, ⟨byts_kept hv.d hM, Sl.nil _ _, hv.t, hv.dl, by simp [onlyF, Fr.noK]⟩, hM⟩
theorem ent32 : Enter 77 := fun _ _ => by kernel_rfl
theorem hask36 : HasK 83 ⟨true, false, false, false, false, false, false, false⟩ := by
  intro w f vd vr hv
  refine (has36 hv).mono ?_
  rintro e w' ⟨rfl, hM⟩
  exact ⟨_, _, rfl, ⟨Sl.nil _ _, Sl.nil _ _, rfl, by simp [onlyF, Fr.noK], by simp [onlyF, Fr.noK]⟩, hM⟩
theorem ent36 : Enter 83 := fun _ _ => by kernel_rfl
theorem hask38 : HasK 85 ⟨false, true, false, true, true, true, false, false⟩ := by
  intro w f vd vr hv
  refine (has38 hv).mono ?_
  rintro e w' ⟨rfl, hM⟩
  exact ⟨_, _, rfl, ⟨byts_kept hv.d hM, Sl.nil _ _, rfl, hv.dl, by simp [onlyF, Fr.noK]⟩, hM⟩
theorem ent38 : Enter 85 := fun _ _ => by kernel_rfl
theorem ent_fine : Enter 56 := fun _ _ => by kernel_rfl
theorem ent_ranges : Enter 58 := fun _ _ => by kernel_rfl
theorem ent_ends : Enter 68 := fun _ _ => by kernel_rfl
theorem ent_few : Enter 76 := fun _ _ => by kernel_rfl
theorem ent_kinds_16 : Enter 54 := fun _ _ => by kernel_rfl
theorem ent_kinds_28 : Enter 71 := fun _ _ => by kernel_rfl
theorem ent_kinds_33 : Enter 78 := fun _ _ => by kernel_rfl
theorem ent_kinds_15 : Enter 53 := fun _ _ => by kernel_rfl
theorem ent_kinds_39 : Enter 86 := fun _ _ => by kernel_rfl
/-- Numbers that the program can hold. -/
def RngOk (f : Fr) : Prop := ∀ x ∈ f.rs, x.1 ≤ 18446744073709551615
theorem right_any {w : World} {f : Fr} {vd vr : Value} (hv : FrV w f vd vr) (hrl : (f.rs.length : Int) ≤ 100000) (hok : okKey f.k) (hro : RngOk f) :
    Calls Tryd.prog 12 #[frV f vd vr] w fun e w' => e = .returned (.bool (rightF f)) ∧ Mod (fun _ => False) w w' := by
  cases hm : maskK f.k with
  | none => exact right_no hv hm hok
  | some m =>
    have hm' := hm
    unfold maskK at hm
    split at hm
    · unfold maskN at hm
      split at hm
      · have hk : f.k = 0 := by omega
        obtain rfl := Option.some.inj hm
        exact right_kind hv hrl hm' (by rw [hk]; rfl) hask5 (fun X hX ht => by rw [hk]; exact ok_pad X f vd vr (hv.kept hX) ht) ent5 ent_kinds_16 rfl rfl hok
      · have hk : f.k = 1 := by omega
        obtain rfl := Option.some.inj hm
        exact right_kind hv hrl hm' (by rw [hk]; rfl) hask9 (fun X hX ht => by rw [hk]; exact ok_fine) ent9 ent_fine rfl rfl hok
      · have hk : f.k = 2 := by omega
        obtain rfl := Option.some.inj hm
        exact right_kind hv hrl hm' (by rw [hk]; rfl) hask18 (fun X hX _ => by rw [hk]; exact ranges_any (hv.kept hX) hrl hro) ent18 ent_ranges rfl rfl hok
      · have hk : f.k = 4 := by omega
        obtain rfl := Option.some.inj hm
        exact right_kind hv hrl hm' (by rw [hk]; rfl) hask19 (fun X hX ht => by rw [hk]; exact ok_fine) ent19 ent_fine rfl rfl hok
      · have hk : f.k = 5 := by omega
        obtain rfl := Option.some.inj hm
        exact right_kind hv hrl hm' (by rw [hk]; rfl) hask22 (fun X hX ht => by rw [hk]; exact ok_fine) ent22 ent_fine rfl rfl hok
      · have hk : f.k = 6 := by omega
        obtain rfl := Option.some.inj hm
        exact right_kind hv hrl hm' (by rw [hk]; rfl) hask25 (fun X hX ht => by rw [hk]; exact ok_ends (hv.kept hX) (by unfold topB at ht; simp only [Bool.and_eq_true, decide_eq_true_eq] at ht; exact ht.1.1.2)) ent25 ent_ends rfl rfl hok
      · have hk : f.k = 7 := by omega
        obtain rfl := Option.some.inj hm
        exact right_kind hv hrl hm' (by rw [hk]; rfl) hask8 (fun X hX ht => by rw [hk]; exact ok_tokn (hv.kept hX)) ent8 ent_kinds_28 rfl rfl hok
      · have hk : f.k = 8 := by omega
        obtain rfl := Option.some.inj hm
        exact right_kind hv hrl hm' (by rw [hk]; rfl) hask31 (fun X hX ht => by rw [hk]; exact ok_ends (hv.kept hX) (by unfold topB at ht; simp only [Bool.and_eq_true, decide_eq_true_eq] at ht; exact ht.1.1.2)) ent31 ent_ends rfl rfl hok
      · have hk : f.k = 16 := by omega
        obtain rfl := Option.some.inj hm
        exact right_kind hv hrl hm' (by rw [hk]; rfl) hask5 (fun X hX ht => by rw [hk]; exact ok_fine) ent5 ent_fine rfl rfl hok
      · have hk : f.k = 17 := by omega
        obtain rfl := Option.some.inj hm
        exact right_kind hv hrl hm' (by rw [hk]; rfl) hask6 (fun X hX ht => by rw [hk]; exact ok_fine) ent6 ent_fine rfl rfl hok
      · have hk : f.k = 18 := by omega
        obtain rfl := Option.some.inj hm
        exact right_kind hv hrl hm' (by rw [hk]; rfl) hask7 (fun X hX ht => by rw [hk]; exact ok_few) ent7 ent_few rfl rfl hok
      · have hk : f.k = 20 := by omega
        obtain rfl := Option.some.inj hm
        exact right_kind hv hrl hm' (by rw [hk]; rfl) hask5 (fun X hX ht => by rw [hk]; exact ok_fine) ent5 ent_fine rfl rfl hok
      · have hk : f.k = 21 := by omega
        obtain rfl := Option.some.inj hm
        exact right_kind hv hrl hm' (by rw [hk]; rfl) hask6 (fun X hX ht => by rw [hk]; exact ok_fine) ent6 ent_fine rfl rfl hok
      · have hk : f.k = 22 := by omega
        obtain rfl := Option.some.inj hm
        exact right_kind hv hrl hm' (by rw [hk]; rfl) hask7 (fun X hX ht => by rw [hk]; exact ok_few) ent7 ent_few rfl rfl hok
      · have hk : f.k = 24 := by omega
        obtain rfl := Option.some.inj hm
        exact right_kind hv hrl hm' (by rw [hk]; rfl) hask32 (fun X hX ht => by rw [hk]; exact ok_cid (hv.kept hX)) ent32 ent_kinds_33 rfl rfl hok
      · have hk : f.k = 25 := by omega
        obtain rfl := Option.some.inj hm
        exact right_kind hv hrl hm' (by rw [hk]; rfl) hask36 (fun X hX ht => by rw [hk]; exact ok_fine) ent36 ent_fine rfl rfl hok
      · have hk : f.k = 26 := by omega
        obtain rfl := Option.some.inj hm
        exact right_kind hv hrl hm' (by rw [hk]; rfl) hask8 (fun X hX ht => by rw [hk]; exact ok_is8 (hv.kept hX)) ent8 ent_kinds_15 rfl rfl hok
      · have hk : f.k = 27 := by omega
        obtain rfl := Option.some.inj hm
        exact right_kind hv hrl hm' (by rw [hk]; rfl) hask8 (fun X hX ht => by rw [hk]; exact ok_is8 (hv.kept hX)) ent8 ent_kinds_15 rfl rfl hok
      · have hk : f.k = 28 := by omega
        obtain rfl := Option.some.inj hm
        exact right_kind hv hrl hm' (by rw [hk]; rfl) hask38 (fun X hX ht => by rw [hk]; exact ok_close (hv.kept hX)) ent38 ent_kinds_39 rfl rfl hok
      · have hk : f.k = 30 := by omega
        obtain rfl := Option.some.inj hm
        exact right_kind hv hrl hm' (by rw [hk]; rfl) hask9 (fun X hX ht => by rw [hk]; exact ok_fine) ent9 ent_fine rfl rfl hok
      · cases hm
    · cases hm
end Go.Proofs.YteegonadodmeeaaDoor
