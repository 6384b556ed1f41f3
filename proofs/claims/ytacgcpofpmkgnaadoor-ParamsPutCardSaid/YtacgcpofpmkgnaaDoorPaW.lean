/- The walk of ParamsPut. (printed by genpputlaw.py) -/
import Derived.Test.YtacgcpofpmkgnaaDoorPaV
namespace Go.Proofs.YtacgcpofpmkgnaaDoor
open Go.RowKit

set_option maxHeartbeats 8000000 in
set_option maxRecDepth 10000 in
theorem lput_any {w : World} {p : Pm} {a b : Nat} (hT : Tabs w) (h16 : p.t.length = 16) : Calls Tryd.prog 3 #[pmV p, .int .u64 (a : Int), .int .u64 (b : Int)] w fun e w' => e = .returned (.bool true) ∧ Below w.heap.size w w' := by
  have HT := Lib.hid hT
  have H16 := Lib.hid h16
  have hM0 : Mod (fun _ => False) w (w.alloc (.cells (pmC p) 25)) := (Mod.refl _ w).alloc _
  have hP0 := PmB.new w p h16
  have HIA := Lib.hid (fun w => idle_any a b w)
  have HIB := Lib.hid (fun w => refidle_any a b w)
  generalize (idleN a b : Int) = z at *
  generalize (a : Int) = az at *
  generalize (b : Int) = bz at *
  unfold pmV
  clear hT
  go_enter Tryd.func3, Tryd.ntmps3
  go_wp2_with fail
  refine (alive_any _ (hM0.tabs HT.out (fun h => h))).mono ?_
  rintro e w1 ⟨rfl, hM1⟩
  have hP3 := hP0.kept hM1
  have hM3' := hM0.trans hM1
  have HT3 := Lib.hid (hM3'.tabs HT.out (fun h => h))
  clear hM0 hM1 hP0
  go_wp2_with fail
  have hd : Mod (fun _ => False) w1 w1.drew := (Mod.refl _ _).drew
  refine wp_region_held_drew (S := fun X => PmB X w.heap.size p ∧ Mod (fun _ => False) w1 X) (by kernel_rfl) ⟨hP3.kept hd, hd⟩ (fun hS => ?_)
  refine wpAnyH_take (i := 0) (v := .agg (pmC p)) rfl (by kernel_rfl) (by kernel_rfl) (by kernel_rfl) (fun _ _ _ h => h) (Or.inl ⟨by rfl, fun X hX => exec_load rfl (p := .pointer (some ⟨w.heap.size, 0, none⟩)) (by rfl) hX.1.load⟩) hS ?_
  refine wpAnyH_take (i := 2) (v := .agg (pmC p)) rfl (by kernel_rfl) (by kernel_rfl) (by kernel_rfl) (fun _ _ _ h => h) (Or.inl ⟨by rfl, fun X hX => exec_load rfl (p := .pointer (some ⟨w.heap.size, 0, none⟩)) (by rfl) hX.1.load⟩) hS ?_
  refine wpAnyH_ready (rs := [1]) (by kernel_rfl) (by simp) ?_
  refine AllReadyH.cons rfl (fun K hK => ?_) AllReadyH.nil
  go_simp
  refine (may_c H16.out w1.drew).mono ?_
  rintro e X1 ⟨rfl, hM1⟩
  have hd1 := hd.trans hM1
  refine hK.out _ _ ⟨hP3.kept hd1, hd1⟩ (fun hS => ?_)
  clear hK K
  refine wpAnyH_ready (rs := [3]) (by kernel_rfl) (by simp) ?_
  refine AllReadyH.cons rfl (fun K hK => ?_) AllReadyH.nil
  go_simp
  refine (refmay_c H16.out X1).mono ?_
  rintro e X2 ⟨rfl, hM2⟩
  have hd2 := hd1.trans hM2
  refine hK.out _ _ ⟨hP3.kept hd2, hd2⟩ (fun hS => ?_)
  clear hK K
  refine wpAnyH_take (i := 4) (v := .bool true) rfl (by kernel_rfl) (by kernel_rfl) (by kernel_rfl) (fun _ _ _ h => h) (Or.inl ⟨by rfl, fun X hX => ?_⟩) hS ?_
  · go_simp
  refine wpAnyH_take (i := 5) (v := .bool true) rfl (by kernel_rfl) (by kernel_rfl) (by kernel_rfl) (fun _ _ _ h => h) (Or.inl ⟨by rfl, fun X hX => ?_⟩) hS ?_
  · go_simp
  refine wpAnyH_take (i := 6) (v := .agg (pmC p)) rfl (by kernel_rfl) (by kernel_rfl) (by kernel_rfl) (fun _ _ _ h => h) (Or.inl ⟨by rfl, fun X hX => exec_load rfl (p := .pointer (some ⟨w.heap.size, 0, none⟩)) (by rfl) hX.1.load⟩) hS ?_
  refine wpAnyH_take (i := 8) (v := .agg (pmC p)) rfl (by kernel_rfl) (by kernel_rfl) (by kernel_rfl) (fun _ _ _ h => h) (Or.inl ⟨by rfl, fun X hX => exec_load rfl (p := .pointer (some ⟨w.heap.size, 0, none⟩)) (by rfl) hX.1.load⟩) hS ?_
  refine wpAnyH_ready (rs := [7]) (by kernel_rfl) (by simp) ?_
  refine AllReadyH.cons rfl (fun K hK => ?_) AllReadyH.nil
  go_simp
  refine (put_c H16.out rfl rfl (hd2.tabs HT3.out (fun h => h))).mono ?_
  rintro e X3 ⟨a3, c3, rfl, ho3, hM3⟩
  have hd3 := hd2.trans hM3
  refine hK.out _ _ ⟨hP3.kept hd3, hd3⟩ (fun hS => ?_)
  clear hK K
  refine wpAnyH_ready (rs := [9]) (by kernel_rfl) (by simp) ?_
  refine AllReadyH.cons rfl (fun K hK => ?_) AllReadyH.nil
  go_simp
  refine (refput_c H16.out rfl rfl X3).mono ?_
  rintro e X4 ⟨a4, c4, rfl, ho4, hM4⟩
  have hd4 := hd3.trans hM4
  refine hK.out _ _ ⟨hP3.kept hd4, hd4⟩ (fun hS => ?_)
  clear hK K
  refine wpAnyH_ready (rs := [10]) (by kernel_rfl) (by simp) ?_
  refine AllReadyH.cons rfl (fun K hK => ?_) AllReadyH.nil
  go_simp
  refine (same_c (byts_kept ho3.byts hM4) ho4.byts).mono ?_
  rintro e X5 ⟨rfl, hM5⟩
  rw [show decide (pputL p = pputL p) = true from decide_eq_true rfl]
  have hd5 := hd4.trans hM5
  refine hK.out _ _ ⟨hP3.kept hd5, hd5⟩ (fun hS => ?_)
  clear hK K
  refine wpAnyH_take (i := 11) (v := .bool true) rfl (by kernel_rfl) (by kernel_rfl) (by kernel_rfl) (fun _ _ _ h => h) (Or.inl ⟨by rfl, fun X hX => ?_⟩) hS ?_
  · go_simp
  refine wpAnyH_take (i := 12) (v := .bool true) rfl (by kernel_rfl) (by kernel_rfl) (by kernel_rfl) (fun _ _ _ h => h) (Or.inl ⟨by rfl, fun X hX => ?_⟩) hS ?_
  · go_simp
  refine wpAnyH_take (i := 13) (v := .int .u64 az) rfl (by kernel_rfl) (by kernel_rfl) (by kernel_rfl) (fun _ _ _ h => h) (Or.inl ⟨by rfl, fun X hX => ?_⟩) hS ?_
  · go_simp
  refine wpAnyH_take (i := 14) (v := .int .u64 bz) rfl (by kernel_rfl) (by kernel_rfl) (by kernel_rfl) (fun _ _ _ h => h) (Or.inl ⟨by rfl, fun X hX => ?_⟩) hS ?_
  · go_simp
  refine wpAnyH_take (i := 16) (v := .int .u64 az) rfl (by kernel_rfl) (by kernel_rfl) (by kernel_rfl) (fun _ _ _ h => h) (Or.inl ⟨by rfl, fun X hX => ?_⟩) hS ?_
  · go_simp
  refine wpAnyH_take (i := 17) (v := .int .u64 bz) rfl (by kernel_rfl) (by kernel_rfl) (by kernel_rfl) (fun _ _ _ h => h) (Or.inl ⟨by rfl, fun X hX => ?_⟩) hS ?_
  · go_simp
  refine wpAnyH_ready (rs := [15]) (by kernel_rfl) (by simp) ?_
  refine AllReadyH.cons rfl (fun K hK => ?_) AllReadyH.nil
  go_simp
  refine (HIA.out X5).mono ?_
  rintro e X6 ⟨rfl, rfl⟩
  refine hK.out _ _ ⟨hP3.kept hd5, hd5⟩ (fun hS => ?_)
  clear hK K
  refine wpAnyH_ready (rs := [18]) (by kernel_rfl) (by simp) ?_
  refine AllReadyH.cons rfl (fun K hK => ?_) AllReadyH.nil
  go_simp
  refine (HIB.out X5).mono ?_
  rintro e X7 ⟨rfl, rfl⟩
  refine hK.out _ _ ⟨hP3.kept hd5, hd5⟩ (fun hS => ?_)
  clear hK K
  refine wpAnyH_take (i := 19) (v := .bool true) rfl (by kernel_rfl) (by kernel_rfl) (by kernel_rfl) (fun _ _ _ h => h) (Or.inl ⟨by rfl, fun X hX => ?_⟩) hS ?_
  · go_simp
  refine wpAnyH_take (i := 20) (v := .bool true) rfl (by kernel_rfl) (by kernel_rfl) (by kernel_rfl) (fun _ _ _ h => h) (Or.inl ⟨by rfl, fun X hX => ?_⟩) hS ?_
  · go_simp
  refine wpAnyH_take (i := 21) (v := .bool true) rfl (by kernel_rfl) (by kernel_rfl) (by kernel_rfl) (fun _ _ _ h => h) (Or.inl ⟨by rfl, fun X hX => ?_⟩) hS ?_
  · go_simp
  refine wpAnyH_done (by kernel_rfl) ?_ _
  go_wp2_with fail
  go_ret
  exact ⟨rfl, (hM3'.trans hd5).below (Nat.le_refl _) (fun _ _ h => h.elim)⟩
end Go.Proofs.YtacgcpofpmkgnaaDoor
