/- The walk of ParamsTwice. -/
import Derived.Test.YtacgcpofpmkgnaaDoorPaQ
import Derived.Test.YtacgcpofpmkgnaaDoorPaR
namespace Go.Proofs.YtacgcpofpmkgnaaDoor
open Go.RowKit

theorem own_nil (w : World) : OwnB (w.alloc (.cells #[] 5)) w.heap.size (.slice (some ⟨w.heap.size, 0, none⟩) 0 0) [] := own_lit w [] #[] 0 w.heap.size rfl rfl (by decide) (Nat.le_refl _)
theorem app_F {w w' : World} {n : Nat} {v v' : Value} {L : List UInt8} {B : Nat} (hA : App w w' B n v v' L) {w0 : World} (hM : Mod (fun _ => False) w0 w) (hB : w0.heap.size ≤ B) : Mod (fun _ => False) w0 w' := hA.modF hM hB

set_option maxHeartbeats 4000000 in
set_option maxRecDepth 10000 in
theorem ltwice_any {w : World} {p : Pm} (hT : Tabs w) (h16 : p.t.length = 16) : Calls Tryd.prog 8 #[pmV p] w fun e w' => e = .returned (.bool true) ∧ Below w.heap.size w w' := by
  have HT := Lib.hid hT
  have H16 := Lib.hid h16
  have HP := Lib.hid (PmB.new w p h16)
  have ZP := Lib.hid (size25 p h16)
  have Z0 := Lib.hid (size25 Pm.zero rfl)
  have O0 := Lib.hid (pm_ones Pm.zero)
  have HNEQ := Lib.hid (fun w => pm_neq w Pm.zero Pm.zero rfl rfl)
  rw [show pmEq Pm.zero Pm.zero = true from (pmEq_iff _ _).2 rfl] at HNEQ
  have h58 := put_len h16
  obtain ⟨L, hL⟩ : ∃ L, L = pputL p := ⟨_, rfl⟩
  obtain ⟨n, hn⟩ : ∃ n, n = L.length := ⟨_, rfl⟩
  have H58 : Hid (n ≤ 58) := by show _ ≤ _; rw [hn, hL]; exact h58
  have HL := Lib.hid hL
  have HN := Lib.hid hn
  have HLE : Hid (L ≠ [] → preadF (L ++ L) = (Pm.zero, 11)) := by
    intro hne
    cases hm : mayB p
    · rw [hL, put_no hm] at hne; exact absurd rfl hne
    · rw [hL] at hne ⊢; exact read_twice hm h16 hne
  unfold pmV
  clear hT h16 hL hn h58
  go_enter Tryd.func8, Tryd.ntmps8
  go_wp2_with fail
  have hM0 : Mod (fun _ => False) w (w.alloc (.cells (pmC p) 25)) := (Mod.refl _ w).alloc _
  refine (alive_any _ (hM0.tabs HT.out (fun h => h))).mono ?_
  rintro e w1 ⟨rfl, hM1⟩
  have HP1 := Lib.hid (HP.out.kept hM1)
  have HM1 := Lib.hid (hM0.trans hM1)
  clear hM0 hM1 HP
  go_wp2_with ((with_reducible refine wpList_load_blk ?_ 25 (.tmp 1) ?_ w.heap.size ?_ (pmC p) 25 _ HP1.out.blk Tryd.underlying25 ?_ ZP.out ?_); (· exact rfl); (· exact rfl); (· exact rfl); (· exact rfl))
  refine (put_c H16.out HL.out.symm HN.out.symm (HM1.out.tabs HT.out (fun h => h))).mono ?_
  rintro e w2 ⟨a2, c2, rfl, ho2, hM2⟩
  have HO2 := Lib.hid ho2.byts
  have HM2 := Lib.hid (HM1.out.trans hM2)
  clear ho2 hM2 HM1 HP1
  go_wp2_with fail
  refine (read_c (show Byts w2 (.slice none 0 0) [] from Sl.nil _ _) (by decide) read_nil).mono ?_
  rintro e w3 ⟨rfl, hM3⟩
  have HO3 := Lib.hid (byts_kept HO2.out hM3)
  have HM3 := Lib.hid (HM2.out.trans hM3)
  clear hM3 HO2 HM2
  by_cases h0 : L = []
  case pos =>
    have hn0 : (n : Int) = 0 := by rw [HN.out, h0]; rfl
    clear h0
    go_wp2_with (first | ((with_reducible refine wpList_store_blk ?_ 25 (.tmp 4) (.tmp 14) ?_ w3.heap.size ?_ _ (pmC Pm.zero) ?_ 25 (Blk.new _ _ _) Z0.out ?_ O0.out ?_); (· exact rfl); (· exact rfl); (· exact rfl); (· exact rfl); (· exact rfl); intro w4 hB hM; obtain ⟨hP4, hM4⟩ := pm_new hB hM rfl; have l4 := hP4.load; have HO4 := Lib.hid (byts_kept HO3.out hM4); have HM4 := Lib.hid (HM3.out.trans hM4); clear hB hM hP4 hM4 HO3 HM3) | ((with_reducible refine wpList_load_g 25 (.tmp 4) ?_ ?_ (.pointer (some ⟨w3.heap.size, 0, none⟩)) (.agg (pmC Pm.zero)) ?_ l4 ?_); (· exact rfl); (· exact rfl); (· exact rfl)) | ((with_reducible refine wpList_eq_g .neq 25 25 (.tmp 19) (.tmp 20) ?_ ?_ (pmC Pm.zero) (pmC Pm.zero) ?_ ?_ guard25 (!true) (HNEQ.out _) ?_); (· exact rfl); (· exact rfl); (· exact rfl); (· exact rfl)))
    go_ret
    exact ⟨rfl, HM4.out.below (Nat.le_refl _) (fun _ _ h => h.elim)⟩
  case neg =>
    have hn0 : ((n : Int) == 0) = false := by
      have : 0 < n := by rw [HN.out]; exact List.length_pos_iff.2 h0
      simp; omega
    have HR := Lib.hid (HLE.out h0)
    clear h0
    have HE1 : Hid (([] : List UInt8).length + L.length = n) := by show _ = _; rw [← HN.out]; simp
    have HE2 : Hid (L.length + L.length = n + n) := by show _ = _; rw [← HN.out]
    have HB1 : Hid ((n : Int) ≤ 140737488355328) := by show _ ≤ _; have := H58.out; omega
    have HB2 : Hid (((n + n : Nat) : Int) ≤ 140737488355328) := by show _ ≤ _; have := H58.out; omega
    go_wp2_with (first | ((with_reducible refine wpList_store_blk ?_ 25 (.tmp 4) (.tmp 14) ?_ w3.heap.size ?_ _ (pmC Pm.zero) ?_ 25 (Blk.new _ _ _) Z0.out ?_ O0.out ?_); (· exact rfl); (· exact rfl); (· exact rfl); (· exact rfl); (· exact rfl); intro w4 hB hM; obtain ⟨hP4, hM4⟩ := pm_new hB hM rfl; have l4 := hP4.load; have HO4 := Lib.hid (byts_kept HO3.out hM4); have HM4 := Lib.hid (HM3.out.trans hM4); clear hB hM hP4 hM4 HO3 HM3) | ((with_reducible refine wpList_load_g 25 (.tmp 4) ?_ ?_ (.pointer (some ⟨w3.heap.size, 0, none⟩)) (.agg (pmC Pm.zero)) ?_ l4 ?_); (· exact rfl); (· exact rfl); (· exact rfl)) | ((with_reducible refine wpList_eq_g .neq 25 25 (.tmp 19) (.tmp 20) ?_ ?_ (pmC Pm.zero) (pmC Pm.zero) ?_ ?_ guard25 (!true) (HNEQ.out _) ?_); (· exact rfl); (· exact rfl); (· exact rfl); (· exact rfl)) | (at_builtin; (refine wpList_append_b rfl (.tmp 27) (.tmp 28) (by rfl) (.slice (some ⟨w4.heap.size, 0, none⟩) 0 0) [] w4.heap.size n (by rfl) (own_nil w4) _ L (by rfl) (byts_kept HO4.out ((Mod.refl _ _).alloc _)) L rfl HE1.out HB1.out (by simp) ?_); intro a5 c5 w5 hA5; have hM5 := app_F hA5 ((Mod.refl (fun _ => False) w4).alloc _) (Nat.le_refl _)) | (at_builtin; (refine wpList_append_b rfl (.tmp 29) (.tmp 30) (by rfl) (.slice a5 n c5) L w4.heap.size (n + n) (by rfl) hA5.own _ L (by rfl) (byts_kept HO4.out hM5) (L ++ L) rfl HE2.out HB2.out hM5.size ?_); intro a6 c6 w6 hA6; have hM6 := app_F hA6 hM5 (Nat.le_refl _)))
    have hb6 : Byts w6 (.slice a6 (n + n) c6) (L ++ L) := hA6.byts
    have HM6 := Lib.hid (HM4.out.trans hM6)
    clear l4 hA5 hM5 hA6 hM6
    refine (read_c hb6 (by rw [List.length_append, ← HN.out]; have := H58.out; omega) HR.out).mono ?_
    rintro e w7 ⟨rfl, hM7⟩
    have HM7 := Lib.hid (HM6.out.trans hM7)
    clear hM7 HM6 hb6
    go_wp2_with ((with_reducible refine wpList_store_blk ?_ 25 (.tmp 6) (.tmp 33) ?_ w7.heap.size ?_ _ (pmC Pm.zero) ?_ 25 (Blk.new _ _ _) Z0.out ?_ O0.out ?_); (· exact rfl); (· exact rfl); (· exact rfl); (· exact rfl); (· exact rfl); intro w8 hB hM; obtain ⟨hP8, hM8⟩ := pm_new hB hM rfl; have HM8 := Lib.hid (HM7.out.trans hM8); clear hB hM hP8 hM8 HM7)
    go_ret
    exact ⟨rfl, HM8.out.below (Nat.le_refl _) (fun _ _ h => h.elim)⟩
end Go.Proofs.YtacgcpofpmkgnaaDoor
