/- The laws' example, walked. -/
import Derived.Test.YtacgcpofpmkgnaaDoorPaO
namespace Go.Proofs.YtacgcpofpmkgnaaDoor
open Go.RowKit

theorem may_c {p : Pm} (h : p.t.length = 16) (w : World) : Calls Tryd.prog 10 #[.agg (pmC p)] w fun e w' => e = .returned (.bool (mayB p)) ∧ Mod (fun _ => False) w w' := may_any h w
theorem refmay_c {p : Pm} (h : p.t.length = 16) (w : World) : Calls Tryd.prog 11 #[.agg (pmC p)] w fun e w' => e = .returned (.bool (mayB p)) ∧ Mod (fun _ => False) w w' := refmay_any h w
theorem put_c {p : Pm} (h : p.t.length = 16) {L : List UInt8} {n : Nat} (hL : pputL p = L) (hn : L.length = n) {w : World} (hT : Tabs w) : Calls Tryd.prog 13 #[.agg (pmC p)] w fun e w' => ∃ a c, e = .returned (.slice a n c) ∧ OwnB w' w.heap.size (.slice a n c) L ∧ Mod (fun _ => False) w w' := by
  subst hL hn
  refine (show Calls Tryd.prog 13 #[.agg (pmC p)] w _ from pput_any h hT).mono ?_
  rintro e w' ⟨v, rfl, ho, hM⟩
  obtain ⟨a, c, rfl, _⟩ := byts_val ho.byts
  exact ⟨a, c, rfl, ho, hM⟩
theorem refput_c {p : Pm} (h : p.t.length = 16) {L : List UInt8} {n : Nat} (hL : pputL p = L) (hn : L.length = n) (w : World) : Calls Tryd.prog 14 #[.agg (pmC p)] w fun e w' => ∃ a c, e = .returned (.slice a n c) ∧ OwnB w' w.heap.size (.slice a n c) L ∧ Mod (fun _ => False) w w' := by
  subst hL hn
  refine (show Calls Tryd.prog 14 #[.agg (pmC p)] w _ from refpput_any h w).mono ?_
  rintro e w' ⟨v, rfl, ho, hM⟩
  obtain ⟨a, c, rfl, _⟩ := byts_val ho.byts
  exact ⟨a, c, rfl, ho, hM⟩
theorem read_c {w : World} {v : Value} {l : List UInt8} {q : Pm} {z : Int} (h : Byts w v l) (hl : (l.length : Int) ≤ 100000) (hq : preadF l = (q, z)) : Calls Tryd.prog 17 #[v] w fun e w' => e = .returned (.tuple #[.agg (pmC q), .int .i64 z]) ∧ Mod (fun _ => False) w w' := by
  refine (pread_any h hl).mono ?_
  rintro e w' ⟨he, hM⟩
  rw [hq] at he
  exact ⟨he, hM⟩
theorem refread_c {w : World} {v : Value} {l : List UInt8} {q : Pm} {z : Int} (h : Byts w v l) (hl : (l.length : Int) ≤ 5000) (hq : preadF l = (q, z)) : Calls Tryd.prog 18 #[v] w fun e w' => e = .returned (.tuple #[.agg (pmC q), .int .i64 z]) ∧ Mod (fun _ => False) w w' := by
  refine (refpread_any h hl).mono ?_
  rintro e w' ⟨he, hM⟩
  rw [hq] at he
  exact ⟨he, hM⟩
theorem same_c {w : World} {a b : Value} {la lb : List UInt8} (ha : Byts w a la) (hb : Byts w b lb) : Calls Tryd.prog 12 #[a, b] w fun e w' => e = .returned (.bool (decide (la = lb))) ∧ Mod (fun _ => False) w w' := by
  refine (same_any ha hb).mono ?_
  rintro e w' ⟨⟨q, rfl⟩, rfl⟩
  exact ⟨rfl, (Mod.refl _ _).drewN q⟩
theorem pm_ones (p : Pm) : ∀ v ∈ (pmC p).toList, v.oneCell' = true := fun v hv => pmC_one p v (by simpa [pmC] using hv)
/-- Parameters laid in a new variable. -/
theorem pm_new {w w' : World} {C : Array Value} {p : Pm} (hB : Blk w' w.heap.size (pmC p) 25) (hM : Mod (fun k => k = w.heap.size) (w.alloc (.cells C 25)) w') (h : p.t.length = 16) : PmB w' w.heap.size p ∧ Mod (fun _ => False) w w' :=
  ⟨⟨hB, h⟩, ((Mod.refl (fun _ => False) w).alloc _).trans' hM (fun i hi e => by omega)⟩

set_option maxHeartbeats 4000000 in
set_option maxRecDepth 10000 in
theorem alive_any (w : World) (hT : Tabs w) : Calls Tryd.prog 9 #[] w fun e w' => e = .returned (.bool true) ∧ Mod (fun _ => False) w w' := by
  have HT := Lib.hid hT
  have ZA := Lib.hid (size25 pA rfl)
  have Z0 := Lib.hid (size25 Pm.zero rfl)
  have OA := Lib.hid (pm_ones pA)
  have O0 := Lib.hid (pm_ones Pm.zero)
  have HEQ := Lib.hid (fun w => pm_eql w pA pA rfl rfl)
  clear hT
  go_enter Tryd.func9, Tryd.ntmps9
  go_wp2_with (first | ((with_reducible refine wpList_store_blk ?_ 25 (.tmp 1) (.tmp 7) ?_ w.heap.size ?_ _ (pmC pA) ?_ 25 (Blk.new _ _ _) ZA.out ?_ OA.out ?_); (· exact rfl); (· exact rfl); (· exact rfl); (· exact rfl); (· exact rfl); intro w1 hB hM; obtain ⟨hP1, hM1⟩ := pm_new hB hM rfl; have HP1 := Lib.hid hP1; have HM1 := Lib.hid hM1; clear hB hM hP1 hM1) | ((with_reducible refine wpList_load_blk ?_ 25 (.tmp 1) ?_ w.heap.size ?_ (pmC pA) 25 _ HP1.out.blk Tryd.underlying25 ?_ ZA.out ?_); (· exact rfl); (· exact rfl); (· exact rfl); (· exact rfl)))
  refine (put_c (p := pA) rfl rfl rfl (HM1.out.tabs HT.out (fun h => h))).mono ?_
  rintro e w2 ⟨a2, c2, rfl, ho2, hM2⟩
  have HO2 := Lib.hid ho2.byts
  have HP2 := Lib.hid (HP1.out.kept hM2)
  have HM2 := Lib.hid (HM1.out.trans hM2)
  clear ho2 hM2 HP1 HM1
  go_wp2_with fail
  refine (read_c HO2.out (by decide) read_pA).mono ?_
  rintro e w3 ⟨rfl, hM3⟩
  have HP3 := Lib.hid (HP2.out.kept hM3)
  have HM3 := Lib.hid (HM2.out.trans hM3)
  clear hM3 HP2 HM2 HO2
  go_wp2_with ((with_reducible refine wpList_store_blk ?_ 25 (.tmp 2) (.tmp 12) ?_ w3.heap.size ?_ _ (pmC pA) ?_ 25 (Blk.new _ _ _) ZA.out ?_ OA.out ?_); (· exact rfl); (· exact rfl); (· exact rfl); (· exact rfl); (· exact rfl); intro w4 hB hM; obtain ⟨hP4, hM4⟩ := pm_new hB hM rfl; have HP4 := Lib.hid (HP3.out.kept hM4); have HQ4 := Lib.hid hP4; have HM4 := Lib.hid (HM3.out.trans hM4); clear hB hM hP4 hM4 HP3 HM3)
  have hl4 := byts_lit w4 [1, 1, 5, 1, 1, 5] _ 6 rfl rfl (by decide)
  refine (read_c hl4 (by decide) read_11).mono ?_
  rintro e w5 ⟨rfl, hM5⟩
  have hM5' := ((Mod.refl (fun _ => False) w4).alloc _).trans hM5
  have HP5 := Lib.hid (HP4.out.kept hM5')
  have HQ5 := Lib.hid (HQ4.out.kept hM5')
  have HM5 := Lib.hid (HM4.out.trans hM5')
  clear hM5 hM5' hl4 HP4 HQ4 HM4
  go_wp2_with ((with_reducible refine wpList_store_blk ?_ 25 (.tmp 4) (.tmp 17) ?_ w5.heap.size ?_ _ (pmC Pm.zero) ?_ 25 (Blk.new _ _ _) Z0.out ?_ O0.out ?_); (· exact rfl); (· exact rfl); (· exact rfl); (· exact rfl); (· exact rfl); intro w6 hB hM; obtain ⟨hP6, hM6⟩ := pm_new hB hM rfl; have HP6 := Lib.hid (HP5.out.kept hM6); have HQ6 := Lib.hid (HQ5.out.kept hM6); have HM6 := Lib.hid (HM5.out.trans hM6); clear hB hM hP6 hM6 HP5 HQ5 HM5)
  refine (put_c (p := pB) rfl put_pB rfl (HM6.out.tabs HT.out (fun h => h))).mono ?_
  rintro e w7 ⟨a7, c7, rfl, ho7, hM7⟩
  have HO7 := Lib.hid ho7.byts
  have HP7 := Lib.hid (HP6.out.kept hM7)
  have HQ7 := Lib.hid (HQ6.out.kept hM7)
  have HM7 := Lib.hid (HM6.out.trans hM7)
  clear ho7 hM7 HP6 HQ6 HM6
  go_wp2_with fail
  have hA8 := (Mod.refl (fun _ => False) w7).alloc (.cells #[.int .u8 1, .int .u8 1, .int .u8 5] 5)
  refine (same_c (byts_kept HO7.out hA8) (byts_lit w7 [1, 1, 5] _ 3 rfl rfl (by decide))).mono ?_
  rintro e w8 ⟨rfl, hM8⟩
  have hM8' := hA8.trans hM8
  have HP8 := Lib.hid (HP7.out.kept hM8')
  have HQ8 := Lib.hid (HQ7.out.kept hM8')
  have HM8 := Lib.hid (HM7.out.trans hM8')
  rw [show decide (([1, 1, 5] : List UInt8) = [1, 1, 5]) = true from by decide]
  clear hM8 hM8' hA8 HO7 HP7 HQ7 HM7
  have l2 := HQ8.out.load
  have l1 := HP8.out.load
  have hEE : pmEq pA pA = true := by decide
  rw [hEE] at HEQ
  go_wp2_with (first | ((with_reducible refine wpList_load_g 25 (.tmp 2) ?_ ?_ (.pointer (some ⟨w3.heap.size, 0, none⟩)) (.agg (pmC pA)) ?_ l2 ?_); (· exact rfl); (· exact rfl); (· exact rfl)) | ((with_reducible refine wpList_load_g 25 (.tmp 1) ?_ ?_ (.pointer (some ⟨w.heap.size, 0, none⟩)) (.agg (pmC pA)) ?_ l1 ?_); (· exact rfl); (· exact rfl); (· exact rfl)) | ((with_reducible refine wpList_eq_g .eql 25 25 (.tmp 32) (.tmp 33) ?_ ?_ (pmC pA) (pmC pA) ?_ ?_ guard25 true (HEQ.out _) ?_); (· exact rfl); (· exact rfl); (· exact rfl); (· exact rfl)))
  refine (may_c (p := pA) rfl w8).mono ?_
  rintro e w9 ⟨rfl, hM9⟩
  rw [may_pA]
  go_wp2_with fail
  refine (may_c (p := pT) rfl w9).mono ?_
  rintro e w10 ⟨rfl, hM10⟩
  rw [may_pT]
  go_wp2_with fail
  refine (idle_any 5 0 w10).mono ?_
  rintro e w11 ⟨rfl, rfl⟩
  rw [show ((idleN 5 0 : Nat) : Int) = 5 from rfl]
  go_wp2_with fail
  refine (idle_any 5 3 w10).mono ?_
  rintro e w11 ⟨rfl, rfl⟩
  rw [show ((idleN 5 3 : Nat) : Int) = 3 from rfl]
  go_wp2_with fail
  go_ret
  exact ⟨rfl, (HM8.out.trans hM9).trans hM10⟩
end Go.Proofs.YtacgcpofpmkgnaaDoor
