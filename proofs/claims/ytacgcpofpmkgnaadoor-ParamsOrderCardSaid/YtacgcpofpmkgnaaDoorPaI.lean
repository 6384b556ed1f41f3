/- Is a number one of the parameters'? (printed by genknown.py) -/
import Derived.Test.YtacgcpofpmkgnaaDoorPaC
import Derived.Test.YtacgcpofpmkgnaaDoorAppB
namespace Go.Proofs.YtacgcpofpmkgnaaDoor
open Go.RowKit

set_option maxRecDepth 10000 in
theorem eq_any (w : World) (kb j id : Nat) (z : Int) (hz : (j : Int) = z) (f : Value) (b : Bool) (hb : decide (j = id) = b) (hc : w.cell? ⟨kb, 0, none⟩ = some (.int .u64 (id : Int))) :
    Calls Tryd.prog 44 #[.agg #[.int .u64 z, f], .pointer (some ⟨kb, 0, none⟩)] w fun e w' => e = .returned (.bool b) ∧ Mod (fun _ => False) w w' := by
  subst hz
  have hc' := ((Mod.refl (fun _ => False) w).alloc (.cells #[.int .u64 (j : Int), f] 45)).cellAt hc (fun h => h)
  have HB := Lib.hid hb
  clear hb
  go_enter Tryd.func44, Tryd.ntmps44
  go_wp2
  go_ret
  refine ⟨ret_bool ?_, (Mod.refl _ w).alloc _⟩
  rw [← HB.out, Bool.eq_iff_iff]; simp; omega
def idOf : Nat → Nat
  | 0 => 1
  | 1 => 4
  | 2 => 5
  | _ => 8
def inParts (id : Nat) : Bool := decide (id = 1) || decide (id = 4) || decide (id = 5) || decide (id = 8)
set_option maxHeartbeats 2000000 in
set_option maxRecDepth 10000 in
theorem index_any (w : World) (pb kb id : Nat) (hB : Blk w pb partsC 46) (hc : w.cell? ⟨kb, 0, none⟩ = some (.int .u64 (id : Int))) :
    Calls Tryd.prog 51 #[.slice (some ⟨pb, 0, none⟩) 4 4, .func (.func 44) #[] #[.pointer (some ⟨kb, 0, none⟩)]] w fun e w' => ∃ z : Int, e = .returned (.int .i64 z) ∧ (inParts id = true → (0 : Int) ≤ z) ∧ (inParts id = false → z = -1) ∧ Mod (fun _ => False) w w' := by
  have HB := Lib.hid hB
  have HC := Lib.hid hc
  clear hB hc
  go_enter Tryd.func51, Tryd.ntmps51
  go_wp2
  go_loopw [8] (fun s8 wr => ∃ k : Nat, k ≤ 4 ∧ s8 = .int .i64 k ∧ Mod (fun _ => False) w wr ∧ Hid (∀ j, j < k → idOf j ≠ id)) (fun s8 _ => 4 - (intOf s8).toNat)
  case atStart => exact ⟨0, by omega, rfl, Mod.refl _ _, fun j hj => by omega⟩
  case round =>
    obtain ⟨k, hk, rfl, hM, HJ⟩ := hrel
    have hBr := hM.blk HB.out (fun h => h)
    have hcr := Lib.hid (hM.cellAt HC.out (fun h => h))
    have HMr := Lib.hid hM
    have hk4 : k = 0 ∨ k = 1 ∨ k = 2 ∨ k = 3 ∨ k = 4 := by omega
    clear hk hM
    rcases hk4 with rfl | rfl | rfl | rfl | rfl
    · have c0 : wr.cell? ⟨pb, 0, none⟩ = some (.int .u64 1) := hBr.cellAt 0 rfl
      have c1 : wr.cell? ⟨pb, 1, none⟩ = some (.func (.func 33) #[] #[]) := hBr.cellAt 1 rfl
      clear hBr
      by_cases he : 1 = id
      · have HE := Lib.hid he
        have heq := Lib.hid (eq_any wr kb 1 id 1 rfl (.func (.func 33) #[] #[]) true (decide_eq_true he) hcr.out)
        clear he
        go_wp2_with fail
        refine (heq.out).mono ?_
        rintro e w1 ⟨rfl, hM1⟩
        go_wp2
        go_ret
        refine ⟨0, rfl, fun _ => by decide, fun h => ?_, HMr.out.trans hM1⟩
        rw [← HE.out] at h
        exact absurd h (by decide)
      · have HE := Lib.hid he
        have heq := Lib.hid (eq_any wr kb 1 id 1 rfl (.func (.func 33) #[] #[]) false (decide_eq_false he) hcr.out)
        clear he
        go_wp2_with fail
        refine (heq.out).mono ?_
        rintro e w1 ⟨rfl, hM1⟩
        go_wp2
        go_roundw
        case rel => exact ⟨1, by omega, by go_num, HMr.out.trans hM1, fun j hj => by
          by_cases h : j < 0
          · exact HJ.out j h
          · obtain rfl : j = 0 := by omega
            exact HE.out⟩
        case measure => simp [intOf]
    · have c0 : wr.cell? ⟨pb, 2, none⟩ = some (.int .u64 4) := hBr.cellAt 2 rfl
      have c1 : wr.cell? ⟨pb, 3, none⟩ = some (.func (.func 34) #[] #[]) := hBr.cellAt 3 rfl
      clear hBr
      by_cases he : 4 = id
      · have HE := Lib.hid he
        have heq := Lib.hid (eq_any wr kb 4 id 4 rfl (.func (.func 34) #[] #[]) true (decide_eq_true he) hcr.out)
        clear he
        go_wp2_with fail
        refine (heq.out).mono ?_
        rintro e w1 ⟨rfl, hM1⟩
        go_wp2
        go_ret
        refine ⟨1, rfl, fun _ => by decide, fun h => ?_, HMr.out.trans hM1⟩
        rw [← HE.out] at h
        exact absurd h (by decide)
      · have HE := Lib.hid he
        have heq := Lib.hid (eq_any wr kb 4 id 4 rfl (.func (.func 34) #[] #[]) false (decide_eq_false he) hcr.out)
        clear he
        go_wp2_with fail
        refine (heq.out).mono ?_
        rintro e w1 ⟨rfl, hM1⟩
        go_wp2
        go_roundw
        case rel => exact ⟨2, by omega, by go_num, HMr.out.trans hM1, fun j hj => by
          by_cases h : j < 1
          · exact HJ.out j h
          · obtain rfl : j = 1 := by omega
            exact HE.out⟩
        case measure => simp [intOf]
    · have c0 : wr.cell? ⟨pb, 4, none⟩ = some (.int .u64 5) := hBr.cellAt 4 rfl
      have c1 : wr.cell? ⟨pb, 5, none⟩ = some (.func (.func 35) #[] #[]) := hBr.cellAt 5 rfl
      clear hBr
      by_cases he : 5 = id
      · have HE := Lib.hid he
        have heq := Lib.hid (eq_any wr kb 5 id 5 rfl (.func (.func 35) #[] #[]) true (decide_eq_true he) hcr.out)
        clear he
        go_wp2_with fail
        refine (heq.out).mono ?_
        rintro e w1 ⟨rfl, hM1⟩
        go_wp2
        go_ret
        refine ⟨2, rfl, fun _ => by decide, fun h => ?_, HMr.out.trans hM1⟩
        rw [← HE.out] at h
        exact absurd h (by decide)
      · have HE := Lib.hid he
        have heq := Lib.hid (eq_any wr kb 5 id 5 rfl (.func (.func 35) #[] #[]) false (decide_eq_false he) hcr.out)
        clear he
        go_wp2_with fail
        refine (heq.out).mono ?_
        rintro e w1 ⟨rfl, hM1⟩
        go_wp2
        go_roundw
        case rel => exact ⟨3, by omega, by go_num, HMr.out.trans hM1, fun j hj => by
          by_cases h : j < 2
          · exact HJ.out j h
          · obtain rfl : j = 2 := by omega
            exact HE.out⟩
        case measure => simp [intOf]
    · have c0 : wr.cell? ⟨pb, 6, none⟩ = some (.int .u64 8) := hBr.cellAt 6 rfl
      have c1 : wr.cell? ⟨pb, 7, none⟩ = some (.func (.func 36) #[] #[]) := hBr.cellAt 7 rfl
      clear hBr
      by_cases he : 8 = id
      · have HE := Lib.hid he
        have heq := Lib.hid (eq_any wr kb 8 id 8 rfl (.func (.func 36) #[] #[]) true (decide_eq_true he) hcr.out)
        clear he
        go_wp2_with fail
        refine (heq.out).mono ?_
        rintro e w1 ⟨rfl, hM1⟩
        go_wp2
        go_ret
        refine ⟨3, rfl, fun _ => by decide, fun h => ?_, HMr.out.trans hM1⟩
        rw [← HE.out] at h
        exact absurd h (by decide)
      · have HE := Lib.hid he
        have heq := Lib.hid (eq_any wr kb 8 id 8 rfl (.func (.func 36) #[] #[]) false (decide_eq_false he) hcr.out)
        clear he
        go_wp2_with fail
        refine (heq.out).mono ?_
        rintro e w1 ⟨rfl, hM1⟩
        go_wp2
        go_roundw
        case rel => exact ⟨4, by omega, by go_num, HMr.out.trans hM1, fun j hj => by
          by_cases h : j < 3
          · exact HJ.out j h
          · obtain rfl : j = 3 := by omega
            exact HE.out⟩
        case measure => simp [intOf]
    · go_wp2
      go_ret
      refine ⟨-1, rfl, fun h => ?_, fun _ => rfl, HMr.out⟩
      have h0 := HJ.out 0 (by omega)
      have h1 := HJ.out 1 (by omega)
      have h2 := HJ.out 2 (by omega)
      have h3 := HJ.out 3 (by omega)
      simp only [idOf] at h0 h1 h2 h3
      simp only [inParts, Bool.or_eq_true, decide_eq_true_eq] at h
      omega
theorem contains_any (w : World) (pb kb id : Nat) (hB : Blk w pb partsC 46) (hc : w.cell? ⟨kb, 0, none⟩ = some (.int .u64 (id : Int))) :
    Calls Tryd.prog 43 #[.slice (some ⟨pb, 0, none⟩) 4 4, .func (.func 44) #[] #[.pointer (some ⟨kb, 0, none⟩)]] w fun e w' => e = .returned (.bool (inParts id)) ∧ Mod (fun _ => False) w w' := by
  have HX := Lib.hid (index_any w pb kb id hB hc)
  clear hB hc
  go_enter Tryd.func43, Tryd.ntmps43
  go_wp2_with fail
  refine (HX.out).mono ?_
  rintro e w1 ⟨z, rfl, h1, h2, hM⟩
  have H1 := Lib.hid h1
  have H2 := Lib.hid h2
  clear h1 h2
  go_wp2
  go_ret
  refine ⟨ret_bool ?_, hM⟩
  have h1 := H1.out
  have h2 := H2.out
  cases hi : inParts id
  · have := h2 hi; subst this; rfl
  · have := h1 hi; simpa using this
set_option maxRecDepth 10000 in
theorem known_any (w : World) (id : Nat) : Calls Tryd.prog 28 #[.int .u64 (id : Int)] w fun e w' => e = .returned (.bool (knownB id)) ∧ Mod (fun _ => False) w w' := by
  by_cases h2 : id = 2
  · subst h2
    go_enter Tryd.func28, Tryd.ntmps28
    go_wp2_with (first | (go_at_call 19; refine (parts_any _).mono ?_; rintro e w1 ⟨rfl, hM1⟩; have hc1 := hM1.cellAt ((Blk.new w #[.int .u64 2] 22).cellAt 0 rfl) (fun h => h); have HM1 := Lib.hid (((Mod.refl (fun _ => False) w).alloc _).trans hM1); clear hM1) | ((with_reducible refine wpList_store_blk ?_ 46 (.tmp 3) (.tmp 4) ?_ w1.heap.size ?_ #[.int .u64 0, .nilFunc, .int .u64 0, .nilFunc, .int .u64 0, .nilFunc, .int .u64 0, .nilFunc] partsC ?_ 46 (Blk.new _ _ _) size46 ?_ partsC_one ?_); (· exact rfl); (· exact rfl); (· exact rfl); (· exact rfl); (· exact rfl); intro w2 hB2 hM2; have HM2 := Lib.hid (HM1.out.trans (((Mod.refl (fun _ => False) w1).alloc _).trans' hM2 (fun i hi e => by omega))); have hc2 := (((Mod.refl (fun _ => False) w1).alloc (.cells #[.int .u64 0, .nilFunc, .int .u64 0, .nilFunc, .int .u64 0, .nilFunc, .int .u64 0, .nilFunc] 46)).trans' hM2 (fun i hi e => by omega)).cellAt hc1 (fun h => h)))
    go_ret
    exact ⟨rfl, HM2.out⟩
  · have hd : ((id : Int) == 2) = false := by simp; omega
    have hkn : Hid (knownB id = inParts id) := by show _ = _; simp [knownB, inParts, h2]
    clear h2
    go_enter Tryd.func28, Tryd.ntmps28
    go_wp2_with (first | (go_at_call 19; refine (parts_any _).mono ?_; rintro e w1 ⟨rfl, hM1⟩; have hc1 := hM1.cellAt ((Blk.new w #[.int .u64 (id : Int)] 22).cellAt 0 rfl) (fun h => h); have HM1 := Lib.hid (((Mod.refl (fun _ => False) w).alloc _).trans hM1); clear hM1) | ((with_reducible refine wpList_store_blk ?_ 46 (.tmp 3) (.tmp 4) ?_ w1.heap.size ?_ #[.int .u64 0, .nilFunc, .int .u64 0, .nilFunc, .int .u64 0, .nilFunc, .int .u64 0, .nilFunc] partsC ?_ 46 (Blk.new _ _ _) size46 ?_ partsC_one ?_); (· exact rfl); (· exact rfl); (· exact rfl); (· exact rfl); (· exact rfl); intro w2 hB2 hM2; have HM2 := Lib.hid (HM1.out.trans (((Mod.refl (fun _ => False) w1).alloc _).trans' hM2 (fun i hi e => by omega))); have hc2 := (((Mod.refl (fun _ => False) w1).alloc (.cells #[.int .u64 0, .nilFunc, .int .u64 0, .nilFunc, .int .u64 0, .nilFunc, .int .u64 0, .nilFunc] 46)).trans' hM2 (fun i hi e => by omega)).cellAt hc1 (fun h => h); have HCT := Lib.hid (contains_any w2 w1.heap.size w.heap.size id hB2 hc2)))
    refine (HCT.out).mono ?_
    rintro e w3 ⟨rfl, hM3⟩
    rw [← hkn.out]
    go_wp2
    go_ret
    exact ⟨rfl, HM2.out.trans hM3⟩
end Go.Proofs.YtacgcpofpmkgnaaDoor
