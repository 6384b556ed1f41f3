/- The walk of the law that a frame of a kind that isn't known is passed over. -/
import Derived.Test.YtcnpiclpdgkngaaDoorFbA
import Derived.Test.YtcnpiclpdgkngaaDoorFaV
import Derived.Test.YtcnpiclpdgkngaaDoorLaw
namespace Go.Proofs.YtcnpiclpdgkngaaDoor
open Go.RowKit

theorem Mod.none_below {w w' : World} (h : Mod (fun _ => False) w w') : Below w.heap.size w w' := h.below (Nat.le_refl _) (fun _ _ h => h.elim)
set_option maxHeartbeats 4000000 in
set_option maxRecDepth 10000 in
theorem passes_any {w : World} {v : Value} {l : List UInt8} {x : Int} (hT : Tabs w) (hU : UTabs w) (hb : Byts w v l) (hl : (l.length : Int) ≤ 140737488351232) (hx : 0 ≤ x ∧ x ≤ 255) :
    Calls Tryd.prog 7 #[.int .u8 x, v] w fun e w' => e = .returned (.bool true) ∧ Below w.heap.size w w' := by
  have HT := Lib.hid hT
  have HU := Lib.hid hU
  have HB := Lib.hid hb
  obtain ⟨a, cap, rfl, _⟩ := byts_val hb
  obtain ⟨n, hn⟩ : ∃ n, n = l.length := ⟨_, rfl⟩
  rw [← hn] at hl ⊢
  have HN := Lib.hid hn
  clear hT hU hb hn
  obtain ⟨h0, h1⟩ := hx
  by_cases hn63 : (n : Int) ≤ 63
  · have hz : 0 ≤ 14 + x % 50 ∧ 14 + x % 50 ≤ 63 := by omega
    obtain ⟨k, hk⟩ : ∃ k : Nat, (k : Int) = 14 + x % 50 := ⟨(14 + x % 50).toNat, by omega⟩
    have hk1 : 14 ≤ k := by omega
    have hk2 : k ≤ 63 := by omega
    have HNX : Hid (nextL ([UInt8.ofNat k, UInt8.ofNat n] ++ l ++ [7, 1, 4]) = (HF.zero, n + 2, 6)) := by
      have := pass_next k l [7, 1, 4] hk1 hk2 (by have := HN.out; omega)
      rw [← HN.out] at this
      show nextL _ = _
      simpa using this
    have HOW : Hid (∀ X : World, OwnB (X.alloc (.cells #[.int .u8 (14 + x % 50), .int .u8 (n : Int)] 5)) X.heap.size (.slice (some ⟨X.heap.size, 0, none⟩) 2 2) [UInt8.ofNat k, UInt8.ofNat n]) := by
      intro X
      refine own_lit X _ _ 2 X.heap.size ?_ rfl (by decide) (Nat.le_refl _)
      have b1 : bv (UInt8.ofNat k) = .int .u8 (k : Int) := by have := bv_of (z := (k : Int)) (by omega); simpa using this
      have b2 : bv (UInt8.ofNat n) = .int .u8 (n : Int) := by have := bv_of (z := (n : Int)) (by omega); simpa using this
      simp only [List.map_cons, List.map_nil, b1, b2, hk]
    clear hk hk1 hk2 hz
    obtain ⟨n2, hn2⟩ : ∃ m, m = n + 2 := ⟨_, rfl⟩
    obtain ⟨n5, hn5⟩ : ∃ m, m = n + 5 := ⟨_, rfl⟩
    rw [← hn2] at HNX
    have hi2 : (n2 : Int) ≤ 70 := by omega
    have hi5 : (n5 : Int) ≤ 70 := by omega
    have H2 := Lib.hid hn2
    have H5 := Lib.hid hn5
    clear hn2 hn5
    go_enter Tryd.func7, Tryd.ntmps7
    go_wp2_with fail
    refine (alive_any _ HT.out HU.out).mono ?_
    rintro e w1 ⟨rfl, hM1⟩
    have HM1 := Lib.hid hM1
    have HM2 := Lib.hid (hM1.alloc (.cells #[.int .u8 (14 + x % 50), .int .u8 (n : Int)] 5))
    have HB2 := Lib.hid (byts_kept HB.out HM2.out)
    have HO2 := Lib.hid (HOW.out w1)
    have HZ2 : Hid (w1.heap.size ≤ (w1.alloc (.cells #[.int .u8 (14 + x % 50), .int .u8 (n : Int)] 5)).heap.size) := by show _ ≤ _; simp
    clear hM1 HOW
    obtain ⟨L1, hL1⟩ : ∃ L, L = [UInt8.ofNat k, UInt8.ofNat n] ++ l := ⟨_, rfl⟩
    rw [← hL1] at HNX
    have HL1 := Lib.hid hL1
    have HN1 : Hid (L1.length = n2) := by show _ = _; rw [hL1]; simp [← HN.out]; have := H2.out; omega
    obtain ⟨L2, hL2⟩ : ∃ L, L = L1 ++ [7, 1, 4] := ⟨_, rfl⟩
    rw [← hL2] at HNX
    have HL2 := Lib.hid hL2
    clear hL1 hL2
    go_wp2_with (first
      | ((with_reducible refine wpList_append_b ?_ (.tmp 24) (.tmp 25) ?_ (.slice (some ⟨w1.heap.size, 0, none⟩) 2 2) [UInt8.ofNat k, UInt8.ofNat n] w1.heap.size n2 ?_ HO2.out (.slice a n cap) l ?_ (by have := HB2.out; rw [← HN.out] at this; exact this) L1 HL1.out ?_ ?_ HZ2.out ?_); (· exact rfl); (· exact rfl); (· exact rfl); (· exact rfl); (· have := HN.out; have := H2.out; simp only [List.length_cons, List.length_nil]; omega); (· omega); intro a3 c3 w3 hA3; have HM3 := Lib.hid (hA3.modF ((Mod.refl (fun _ => False) w1).alloc _) (Nat.le_refl _)); have HO3 := Lib.hid hA3.own; have HZ3 : Hid (w1.heap.size ≤ (w3.alloc (.cells #[.int .u8 7, .int .u8 1, .int .u8 4] 5)).heap.size) := (HM3.out.alloc _).size; clear hA3)
      | ((with_reducible refine wpList_append_b ?_ (.tmp 28) (.tmp 29) ?_ (.slice a3 n2 c3) L1 w1.heap.size n5 ?_ (HO3.out.alloc _) (.slice (some ⟨w3.heap.size, 0, none⟩) 3 3) [7, 1, 4] ?_ (byts_lit w3 [7, 1, 4] _ 3 rfl rfl (by decide)) L2 HL2.out ?_ ?_ HZ3.out ?_); (· exact rfl); (· exact rfl); (· exact rfl); (· exact rfl); (· have := HN1.out; have := H2.out; have := H5.out; simp only [List.length_cons, List.length_nil]; omega); (· omega); intro a4 c4 w4 hA4; have HM4 := Lib.hid (hA4.modF (HM3.out.alloc _) (Nat.le_refl _)); have HO4 := Lib.hid hA4.byts; clear hA4)
      | fail)
    have HL5 : Hid ((L2.length : Int) ≤ 100000) := by show _ ≤ _; rw [HL2.out]; have := HN1.out; simp; omega
    refine (next_c 0 0 (n2 : Int) 0 0 HO4.out HL5.out HNX.out rfl rfl rfl rfl rfl).mono ?_
    rintro e w5 ⟨sa, sc, da, dc, rfl, hv5, hM5⟩
    have hk6 : Mod (fun _ => False) w5 (w5.alloc (.cells #[.int .i64 0, .int .u64 0, .slice sa 0 sc, .slice da 0 dc] 26)) := (Mod.refl _ _).alloc _
    have HV6 := Lib.hid (hv5.kept hk6)
    have HM6 := Lib.hid (((HM1.out.trans HM4.out).trans hM5).trans hk6)
    clear hv5 hM5 hk6
    go_wp2_with fail
    refine (hsame_c (k := 0) (i := 0) (k' := 0) (i' := 0) HV6.out (g := HF.zero) ⟨Sl.nil _ _, Sl.nil _ _, by decide, by decide⟩ rfl rfl rfl rfl).mono ?_
    rintro e w7 ⟨rfl, hM7⟩
    rw [show sameHF HF.zero HF.zero = true by decide]
    go_wp2_with fail
    go_ret
    exact ⟨rfl, (HM6.out.trans hM7).none_below⟩
  · go_enter Tryd.func7, Tryd.ntmps7
    go_wp2_with fail
    refine (alive_any _ HT.out HU.out).mono ?_
    rintro e w1 ⟨rfl, hM1⟩
    have HM1 := Lib.hid hM1
    clear hM1
    go_wp2_with fail
    go_ret
    exact ⟨rfl, HM1.out.none_below⟩
end Go.Proofs.YtcnpiclpdgkngaaDoor
