/- The contracts of the integers' functions that write: the bytes in a width; of the program and of the document's answer. -/
import Derived.Test.YteegonadodmeeaaDoorVarA
import Derived.Deep.RegionWith
namespace Go.Proofs.YteegonadodmeeaaDoor
open Go.RowKit

theorem Tryd.info5 : (Tryd.prog.info? 5).map (fun i => (i.zero, i.size, i.bytes)) = some (some (.int .u8 0), 1, 1) := by kernel_rfl

set_option maxRecDepth 10000 in
theorem wide_none (n : Nat) (size : Int) (w : World) (hs : -9223372036854775808 ≤ size ∧ size ≤ 9223372036854775807) (hf : fits n size = false) :
    Calls Tryd.prog 97 #[.int .u64 (n : Int), .int .i64 size] w fun e w' => w = w' ∧ e = .returned (.slice none 0 0) := by
  have hfit : ¬ (szN n ≠ 0 ∧ (szN n : Int) ≤ size ∧ (size = 1 ∨ size = 2 ∨ size = 4 ∨ size = 8)) := by rw [← fits_sz, hf]; simp
  have hsz : (szN n : Int) ≤ 8 := by rcases szN_cases n with h | h | h | h | h <;> omega
  have HS := Lib.hid (size_any n)
  generalize szN n = k at *
  obtain ⟨hs1, hs2⟩ := hs
  by_cases h0 : (k : Int) = 0
  · have hk0 : ((k : Int) == 0) = true := by simp [h0]
    have HF := Lib.hid hfit
    have H0 := Lib.hid h0
    clear hfit h0 hf
    go_enter Tryd.func97, Tryd.ntmps97
    go_wp2_with (go_at_call 98; refine (HS.out _).mono ?_; rintro e w' ⟨rfl, rfl⟩)
    go_ret
    exact ⟨rfl, rfl⟩
  have hk0 : ((k : Int) == 0) = false := by simp; omega
  by_cases h1 : size < (k : Int)
  · have HF := Lib.hid hfit
    clear hfit h0 hf
    go_enter Tryd.func97, Tryd.ntmps97
    go_wp2_with (go_at_call 98; refine (HS.out _).mono ?_; rintro e w' ⟨rfl, rfl⟩)
    go_ret
    exact ⟨rfl, rfl⟩
  by_cases h2 : 8 < size
  · have HF := Lib.hid hfit
    clear hfit h0 hf
    go_enter Tryd.func97, Tryd.ntmps97
    go_wp2_with (go_at_call 98; refine (HS.out _).mono ?_; rintro e w' ⟨rfl, rfl⟩)
    go_ret
    exact ⟨rfl, rfl⟩
  have h3 : size = 3 ∨ size = 5 ∨ size = 6 ∨ size = 7 := by omega
  have ho : (onesOf size != 1) = true := by rcases h3 with rfl | rfl | rfl | rfl <;> rfl
  have hsn : 1 ≤ size := by omega
  have HF := Lib.hid hfit
  clear hfit h0 hf h3
  go_enter Tryd.func97, Tryd.ntmps97
  go_wp2_with (first | (go_at_call 98; refine (HS.out _).mono ?_; rintro e w' ⟨rfl, rfl⟩) | (go_at_call 101; refine (oc_any _ _ (by omega) (by omega)).mono ?_; rintro e w' ⟨rfl, rfl⟩))
  go_ret
  exact ⟨rfl, rfl⟩

theorem wide_end (n j : Nat) (w wr : World) (hn : n < 64 * 256 ^ (j - 1)) (h1 : (1 : Int) ≤ j) (h8 : (j : Int) ≤ 8) (hB : Blk wr w.heap.size (List.replicate (j - j) (bv 0) ++ (be j n).map bv).toArray 5) :
    OwnB (wr.setCell ⟨w.heap.size, 0, none⟩ (.int .u8 (bits BinOp.or IntKind.u8 ((n : Int) / 256 ^ (j - 1) % 256) ((tg j : Int) * 64)))).drew w.heap.size (.slice (some ⟨w.heap.size, 0, none⟩) j j) (wd n j) := by
  obtain ⟨e, hx⟩ := wd_first n j (by omega) hn (tg_lt j)
  have hb := hB.set 0 (.int .u8 (bits BinOp.or IntKind.u8 ((n : Int) / 256 ^ (j - 1) % 256) ((tg j : Int) * 64)))
  have hl : (wd n j).length = j := by simp [wd]
  have ht := tg_lt j
  have hv : Value.int .u8 (bits BinOp.or IntKind.u8 ((n : Int) / 256 ^ (j - 1) % 256) ((tg j : Int) * 64)) = bv (UInt8.ofNat (n / 256 ^ (j - 1) + 64 * tg j)) := by
    unfold bv
    rw [or_byte n (j - 1) (tg j) hx ht]
  have hc : (List.replicate (j - j) (bv 0) ++ (be j n).map bv).toArray.setIfInBounds 0 (.int .u8 (bits BinOp.or IntKind.u8 ((n : Int) / 256 ^ (j - 1) % 256) ((tg j : Int) * 64))) = ((wd n j).map bv).toArray := by
    rw [hv, e]
    obtain ⟨k, rfl⟩ : ∃ k, j = k + 1 := ⟨j - 1, by omega⟩
    simp [be_front]
  rw [hc] at hb
  unfold OwnB
  have := own_of_blk (base := w.heap.size) hb (Nat.le_refl _) (n := j) (by simp [hl]) (by unfold maxLen; omega)
  rw [hl]
  exact this

set_option maxHeartbeats 1000000 in
set_option maxRecDepth 10000 in
theorem wide_some (n s : Nat) (w : World) (hT : Tabs w) (hf : fits n (s : Int) = true) :
    Calls Tryd.prog 97 #[.int .u64 (n : Int), .int .i64 (s : Int)] w fun e w' => ∃ v, e = .returned v ∧ OwnB w' w.heap.size v (wd n s) ∧ Mod (fun _ => False) w w' := by
  obtain ⟨hs1, hs8, hn, hs⟩ := fits_bound n s hf
  have hfit := (fits_sz n (s : Int)).1 hf
  have HS := Lib.hid (size_any n)
  have HN := Lib.hid hn
  have HS4 := Lib.hid hs
  have HT := Lib.hid hT
  generalize szN n = k at *
  have hk0 : ((k : Int) == 0) = false := by simp; omega
  have hks : (k : Int) ≤ s := by omega
  have ho : (onesOf (s : Int) != 1) = false := by rcases hs with rfl | rfl | rfl | rfl <;> rfl
  have hs1i : (1 : Int) ≤ s := by omega
  have hs8i : (s : Int) ≤ 8 := by omega
  clear hfit hf hs hn hT hs1 hs8
  obtain ⟨i0, hi, hz0, hz1, hz2⟩ := info_parts Tryd.info5
  go_enter Tryd.func97, Tryd.ntmps97
  go_wp2_with (first | (go_at_call 98; refine (HS.out _).mono ?_; rintro e w' ⟨rfl, rfl⟩) | (go_at_call 101; refine (oc_any _ _ (by omega) (by omega)).mono ?_; rintro e w' ⟨rfl, rfl⟩) | (at_make; go_must (refine wpList_make_full _ rfl _ _ 23 rfl w.heap.size 5 i0 (.int .u8 0) 1 Tryd.underlying23 hi hz0 hz1 _ _ _ _ s rfl rfl rfl rfl (by rw [hz2]; omega) (by unfold maxLen; omega) (Nat.le_refl _) ?_)))
  intro w1 hown hgrow
  have hB := own_full hown
  rw [toList_madeCells_one] at hB
  have hM := (Mod.refl (fun _ => False) w).grown hgrow (fun k h => by simp at h)
  clear hown hgrow
  go_wp2
  go_loopw [31] (fun i wr => ∃ k : Nat, k ≤ s ∧ i = .int .i64 k ∧ Blk wr w.heap.size (List.replicate (s - k) (bv 0) ++ (be k n).map bv).toArray 5 ∧ Mod (fun _ => False) w wr) (fun i _ => s - (intOf i).toNat)
  case atStart => exact ⟨0, Nat.zero_le _, rfl, by rw [be]; simpa [bv] using hB, hM⟩
  case round =>
    clear hB hM
    obtain ⟨j, hj, rfl, hB, hM⟩ := hrel
    by_cases hlt : (j : Int) < s
    · have hc := hB.cellAt (s - 1 - j) (get_rep _ _ _ _ (by omega))
      have hfz := hB.free (s - 1 - j)
      go_wp2
      go_roundw
      case rel =>
        refine ⟨j + 1, by omega, by go_num, ?_, hM.setCell (fun h => by simp at h) _⟩
        have := hB.set (s - 1 - j) (.int .u8 ((n : Int) / 2 ^ (8 * j) % 256))
        rw [set_rep _ _ _ _ _ (by omega), byte_shr] at this
        rw [be_front, List.map_cons, byte_shr]
        exact this
      case measure => simp [intOf]; omega
    · obtain rfl : j = s := by omega
      have hc : wr.cell? ⟨w.heap.size, 0, none⟩ = some (bv (UInt8.ofNat (n / 256 ^ (j - 1)))) := by
        refine hB.cellAt 0 ?_
        obtain ⟨k, rfl⟩ : ∃ k, j = k + 1 := ⟨j - 1, by omega⟩
        simp [be_front]
      have hfz := hB.free 0
      unfold bv at hc
      have HTr := Lib.hid (hM.tabs HT.out (fun h => h))
      have htg : (tg j : Int) ≤ 3 := by have := tg_lt j; omega
      have hw1 : IntKind.i64.wrap ((tg j : Int) * 64) = (tg j : Int) * 64 := IntWalk.i64_in _ (by omega)
      have hw2 : IntKind.u8.wrap ((tg j : Int) * 64) = (tg j : Int) * 64 := IntWalk.u8_in _ (by omega)
      have hw64 : IntKind.u64.wrap (j : Int) = j := IntWalk.u64_in _ (by omega)
      go_wp2
      go_region_with (go_at_call 102; refine (tz_any j wr.drew HTr.out HS4.out).mono ?_; rintro e w' ⟨rfl, rfl⟩)
      all_goals go_wp2
      all_goals go_ret
      all_goals exact ⟨_, rfl, wide_end n j w wr HN.out hs1i hs8i hB, (hM.setCell (fun h => by simp at h) _).drew⟩
end Go.Proofs.YteegonadodmeeaaDoor
