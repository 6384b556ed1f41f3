/- The contracts of the integers' functions that write: the document's answer's bytes in a width; an integer's bytes, of both. -/
import Derived.Test.YteegonadodmeeaaDoorVarB
namespace Go.Proofs.YteegonadodmeeaaDoor
open Go.RowKit

theorem wide_last (n j : Nat) (w wr : World) (V : Value) (hn : n < 64 * 256 ^ (j - 1)) (h1 : (1 : Int) ≤ j) (h8 : (j : Int) ≤ 8) (hB : Blk wr w.heap.size (List.replicate (j - j) (bv 0) ++ (be j n).map bv).toArray 5)
    (hV : V = bv (UInt8.ofNat (n / 256 ^ (j - 1) + 64 * tg j))) : OwnB (wr.setCell ⟨w.heap.size, 0, none⟩ V) w.heap.size (.slice (some ⟨w.heap.size, 0, none⟩) j j) (wd n j) := by
  obtain ⟨e, hx⟩ := wd_first n j (by omega) hn (tg_lt j)
  have hb := hB.set 0 V
  have hl : (wd n j).length = j := by simp [wd]
  have hc : (List.replicate (j - j) (bv 0) ++ (be j n).map bv).toArray.setIfInBounds 0 V = ((wd n j).map bv).toArray := by
    rw [hV, e]
    obtain ⟨k, rfl⟩ : ∃ k, j = k + 1 := ⟨j - 1, by omega⟩
    simp [be_front]
  rw [hc] at hb
  unfold OwnB
  have := own_of_blk (base := w.heap.size) hb (Nat.le_refl _) (n := j) (by simp [hl]) (by unfold maxLen; omega)
  rw [hl]
  exact this
theorem wide_one (n j : Nat) (w wr : World) (h : j = 1) (hB : Blk wr w.heap.size (List.replicate (j - j) (bv 0) ++ (be j n).map bv).toArray 5) :
    OwnB wr w.heap.size (.slice (some ⟨w.heap.size, 0, none⟩) j j) (wd n j) := by
  subst h
  have e : wd n 1 = be 1 n := by simp [wd, tg]
  unfold OwnB
  rw [e]
  have := own_of_blk (base := w.heap.size) (n := 1) (by simpa using hB) (Nat.le_refl _) (by simp) (by unfold maxLen; omega)
  simpa using this
theorem div_step (n j : Nat) : ((n / 256 ^ j : Nat) : Int) / 256 = ((n / 256 ^ (j + 1) : Nat) : Int) := by
  rw [Nat.pow_succ, ← Nat.div_div_eq_div_mul]; simp
theorem byte_mod (n j : Nat) : ((n / 256 ^ j : Nat) : Int) % 256 = ((UInt8.ofNat (n / 256 ^ j)).toNat : Int) := by simp

theorem quo_le {n s j : Nat} {q : Int} (hf : fits n (s : Int) = true) (hq : ((n / 256 ^ j : Nat) : Int) = q) : q ≤ 18446744073709551615 := by
  have := Nat.div_le_self n (256 ^ j)
  rw [fits_iff] at hf
  omega
set_option maxRecDepth 10000 in
theorem refwide_none (n : Nat) (size : Int) (w : World) (hf : fits n size = false) :
    Calls Tryd.prog 90 #[.int .u64 (n : Int), .int .i64 size] w fun e w' => w = w' ∧ e = .returned (.slice none 0 0) := by
  have HF := Lib.hid hf
  clear hf
  go_enter Tryd.func90, Tryd.ntmps90
  go_wp2_with (go_at_call 99; refine (fits_any _ _ _).mono ?_; rintro e w' ⟨rfl, rfl⟩; rw [HF.out])
  go_ret
  exact ⟨rfl, rfl⟩

set_option maxHeartbeats 1000000 in
set_option maxRecDepth 10000 in
theorem refwide_some (n s : Nat) (w : World) (hf : fits n (s : Int) = true) :
    Calls Tryd.prog 90 #[.int .u64 (n : Int), .int .i64 (s : Int)] w fun e w' => ∃ v, e = .returned v ∧ OwnB w' w.heap.size v (wd n s) ∧ Mod (fun _ => False) w w' := by
  obtain ⟨hs1, hs8, hn, hs⟩ := fits_bound n s hf
  have HF := Lib.hid hf
  have HN := Lib.hid hn
  have HS4 := Lib.hid hs
  have hs1i : (1 : Int) ≤ s := by omega
  have hs8i : (s : Int) ≤ 8 := by omega
  clear hf hs hn hs1 hs8
  obtain ⟨i0, hi, hz0, hz1, hz2⟩ := info_parts Tryd.info5
  go_enter Tryd.func90, Tryd.ntmps90
  go_wp2_with (first | (go_at_call 99; refine (fits_any _ _ _).mono ?_; rintro e w' ⟨rfl, rfl⟩; rw [HF.out]) | (at_make; go_must (refine wpList_make_full _ rfl _ _ 23 rfl w.heap.size 5 i0 (.int .u8 0) 1 Tryd.underlying23 hi hz0 hz1 _ _ _ _ s rfl rfl rfl rfl (by rw [hz2]; omega) (by unfold maxLen; omega) (Nat.le_refl _) ?_)))
  intro w1 hown hgrow
  have hB := own_full hown
  rw [toList_madeCells_one] at hB
  have hM := (Mod.refl (fun _ => False) w).grown hgrow (fun k h => by simp at h)
  clear hown hgrow
  go_wp2
  go_loopw [0, 6] (fun m i wr => ∃ k : Nat, k ≤ s ∧ i = .int .i64 ((s : Int) - 1 - k) ∧ m = .int .u64 ((n / 256 ^ k : Nat) : Int) ∧ Blk wr w.heap.size (List.replicate (s - k) (bv 0) ++ (be k n).map bv).toArray 5 ∧ Mod (fun _ => False) w wr) (fun _ i _ => (intOf i + 1).toNat)
  case atStart => exact ⟨0, Nat.zero_le _, by go_num, by simp, by rw [be]; simpa [bv] using hB, hM⟩
  case round =>
    clear hB hM
    obtain ⟨j, hj, rfl, rfl, hB, hM⟩ := hrel
    by_cases hlt : (j : Int) < s
    · have hc := hB.cellAt (s - 1 - j) (get_rep _ _ _ _ (by omega))
      have hfz := hB.free (s - 1 - j)
      have hd := Lib.hid (div_step n j)
      have hm := Lib.hid (byte_mod n j)
      have hq0 : 0 ≤ ((n / 256 ^ j : Nat) : Int) := Int.natCast_nonneg _
      generalize hqq : ((n / 256 ^ j : Nat) : Int) = q at *
      have HQ := Lib.hid hqq
      clear hqq
      go_wp2
      go_roundw
      case rel =>
        refine ⟨j + 1, by omega, by go_num, ?_, ?_, hM.setCell (fun h => by simp at h) _⟩
        · rw [← hd.out, IntWalk.u64_quo q 256 ⟨hq0, quo_le HF.out HQ.out, by omega⟩]
        · have := hB.set (s - 1 - j) (.int .u8 (q % 256))
          rw [set_rep _ _ _ _ _ (by omega), hm.out] at this
          rw [be_front, List.map_cons, hm.out]
          exact this
      case measure => simp [intOf]; omega
    · obtain rfl : j = s := by omega
      obtain ⟨X, hX, hX0, hX1, hc⟩ : ∃ X : Int, X = ((n / 256 ^ (j - 1) : Nat) : Int) ∧ 0 ≤ X ∧ X < 64 ∧ wr.cell? ⟨w.heap.size, 0, none⟩ = some (.int .u8 X) := by
        obtain ⟨_, hx⟩ := wd_first n j (by omega) HN.out (tg_lt j)
        refine ⟨_, rfl, Int.natCast_nonneg _, by omega, hB.cellAt 0 ?_⟩
        obtain ⟨k, rfl⟩ : ∃ k, j = k + 1 := ⟨j - 1, by omega⟩
        simp only [Nat.add_sub_cancel] at hx ⊢
        have e : (UInt8.ofNat (n / 256 ^ k)).toNat = n / 256 ^ k := UInt8.toNat_ofNat_of_lt' (by show _ < 256; omega)
        simp only [be_front, bv, Nat.sub_self, List.replicate_zero, List.nil_append, List.map_cons, e]
        rfl
      have HX := Lib.hid hX
      clear hX
      have hfz := hB.free 0
      have HV : ∀ t : Nat, tg j = t → Value.int .u8 (X + 64 * t) = bv (UInt8.ofNat (n / 256 ^ (j - 1) + 64 * tg j)) := by
        intro t ht
        have := tg_lt j
        rw [HX.out, ht]
        unfold bv
        rw [UInt8.toNat_ofNat_of_lt' (by show _ < 256; have := HX.out; omega)]
        simp
      have HVH := Lib.hid HV
      clear HV
      rcases HS4.out with e | e | e | e
      · have h2 : ((j : Int) == 2) = false := by simp; omega
        have h4 : ((j : Int) == 4) = false := by simp; omega
        have h8 : ((j : Int) == 8) = false := by simp; omega
        have HE := Lib.hid e
        clear e
        go_wp2
        go_ret
        exact ⟨_, rfl, wide_one n j w wr HE.out hB, hM⟩
      · have h2 : ((j : Int) == 2) = true := by simp; omega
        have HE := Lib.hid e
        clear e
        go_wp2
        go_ret
        exact ⟨_, rfl, wide_last n j w wr _ HN.out hs1i hs8i hB (HVH.out 1 (by rw [HE.out]; rfl)), hM.setCell (fun h => by simp at h) _⟩
      · have h2 : ((j : Int) == 2) = false := by simp; omega
        have h4 : ((j : Int) == 4) = true := by simp; omega
        have HE := Lib.hid e
        clear e
        go_wp2
        go_ret
        exact ⟨_, rfl, wide_last n j w wr _ HN.out hs1i hs8i hB (HVH.out 2 (by rw [HE.out]; rfl)), hM.setCell (fun h => by simp at h) _⟩
      · have h2 : ((j : Int) == 2) = false := by simp; omega
        have h4 : ((j : Int) == 4) = false := by simp; omega
        have h8 : ((j : Int) == 8) = true := by simp; omega
        have HE := Lib.hid e
        clear e
        go_wp2
        go_ret
        exact ⟨_, rfl, wide_last n j w wr _ HN.out hs1i hs8i hB (HVH.out 3 (by rw [HE.out]; rfl)), hM.setCell (fun h => by simp at h) _⟩

theorem OwnB.nil (w : World) (B : Nat) : OwnB w B (.slice none 0 0) [] := World.ownsRow_nil _ _ _ _
theorem wide_any (n : Nat) (size : Int) (w : World) (hT : Tabs w) (hs : -9223372036854775808 ≤ size ∧ size ≤ 9223372036854775807) :
    Calls Tryd.prog 97 #[.int .u64 (n : Int), .int .i64 size] w fun e w' => ∃ v, e = .returned v ∧ OwnB w' w.heap.size v (wideL n size) ∧ Mod (fun _ => False) w w' := by
  by_cases hf : fits n size = true
  · have hp : 0 ≤ size := by rw [fits_iff] at hf; omega
    obtain ⟨s, rfl⟩ := Int.eq_ofNat_of_zero_le hp
    have e : wideL n (s : Int) = wd n s := by simp [wideL, hf]
    rw [e]
    exact wide_some n s w hT hf
  · have e : wideL n size = [] := by simp [wideL, hf]
    rw [e]
    exact (wide_none n size w hs (by simpa using hf)).mono fun e w' ⟨h1, h2⟩ => ⟨_, h2, OwnB.nil _ _, h1 ▸ Mod.refl _ _⟩
theorem refwide_any (n : Nat) (size : Int) (w : World) :
    Calls Tryd.prog 90 #[.int .u64 (n : Int), .int .i64 size] w fun e w' => ∃ v, e = .returned v ∧ OwnB w' w.heap.size v (wideL n size) ∧ Mod (fun _ => False) w w' := by
  by_cases hf : fits n size = true
  · have hp : 0 ≤ size := by rw [fits_iff] at hf; omega
    obtain ⟨s, rfl⟩ := Int.eq_ofNat_of_zero_le hp
    have e : wideL n (s : Int) = wd n s := by simp [wideL, hf]
    rw [e]
    exact refwide_some n s w hf
  · have e : wideL n size = [] := by simp [wideL, hf]
    rw [e]
    exact (refwide_none n size w (by simpa using hf)).mono fun e w' ⟨h1, h2⟩ => ⟨_, h2, OwnB.nil _ _, h1 ▸ Mod.refl _ _⟩
theorem szN_le (n : Nat) : szN n ≤ 8 := by rcases szN_cases n with h | h | h | h | h <;> omega
set_option maxRecDepth 10000 in
theorem put_any (n : Nat) (w : World) (hT : Tabs w) :
    Calls Tryd.prog 89 #[.int .u64 (n : Int)] w fun e w' => ∃ v, e = .returned v ∧ OwnB w' w.heap.size v (putL n) ∧ Mod (fun _ => False) w w' := by
  have HT := Lib.hid hT
  clear hT
  have HS : Hid (-9223372036854775808 ≤ (szN n : Int) ∧ (szN n : Int) ≤ 9223372036854775807) := by have := szN_le n; exact ⟨by omega, by omega⟩
  go_enter Tryd.func89, Tryd.ntmps89
  go_wp2_with (first | (go_at_call 98; refine (size_any _ _).mono ?_; rintro e w' ⟨rfl, rfl⟩) | (go_at_call 97; refine (wide_any _ _ _ HT.out HS.out).mono ?_; rintro e w' ⟨v, rfl, hv, hM⟩))
  go_ret
  exact ⟨v, rfl, hv, hM⟩
set_option maxRecDepth 10000 in
theorem refput_any (n : Nat) (w : World) :
    Calls Tryd.prog 28 #[.int .u64 (n : Int)] w fun e w' => ∃ v, e = .returned v ∧ OwnB w' w.heap.size v (putL n) ∧ Mod (fun _ => False) w w' := by
  go_enter Tryd.func28, Tryd.ntmps28
  go_wp2_with (first | (go_at_call 91; refine (refsize_any _ _).mono ?_; rintro e w' ⟨rfl, rfl⟩) | (go_at_call 90; refine (refwide_any _ _ _).mono ?_; rintro e w' ⟨v, rfl, hv, hM⟩))
  go_ret
  exact ⟨v, rfl, hv, hM⟩
end Go.Proofs.YteegonadodmeeaaDoor
