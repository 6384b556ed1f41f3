/- The walk of the law that bytes 0 are paddings. -/
import Derived.Test.YteegonadodmeeaaDoorGcD
import Derived.Test.YteegonadodmeeaaDoorGcE
namespace Go.Proofs.YteegonadodmeeaaDoor
open Go.RowKit

theorem Mod.none_below {w w' : World} (h : Mod (fun _ => False) w w') : Below w.heap.size w w' := h.below (Nat.le_refl _) (fun _ _ h => h.elim)
theorem sum_snoc {l : List Fr} {j : Nat} {f : Fr} (h : l[j]? = some f) : sumA (l.take (j + 1)) = sumA (l.take j) + f.a := by
  rw [take_snoc l j f h]
  simp [sumA]
theorem sum_take (l : List Fr) (j : Nat) : sumA (l.take j) ≤ sumA l := by
  have h := List.take_append_drop j l
  have : sumA l = sumA (l.take j) + sumA (l.drop j) := by
    unfold sumA
    rw [← List.sum_append_nat, ← List.map_append, h]
  omega
set_option maxHeartbeats 4000000 in
set_option maxRecDepth 10000 in
theorem zeros_law {w : World} {z : Int} (hT : Tabs w) (hz : 0 ≤ z ∧ z ≤ 65535) :
    Calls Tryd.prog 8 #[.int .u16 z] w fun e w' => e = .returned (.bool true) ∧ Below w.heap.size w w' := by
  have HAL := Lib.hid (alive_any w hT)
  obtain ⟨k, hk⟩ : ∃ k : Nat, (k : Int) = 1 + z.tmod 4000 := ⟨(1 + z.tmod 4000).toNat, by
    have := Int.tmod_nonneg 4000 hz.1
    omega⟩
  have hk1 : (1 : Int) ≤ (k : Int) ∧ (k : Int) ≤ 4000 := by
    have h1 := Int.tmod_nonneg 4000 hz.1
    have h2 := Int.tmod_lt_of_pos z (show (0 : Int) < 4000 by decide)
    omega
  have hw1 : IntKind.i64.wrap z = z := IntWalk.i64_in _ (by omega)
  have hw2 : IntKind.i64.wrap (z.tmod 4000) = z.tmod 4000 := IntWalk.i64_in _ (by omega)
  have hw3 : IntKind.i64.wrap (1 + z.tmod 4000) = (k : Int) := by rw [← hk]; exact IntWalk.i64_in _ (by omega)
  have HP := Lib.hid (parse_zeros (k := k) (by omega) (by omega))
  obtain ⟨l, hl⟩ : ∃ l, l = zl 4 k := ⟨_, rfl⟩
  rw [← hl] at HP
  have HZ : Hid ((∀ f ∈ l, f.k = 0 ∧ f.a ≤ 1200) ∧ sumA l = k ∧ l.length = (k + 1199) / 1200) := by
    show _ ∧ _
    rw [hl]
    exact ⟨zl_mem 4 k, zl_sum 4 k (by omega)⟩
  obtain ⟨n, hn⟩ : ∃ n, n = l.length := ⟨_, rfl⟩
  have HN := Lib.hid hn
  have hn4 : (n : Int) ≤ 4 := by have := HZ.out.2.2; omega
  obtain ⟨i0, hi, hz0, hz1, hz2⟩ := info_parts Tryd.info5
  clear hT hz hl hn
  go_enter Tryd.func8, Tryd.ntmps8
  go_wp2_with fail
  refine (HAL.out).mono ?_
  rintro e w1 ⟨rfl, hM1⟩
  have HM1 := Lib.hid hM1
  clear hM1 HAL
  go_wp2_with (at_make; go_must (refine wpList_make_full _ rfl _ _ 23 rfl w1.heap.size 5 i0 (.int .u8 0) 1 Tryd.underlying23 hi hz0 hz1 _ _ _ _ k rfl rfl hk.symm hk.symm (by rw [hz2]; omega) (by unfold maxLen; omega) (by simp) ?_); intro w2 hown hgrow)
  have hb : Byts w2 (.slice (some ⟨w1.heap.size, 0, none⟩) k k) (List.replicate k 0) := by
    have h := Sl.ofOwn hown
    rw [Nat.mul_one, show (Value.int .u8 0).cells = #[.int .u8 0] from rfl, toList_madeCells_one] at h
    have e : (List.replicate k (Value.int .u8 0)) = (List.replicate k (0 : UInt8)).map bv := by rw [List.map_replicate]; rfl
    rw [e] at h
    unfold Byts
    rw [List.length_replicate]
    exact h
  have HM2 := Lib.hid (HM1.out.grown hgrow (fun k h => by simp at h))
  have HCL := Lib.hid (parse_c n hb (by simp; omega) HP.out HN.out.symm)
  clear hown hgrow hb
  refine (HCL.out).mono ?_
  rintro e w3 ⟨a3, c3, rfl, ho3, hM3⟩
  have HM3 := Lib.hid (HM2.out.trans hM3)
  have HO3 := Lib.hid ho3
  clear ho3 hM3 HM1 HM2 HCL
  rw [← hk] at *
  have HK := Lib.hid hk
  clear hk hi hz0 hz1 hz2 hw2 hw3 HP
  generalize hgk : (k : Int) = kk at *
  have HGK := Lib.hid hgk
  clear hgk
  go_wp2_with fail
  go_loopw [6, 7] (fun s6 s7 wr => ∃ j s : Nat, s7 = .int .i64 j ∧ s6 = .int .u64 s ∧ j ≤ n ∧ (s : Int) ≤ 4000 ∧ Hid (sumA (l.take j) = s) ∧ wr = w3) (fun _ s7 _ => n - (intOf s7).toNat)
  case atStart => exact ⟨0, 0, rfl, rfl, Nat.zero_le _, by decide, by show _ = _; simp [sumA], rfl⟩
  case round =>
    obtain ⟨j, s, rfl, rfl, hj, hs, HS, rfl⟩ := hrel
    by_cases hjn : (j : Int) < n
    · have hjl : j < l.length := by have := HN.out; omega
      have hf : l[j]? = some l[j] := List.getElem?_eq_getElem hjl
      generalize l[j] = f at hf
      obtain ⟨hfk, hfa⟩ := HZ.out.1 f (List.mem_of_getElem? hf)
      obtain ⟨g, cap, vd, vr, hv, _, hr⟩ := HO3.out.at hf
      simp only [Value.slice.injEq] at hv
      obtain ⟨rfl, _, _⟩ := hv
      have c0 : wr.cell? ⟨g, j * 24, none⟩ = some (.int .i64 0) := by have := hr 0 (.int .i64 f.k) rfl; rw [hfk] at this; exact this
      have c2 : wr.cell? ⟨g, j * 24 + 2, none⟩ = some (.int .u64 (f.a : Int)) := hr 2 _ rfl
      have hai : (f.a : Int) ≤ 1200 := by omega
      have HF := Lib.hid hf
      have hle : (s : Int) + (f.a : Int) ≤ 4000 := by
        have h1 := sum_snoc hf
        have h2 := sum_take l (j + 1)
        have h3 := HZ.out.2.1
        have h4 := HS.out
        have h5 := HGK.out
        omega
      obtain ⟨A, hA⟩ : ∃ A, A = f.a := ⟨_, rfl⟩
      rw [← hA] at c2 hai hle
      have HA := Lib.hid hA
      clear hr hfk hfa hf hjl hA
      go_wp2_with fail
      go_roundw
      case rel => exact ⟨j + 1, s + A, by go_num, by go_num, by omega, by omega, (by show _ = _; rw [sum_snoc HF.out, HS.out, HA.out]), by first | rfl | trivial⟩
      case measure => simp [intOf]; omega
    · have hjn' : j = n := by omega
      have hsk : (s : Int) = kk := by
        have h1 := HS.out
        rw [List.take_of_length_le (by have := HN.out; omega), HZ.out.2.1] at h1
        rw [← HGK.out, h1]
      have hnk : (n : Int) = (kk + 1199).tdiv 1200 := by
        have h1 := HN.out
        have h2 := HZ.out.2.2
        have h3 := HGK.out
        rw [Int.tdiv_eq_ediv_of_nonneg (by omega)]
        omega
      go_wp2_with fail
      go_ret
      exact ⟨rfl, HM3.out.none_below⟩
end Go.Proofs.YteegonadodmeeaaDoor
